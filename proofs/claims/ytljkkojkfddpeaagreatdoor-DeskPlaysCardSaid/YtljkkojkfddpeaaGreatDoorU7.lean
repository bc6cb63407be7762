/- Texts Fir1 Fir2 SortLay Fir3 Fir4 Fir5 Fir6 Fir7 Fir8 Fir9 Fir10 Rnd1 Rnd2 Rnd3 Rnd4 Open RndLaw SpNaive2 RndLaw2 SpSub. -/
import Derived.Test.YtljkkojkfddpeaaGreatDoorU6
import Derived.Shelf.SlSortCmp.WholeK
import Derived.Ground.SlsfProg
import Derived.Shelf.SlSortCmp.NoneTotal
import Derived.ChangeKeysEq
import Derived.Deep.Slices
import Derived.SizedLaws
import Derived.OpenShut
import Derived.ChangeArms
set_option maxRecDepth 20000
set_option maxHeartbeats 16000000
set_option linter.unusedVariables false
set_option linter.unusedSimpArgs false
namespace Go.TF
open Go Go.RowKit Go.Proofs Go.Proofs.Tryz
section
def MO(l:List Prd)(f:List Fct)(r:Rul)(x:Vrs)(k:Nat):Int:=if 0≤r.src∧r.src<k then Jy l f r x else r.n
theorem Qa{l:List Prd}{f:List Fct}{r:Rul}{x:Vrs}(ok:ROk l r):MO l f r x r.body.xs.length=Jy l f r x:=by
 unfold MO;split
 ·rfl
 ·rename_i h;have:=ok.src;unfold Jy;rw[if_neg (by omega)]
theorem EA{f:List Fct}{x:Vrs}{t:Ltl}:GK f x t=true↔isF f (groundF t.atom x)≠t.neg:=by unfold GK;rw[decide_eq_true_eq]
theorem Qc{r:Rul}{k:Nat}(hk:k<r.body.xs.length):CO r k=r.body.xs[k]:=by simp[CO,Ae3,hk]
def tHold(x:Bool×Fct):Value:=.tuple #[.bool x.1,x.2.val]
theorem ZO(B:Aq)(hB:B.ok)(p:Prg)(hp:p.In B.h)(f:Sl Fct)(hf:Cv f B.h)(n:Int)(r:Rul)(h0:0≤n)(hr:p.rules.xs[n.toNat]?=some r)(ok:ROk p.preds.xs r)(okf:FOk p.preds.xs f.xs)(x:Vrs)(hx:KE x) :
  Fn prog 175 [p.val,f.val,.int .i64 n,x.val] B (fun v _=>v=tHold (Cm p.preds.xs f.xs r x)):=by
 have Er:=hp.rules.is.el.el hr;have ir:=hp.rules.each _ (Afk hr);have ah:=Bc ok.preds ok.head;have hlen:=ok.len;have hkp:r.head.pred.toNat<p.preds.xs.length:=by have:=ah.pred;omega
 have Eh:=hp.preds.at hkp;have hpo:p.preds.xs[r.head.pred.toNat]=Al p.preds.xs r.head.pred:=(BT ah.pred.1 ah.pred.2).symm;have hkd:=ok.preds _ (Ba ah.pred);simp only[AE,decide_eq_true_eq] at hkd;refine Fo hB func175 rfl ntmps175 fun e I=>Sr<|Abj (O.box (v:=.agg #[_,_]) I rfl rfl fun b4 w I=>Abj (O.box (v:=.agg #[_,_,_]) I rfl rfl fun b7 w I=>Ab Ag<|Abj (O.alloc I Aii rfl fun b9 w I=>Abh<|Sr<|Ap (Abr AU rfl)<|As0 (Ld I Cc 2 1 1 rfl rfl rfl)<|Ai Mv<|Ap (AbJ Er Aic Aiv rfl rfl h0 rfl)<|AbB (v:=.agg #[_,_,_,_,_]) (Abn C0 rfl (I.rd (Er.rd.part 0 5)) rfl rfl)<|Abj (O.alloc I Aip rfl fun b10 w I=>Abj (Ab3 (v:=.agg #[_,_,_,_,_]) I C0 0 rfl rfl rfl rfl rfl rfl (Nb rfl) rfl fun w I=>Abh<|Sr<|Ap (Abu Bw rfl)<|Ax (Ld I AP 0 0 2 rfl rfl rfl)<|Ay (Ld I CI 2 0 3 rfl rfl rfl)<|Abj (Abm I call183 (Yh _ I.j6 r.head ir.head x ah.len ah.err) rfl fun w I=>Abj (O.alloc I Aii rfl fun b11 w I=>Abj (Sz I AH 0 rfl rfl rfl rfl fun w I=>Abh<|Sr<|Ap (Abr BJ rfl)<|Ai (Ld I An 1 3 1 rfl rfl rfl)<|Ap (Abr BL rfl)<|Abj (Si I An 0 rfl rfl rfl rfl fun w I=>Abh<|Abi<|Sr<|Ap (Abr AG rfl)<|As0 (Ld I Bi 1 4 1 rfl rfl rfl)<|Ai (AbA Aib rfl)<|Ai Mv<|Abh<|WP.block ?_)))))))));refine Abx (σ:=Nat) (fun k=>[(1,f.val),(4,Pt b4),(7,Pt b7),(9,Pt b9),(10,Pt b10),(11,Pt b11),(29,r.body.val),(30,.int .i64 r.body.xs.length),(31,.int .i64 k)])
  (fun k w=>(∃h1,B.h.le h1∧Inv B h1 [box b11 [.int .i64 r.head.pred,.int .i64 (Em r.head x 0),.int .i64 (Em r.head x 1),.int .i64 (MO p.preds.xs f.xs r x k)] 83,box b10 r.enc 64,box b9 [.int .i64 0,.int .i64 0,.int .i64 0,.int .i64 0] 83,box b7 x.enc 167,box b4 p.enc 25] w)∧k≤r.body.xs.length∧∀j,j<k→∀hj:j<r.body.xs.length,GK f.xs x r.body.xs[j]=true) (fun k=>r.body.xs.length-k)
  ⟨0,⟨rfl,rfl,rfl,rfl,rfl,rfl,rfl,rfl,rfl,trivial⟩,?_,Afa _,fun j hj=>by omega⟩ ?_
 ·have:MO p.preds.xs f.xs r x 0=r.n:=by unfold MO;rw[if_neg (by omega)]
  rw[this];exact⟨_,Ae.le.refl _,I⟩
 rintro k e w ⟨⟨h1,gl,I⟩,hk,hn⟩;have ir:=ir.le gl;have hf:=hf.le gl;have Eh:=Eh.le gl;refine Sr<|Ad (AbC rfl rfl)<|Abh<|Abi ?_;refine Abl rfl (fun h=>?_) (fun h=>?_)
 ·have hk':k<r.body.xs.length:=by omega
  have E1:=ir.body.is.at hk';have ab:=Bc ok.preds (ok.body _ (Ae5 hk'));have pb:=ab.pf ok.five hx 0;have hiff:=GJ (x:=groundF r.body.xs[k].atom x) okf.srt;refine Abk<|Abi<|WP.block<|Sr<|Ai Mv<|Ap (Ix E1 Aib Ail rfl rfl)<|Ay (Abn EQ rfl (I.rd (E1.rd.part 0 3)) rfl rfl)<|Abj (O.alloc I Aiu rfl fun b13 w I=>Ai Ag<|Abj (Sy I EQ 0 rfl rfl rfl rfl fun w I=>Abh<|Sr<|As0 Mv<|Ap (Abr Bk rfl)<|Ax (Ld I AP 0 1 2 rfl rfl rfl)<|Ay (Ld I CI 4 0 3 rfl rfl rfl)<|Abj (Abm I call183 (Yh _ I.j6 r.body.xs[k].atom (ir.body.each _ (Ae5 hk')) x ab.len ab.err) rfl fun w I=>Abj (Abm I call141 (Mj _ I.j6 f hf okf.pf okf.srt _ pb) rfl fun w I=>Au Mv<|Ai (Y.extract rfl rfl)<|Ab (Y.extract rfl rfl)<|Ai Ag<|Ab Ag<|Abh<|Abi<|Sr<|Ab Mv<|Ap (Abu BK rfl)<|Ab (Ld I Br 0 0 1 rfl rfl rfl)<|Ad (AdX AiK rfl rfl)<|Abh ?_))));refine Abl rfl (fun h8=>?_) (fun h8=>?_)
  ·have hno:Bv f.xs r x=false:=by
    unfold Bv;rw[AgI];exact⟨_,Ae5 hk',by rw[EA];exact fun hh=>hh h8⟩
   refine Sr<|AbB (v:=.agg #[.int .i64 _,.int .i64 _,.int .i64 _,.int .i64 _]) (Y.build Ve Aii rfl rfl)<|Ab Ag<|Abj (Sz I AH 3 rfl rfl rfl rfl fun w I=>Abh<|Wr ?_);exact BH.mk (vs:=[.bool _,.agg #[_,_,_,_]]) rfl ⟨rfl,⟨_,_,_,_,_,rfl,AH,I.l5 3 rfl 0 4,rfl,rfl⟩,trivial⟩ I.j5 (by simp only[tup,tHold,Cm,hno];rfl)
  refine Abk<|Sr<|Ai Mv<|Ap (Abr AV rfl)<|Ai (Ld I An 2 2 1 rfl rfl rfl)<|Ad (AbI rfl rfl)<|Abh ?_;refine Abl rfl (fun h10=>?_) (fun h10=>?_)
  ·have hs0:0≤r.src:=by omega
   obtain⟨hng,hkq⟩:=ok.pos hs0;have hlo:CO r r.src=r.body.xs[k]:=by rw[←h10];exact Qc hk'
   rw[hlo] at hng;have his:isF f.xs (groundF r.body.xs[k].atom x)=true:=by
    rcases Bool.eq_false_or_eq_true (isF f.xs (groundF r.body.xs[k].atom x)) with hh|hh
    ·exact hh
    ·exact absurd (hh.trans hng.symm) h8
   obtain⟨hlt,hpl⟩:=hiff.1 his;have Ef:=hf.at hlt;have hlk:=SG okf.srt hlt hpl;have hval:MO p.preds.xs f.xs r x (k+1)=liftV p.preds.xs[r.head.pred.toNat].kind f.xs[DC f.xs (groundF r.body.xs[k].atom x)].v r.n:=by
    unfold MO Jy;rw[if_pos ⟨hs0,by omega⟩,if_pos hs0,hlo,hlk,hpo];rfl
   have hI:I64 (f.xs[DC f.xs (groundF r.body.xs[k].atom x)].v+r.n):=by
    have h1:=DA.1 (Da (okf.fine _ (Ae5 hlt)));have h2:=ok.n;unfold I64;omega
   refine AbM AC I 15 (by kernel_rfl)<|Fp (fun _ w us hl I=>Abu At rfl)<|Fs (fun _ w us hl I=>Ld I A7 5 0 1 rfl rfl rfl)<|Fp (fun _ w us hl I=>Abu Bu rfl)<|Fi (fun _ w us hl I=>Ld I An 1 0 1 rfl rfl rfl)<|Fp (fun _ w us hl I=>AbJ Eh Aia Aim rfl rfl ah.pred.1 rfl)<|Fp (fun _ w us hl I=>Abr A3 rfl)<|Fi (fun _ w us hl I=>Abn An rfl (I.rd ((Eh.rd.part 2 1).le hl)) rfl rfl)<|Fs (fun _ w us hl I=>Mv)<|Fi (fun _ w us hl I=>Mv)<|Fp (fun _ w us hl I=>Ix Ef Ah8 Aih rfl rfl)<|Fp (fun _ w us hl I=>Abr BL rfl)<|Fi (fun _ w us hl I=>Abn An rfl (I.rd ((Ef.rd.part 3 1).le hl)) rfl rfl)<|Fp (fun _ w us hl I=>Abr BJ rfl)<|Fi (fun _ w us hl I=>Ld I An 2 3 1 rfl rfl rfl)<|AcZ (fun _=>Aj _) (fun _ w us hl I=>Abm I call220 (Ta _ I.j6 _ _ _ (by rw[hpo];exact hkd.2.2) hI) rfl (fun w' I'=>⟨rfl,I'⟩))<|AbX fun _ w hl I=>?_;try unfold CT
   refine Ap (Abr BL rfl)<|Abj (Si I An 1 rfl rfl rfl rfl fun w I=>Abh<|Abg<|Ai (Dd rfl rfl)<|Ai Mv<|Abh ?_);exact⟨k+1,⟨⟨rfl,rfl,rfl,rfl,rfl,rfl,rfl,rfl,rfl,trivial⟩,⟨_,gl.trans hl,by rw[hval];exact I.drop⟩,by omega,fun j hj hj'=>by
    rcases Afd.1 hj with h'|rfl
    ·exact hn j h' hj'
    ·exact EA.2 h8⟩,by omega⟩
  ·have hval:MO p.preds.xs f.xs r x (k+1)=MO p.preds.xs f.xs r x k:=by
    unfold MO;have:(0≤r.src∧r.src<((k+1:Nat):Int))↔(0≤r.src∧r.src<(k:Int)):=by omega
    simp only[this]
   refine Abk<|Abg<|Ai (Dd rfl rfl)<|Ai Mv<|Abh ?_;exact⟨k+1,⟨⟨rfl,rfl,rfl,rfl,rfl,rfl,rfl,rfl,rfl,trivial⟩,⟨h1,gl,by rw[hval];exact I.drop⟩,by omega,fun j hj hj'=>by
    rcases Afd.1 hj with h'|rfl
    ·exact hn j h' hj'
    ·exact EA.2 h8⟩,by omega⟩
 obtain rfl:k=r.body.xs.length:=by omega
 have hyes:Bv f.xs r x=true:=by
  unfold Bv;rw[Aff];intro t ht;obtain⟨j,hj,rfl⟩:=Afz ht;exact hn j hj hj
 rw[Qa ok] at I;refine Abz<|Abi<|AbM AC I 2 (by kernel_rfl)<|Fz (fun _ w us hl I=>Ld I AH 0 0 4 rfl rfl rfl)<|Fb (fun _ w us hl I=>Ag)<|AbX fun _ w hl I=>?_;try unfold CT
 refine Abj (Sz I AH 2 rfl rfl rfl rfl fun w I=>Abh<|Wr ?_);exact BH.mk (vs:=[.bool _,.agg #[_,_,_,_]]) rfl ⟨rfl,⟨_,_,_,_,_,rfl,AH,I.l5 2 rfl 0 4,rfl,rfl⟩,trivial⟩ I.j5 (by simp only[tup,tHold,Cm,hyes];rfl)
def NN(x:Fct)(k:Nat):Int:=if k=0 then x.a else x.b
theorem TQ{a:Atm}{x:Fct}(h2:a.args.xs.length≤2){k:Nat}(hk:k<a.args.xs.length):(FB a x).drop k=(a.args.xs[k],NN x k)::(FB a x).drop (k+1):=by
 have hl:(FB a x).length=a.args.xs.length:=by unfold FB;rw[List.length_zip];simp only[Ae6,Afc];omega
 rw[AfZ (by omega)];congr 1;unfold FB;rw[List.getElem_zip];have:k=0∨k=1:=by omega
 rcases this with rfl|rfl<;>rfl
theorem V0{a:Atm}{x:Fct}:(FB a x).drop a.args.xs.length=[]:=by
 apply AfV;unfold FB;rw[List.length_zip];omega
theorem TR{b:Vrs}{v n:Int}(hv:0≤v∧v<3):([b.x0,b.x1,b.x2].set v.toNat n).map (fun n:Int=>Value.int .i64 n)=(b.set v n).enc:=by
 have:v=0∨v=1∨v=2:=by omega
 rcases this with rfl|rfl|rfl<;>rfl
def Ml:Vrs→List (Trm×Int)→Vrs×Bool
 |b,[]=>(b,true)
 |b,(t,n)::r=>if L3 b t n then (b,false) else Ml (HZ b t n) r
def wcF(b:Vrs)(a:Atm)(x:Fct):Vrs×Bool:=if a.pred≠x.pred then (b,false) else Ml b (FB a x)
theorem TS:∀(ps:List (Trm×Int)) (b:Vrs),L4 b ps=if (Ml b ps).2 then some (Ml b ps).1 else none
 |[],b=>rfl
 |(t,n)::r,b=>by
  rw[L4,Ml];split
  ·rfl
  ·exact TS r _
theorem Qe(b:Vrs)(a:Atm)(x:Fct):Ni b a x=if (wcF b a x).2 then some (wcF b a x).1 else none:=by
 unfold Ni wcF;split
 ·rfl
 ·exact TS _ _
def tWith(c:Vrs×Bool):Value:=.tuple #[c.1.val,.bool c.2]
theorem Yq(B:Aq)(hB:B.ok)(b:Vrs)(a:Atm)(ha:a.In B.h)(x:Fct)(h2:a.args.xs.length≤2)(hv:∀t∈a.args.xs,t.var=true→0≤t.n∧t.n<3):Fn prog 214 [b.val,a.val,x.val] B (fun v _=>v=tWith (wcF b a x)):=by
 refine Fo hB func214 rfl ntmps214 fun e I=>Sr<|Abj (O.box (v:=.agg #[_,_,_]) I rfl rfl fun b3 w I=>Abj (O.box (v:=.agg #[_,_]) I rfl rfl fun b4 w I=>Abj (O.box (v:=.agg #[_,_,_,_]) I rfl rfl fun b5 w I=>Abj (O.alloc I zeroValue239 rfl fun b6 w I=>Ab Ag<|Abh<|Abi<|Sr<|Ap (Abu AW rfl)<|Ai (Ld I An 2 0 1 rfl rfl rfl)<|Ap (Abu Bu rfl)<|Ai (Ld I An 1 0 1 rfl rfl rfl)<|Ad (AbK rfl rfl)<|Abh ?_))));refine Abl rfl (fun h1=>?_) (fun h1=>?_)
 ·refine Sr<|Ay (Ld I Dz 3 0 3 rfl rfl rfl)<|Abj (Sy I Dz 0 rfl rfl rfl rfl fun w I=>Ab Ag<|Abh<|Wr ?_);exact BH.mk (vs:=[.agg #[_,_,_],.bool _]) rfl ⟨⟨_,_,_,_,_,rfl,Dz,I.l5 0 rfl 0 3,rfl,rfl⟩,rfl,trivial⟩ I.j5 (by simp only[tup,tWith,wcF];rw[if_pos h1])
 refine Abk<|Abi<|Sr<|Ap (Abr Bb rfl)<|As0 (Ld I CN 2 1 1 rfl rfl rfl)<|Ai (AbA Aid rfl)<|Ai Mv<|Abh<|WP.block ?_;refine Abx (σ:=Nat×Vrs) (fun s=>[(3,Pt b3),(4,Pt b4),(5,Pt b5),(6,Pt b6),(18,a.args.val),(19,.int .i64 a.args.xs.length),(20,.int .i64 s.1)])
  (fun s w=>Inv B B.h [box b6 [.int .i64 0,.int .i64 0,.int .i64 0] 239,box b5 x.enc 83,box b4 a.enc 61,box b3 s.2.enc 239] w∧s.1≤a.args.xs.length∧Ml b (FB a x)=Ml s.2 ((FB a x).drop s.1)) (fun s=>a.args.xs.length-s.1)
  ⟨(0,b),⟨rfl,rfl,rfl,rfl,rfl,rfl,rfl,trivial⟩,I,Afa _,rfl⟩ ?_
 rintro⟨k,c⟩ e w ⟨I,hk,hw⟩;dsimp only at I hk hw ⊢;refine Sr<|Ad (AbC rfl rfl)<|Abh<|Abi ?_;refine Abl rfl (fun h=>?_) (fun h=>?_)
 ·have hk':k<a.args.xs.length:=by omega
  have E1:=Sl.Is.at ha hk';have hpart:(([.int .i64 x.a,.int .i64 x.b]:List Value).drop ((k:Int).toNat*1)).take 1=[.int .i64 (NN x k)]:=by
   have:k=0∨k=1:=by omega
   rcases this with rfl|rfl<;>rfl
  have hpd:=TQ (x:=x) h2 hk';rw[hpd,Ml] at hw;have htn:=hv _ (Ae5 hk');refine Abk<|Abi<|WP.block<|Sr<|Ai Mv<|Ap (Ix E1 Aid Aik rfl rfl)<|Ax (Abn BZ rfl (I.rd (E1.rd.part 0 2)) rfl rfl)<|Abj (O.alloc I Aig rfl fun b9 w I=>Ai Ag<|Abj (Sx I BZ 0 rfl rfl rfl rfl fun w I=>Abh<|Sr<|Ap (Abr BG rfl)<|Ai (Ld I An 2 1 1 rfl rfl rfl)<|Ap (Abr B8 rfl)<|Ai (Ld I An 2 2 1 rfl rfl rfl)<|AbB (v:=.agg #[.int .i64 _,.int .i64 _]) (AcW Aiz zeroValue255 Aij rfl rfl)<|Ai Mv<|Ai (AcG Aiz An rfl rfl (AfR _) (by omega) (part:=[.int .i64 (NN x k)]) hpart rfl rfl)<|Ai Ag<|Abh ?_));cases hvar:a.args.xs[k].var
  ·by_cases hc:a.args.xs[k].n≠NN x k
   ·have hcant:L3 c a.args.xs[k] (NN x k):=.inl ⟨hvar,hc⟩;rw[if_pos hcant] at hw;refine WP.block<|Abi<|Sr<|Ap (Abu AK rfl)<|Ab (Ld I Br 0 0 1 rfl rfl rfl)<|AT (Y.b (Y.not rfl) ((by rw[hvar];rfl)))<|Ab Mv<|Gp (Abr AI rfl)<|Gi (Ld I An 0 1 1 rfl rfl rfl)<|Gi Mv<|GT (Abs (AbK rfl rfl) (hc))<|Ab (Abo rfl rfl)<|Ab Ag<|Abh<|Abw rfl<|Abk<|Abw rfl<|Sr<|Ay (Ld I Dz 4 0 3 rfl rfl rfl)<|Abj (Sy I Dz 1 rfl rfl rfl rfl fun w I=>Ab Ag<|Abh<|Wr ?_);exact BH.mk (vs:=[.agg #[_,_,_],.bool _]) rfl ⟨⟨_,_,_,_,_,rfl,Dz,I.l5 1 rfl 0 3,rfl,rfl⟩,rfl,trivial⟩ I.j5 (by simp only[tup,tWith,wcF];rw[if_neg h1,hw])
   ·have hcant:¬L3 c a.args.xs[k] (NN x k):=by rintro(⟨_,q⟩|⟨q,_⟩);exact hc q;rw[hvar] at q;cases q
    rw[if_neg hcant] at hw;have hbn:HZ c a.args.xs[k] (NN x k)=c:=by unfold HZ;rw[hvar];rfl
    rw[hbn] at hw;refine WP.block<|Abi<|Sr<|Ap (Abu AK rfl)<|Ab (Ld I Br 0 0 1 rfl rfl rfl)<|AT (Y.b (Y.not rfl) ((by rw[hvar];rfl)))<|Ab Mv<|Gp (Abr AI rfl)<|Gi (Ld I An 0 1 1 rfl rfl rfl)<|Gi Mv<|GF (Abt (AbK rfl rfl) (hc))<|Ab (Abo rfl rfl)<|Ab Ag<|Abh<|Abq rfl<|Abg<|Ap (Abu AK rfl)<|Ab (Ld I Br 0 0 1 rfl rfl rfl)<|AF (Y.b Mv (hvar))<|Gg<|Gg<|Gg<|Gg<|Gg<|Ab (Abp rfl rfl)<|Ab Mv<|Gg<|Gg<|Gg<|Gg<|Gg<|Gg<|Ab (Abp rfl rfl)<|Ab Ag<|Abh<|Abq rfl<|Sr<|Ap (Abu AK rfl)<|AF (Y.b (Ld I Br 0 0 1 rfl rfl rfl) (hvar))<|Ab Ag<|Abh<|Abq rfl<|Abk<|Abg<|Ai (Dd rfl rfl)<|Ai Mv<|Abh ?_;exact⟨(k+1,c),⟨⟨rfl,rfl,rfl,rfl,rfl,rfl,rfl,trivial⟩,I.drop,by dsimp only;omega,hw⟩,by dsimp only;omega⟩
  ·have ht:=htn hvar;by_cases hc0:0≤c.at a.args.xs[k].n
   ·by_cases hc1:c.at a.args.xs[k].n≠NN x k
    ·have hcant:L3 c a.args.xs[k] (NN x k):=.inr ⟨hvar,hc0,hc1⟩;rw[if_pos hcant] at hw;refine WP.block<|Abi<|Sr<|Ap (Abu AK rfl)<|Ab (Ld I Br 0 0 1 rfl rfl rfl)<|AF (Y.b (Y.not rfl) ((by rw[hvar];rfl)))<|Ab Mv<|Gg<|Gg<|Gg<|Gg<|Ab (Abp rfl rfl)<|Ab Ag<|Abh<|Abq rfl<|Abg<|Ap (Abu AK rfl)<|Ab (Ld I Br 0 0 1 rfl rfl rfl)<|AT (Y.b Mv (hvar))<|Gp (Abr AI rfl)<|Gi (Ld I An 0 1 1 rfl rfl rfl)<|Gp (Ab1 Aiy Aij rfl rfl ht.1 ht.2)<|Gi (Abn An rfl (Ac8 (I.l5 4 rfl 0 3) ht.1 ht.2) rfl rfl)<|GT (Abs (AbZ rfl rfl) (hc0))<|Ab (Abo rfl rfl)<|Ab Mv<|Gp (Abr AI rfl)<|Gi (Ld I An 0 1 1 rfl rfl rfl)<|Gp (Ab1 Aiy Aij rfl rfl ht.1 ht.2)<|Gi (Abn An rfl (Ac8 (I.l5 4 rfl 0 3) ht.1 ht.2) rfl rfl)<|Gi Mv<|GT (Abs (AbK rfl rfl) (hc1))<|Ab (Abo rfl rfl)<|Ab Ag<|Abh<|Abw rfl<|Sr<|Ay (Ld I Dz 4 0 3 rfl rfl rfl)<|Abj (Sy I Dz 1 rfl rfl rfl rfl fun w I=>Ab Ag<|Abh<|Wr ?_);exact BH.mk (vs:=[.agg #[_,_,_],.bool _]) rfl ⟨⟨_,_,_,_,_,rfl,Dz,I.l5 1 rfl 0 3,rfl,rfl⟩,rfl,trivial⟩ I.j5 (by simp only[tup,tWith,wcF];rw[if_neg h1,hw])
    ·have hcant:¬L3 c a.args.xs[k] (NN x k):=by rintro(⟨q,_⟩|⟨_,_,q⟩);rw[hvar] at q;cases q;exact hc1 q
     rw[if_neg hcant] at hw;have hbn:HZ c a.args.xs[k] (NN x k)=c.set a.args.xs[k].n (NN x k):=by unfold HZ;rw[hvar];rfl
     rw[hbn] at hw;refine WP.block<|Abi<|Sr<|Ap (Abu AK rfl)<|Ab (Ld I Br 0 0 1 rfl rfl rfl)<|AF (Y.b (Y.not rfl) ((by rw[hvar];rfl)))<|Ab Mv<|Gg<|Gg<|Gg<|Gg<|Ab (Abp rfl rfl)<|Ab Ag<|Abh<|Abq rfl<|Abg<|Ap (Abu AK rfl)<|Ab (Ld I Br 0 0 1 rfl rfl rfl)<|AT (Y.b Mv (hvar))<|Gp (Abr AI rfl)<|Gi (Ld I An 0 1 1 rfl rfl rfl)<|Gp (Ab1 Aiy Aij rfl rfl ht.1 ht.2)<|Gi (Abn An rfl (Ac8 (I.l5 4 rfl 0 3) ht.1 ht.2) rfl rfl)<|GT (Abs (AbZ rfl rfl) (hc0))<|Ab (Abo rfl rfl)<|Ab Mv<|Gp (Abr AI rfl)<|Gi (Ld I An 0 1 1 rfl rfl rfl)<|Gp (Ab1 Aiy Aij rfl rfl ht.1 ht.2)<|Gi (Abn An rfl (Ac8 (I.l5 4 rfl 0 3) ht.1 ht.2) rfl rfl)<|Gi Mv<|GF (Abt (AbK rfl rfl) (hc1))<|Ab (Abo rfl rfl)<|Ab Ag<|Abh<|Abq rfl<|Sr<|Ap (Abu AK rfl)<|AT (Y.b (Ld I Br 0 0 1 rfl rfl rfl) (hvar))<|Ab Ag<|Abh<|Abw rfl<|Abg<|Ap (Abr AI rfl)<|Ai (Ld I An 0 1 1 rfl rfl rfl)<|Ai Mv<|Ap (Ab1 Aiy Aij rfl rfl ht.1 ht.2)<|Abj (AcQ I An 4 rfl rfl (f:=fun n:Int=>Value.int .i64 n) (L:=[c.x0,c.x1,c.x2]) (i:=a.args.xs[k].n.toNat) (by omega) (by simp only[Ae6,Afc];omega) rfl rfl rfl fun w I=>Abh<|Abg<|Ai (Dd rfl rfl)<|Ai Mv<|Abh ?_);rw[TR ht] at I;exact⟨(k+1,c.set a.args.xs[k].n (NN x k)),⟨⟨rfl,rfl,rfl,rfl,rfl,rfl,rfl,trivial⟩,I.drop,by dsimp only;omega,hw⟩,by dsimp only;omega⟩
   ·have hcant:¬L3 c a.args.xs[k] (NN x k):=by rintro(⟨q,_⟩|⟨_,q,_⟩);rw[hvar] at q;cases q;exact hc0 q
    rw[if_neg hcant] at hw;have hbn:HZ c a.args.xs[k] (NN x k)=c.set a.args.xs[k].n (NN x k):=by unfold HZ;rw[hvar];rfl
    rw[hbn] at hw;refine WP.block<|Abi<|Sr<|Ap (Abu AK rfl)<|Ab (Ld I Br 0 0 1 rfl rfl rfl)<|AF (Y.b (Y.not rfl) ((by rw[hvar];rfl)))<|Ab Mv<|Gg<|Gg<|Gg<|Gg<|Ab (Abp rfl rfl)<|Ab Ag<|Abh<|Abq rfl<|Abg<|Ap (Abu AK rfl)<|Ab (Ld I Br 0 0 1 rfl rfl rfl)<|AT (Y.b Mv (hvar))<|Gp (Abr AI rfl)<|Gi (Ld I An 0 1 1 rfl rfl rfl)<|Gp (Ab1 Aiy Aij rfl rfl ht.1 ht.2)<|Gi (Abn An rfl (Ac8 (I.l5 4 rfl 0 3) ht.1 ht.2) rfl rfl)<|GF (Abt (AbZ rfl rfl) (hc0))<|Ab (Abo rfl rfl)<|Ab Mv<|Gg<|Gg<|Gg<|Gg<|Gg<|Gg<|Ab (Abp rfl rfl)<|Ab Ag<|Abh<|Abq rfl<|Sr<|Ap (Abu AK rfl)<|AT (Y.b (Ld I Br 0 0 1 rfl rfl rfl) (hvar))<|Ab Ag<|Abh<|Abw rfl<|Abg<|Ap (Abr AI rfl)<|Ai (Ld I An 0 1 1 rfl rfl rfl)<|Ai Mv<|Ap (Ab1 Aiy Aij rfl rfl ht.1 ht.2)<|Abj (AcQ I An 4 rfl rfl (f:=fun n:Int=>Value.int .i64 n) (L:=[c.x0,c.x1,c.x2]) (i:=a.args.xs[k].n.toNat) (by omega) (by simp only[Ae6,Afc];omega) rfl rfl rfl fun w I=>Abh<|Abg<|Ai (Dd rfl rfl)<|Ai Mv<|Abh ?_);rw[TR ht] at I;exact⟨(k+1,c.set a.args.xs[k].n (NN x k)),⟨⟨rfl,rfl,rfl,rfl,rfl,rfl,rfl,trivial⟩,I.drop,by dsimp only;omega,hw⟩,by dsimp only;omega⟩
 obtain rfl:k=a.args.xs.length:=by omega
 rw[V0,Ml] at hw;refine Abz<|Sr<|Ay (Ld I Dz 3 0 3 rfl rfl rfl)<|Abj (Sy I Dz 0 rfl rfl rfl rfl fun w I=>Ab Ag<|Abh<|Wr ?_);exact BH.mk (vs:=[.agg #[_,_,_],.bool _]) rfl ⟨⟨_,_,_,_,_,rfl,Dz,I.l5 0 rfl 0 3,rfl,rfl⟩,rfl,trivial⟩ I.j5 (by simp only[tup,tWith,wcF];rw[if_neg h1,hw])
end
section
theorem Qg(B:Aq)(hB:B.ok)(p:Prg)(hp:p.In B.h)(f:Sl Fct)(hf:Cv f B.h)(n:Int)(r:Rul)(h0:0≤n)(hr:p.rules.xs[n.toNat]?=some r)(ok:ROk p.preds.xs r)(okf:FOk p.preds.xs f.xs)(x:Vrs)(hx:KE x)(y:Bool×Fct)(hy:Cm p.preds.xs f.xs r x=y) :
  Fn prog 175 [p.val,f.val,.int .i64 n,x.val] B (fun v _=>v=tHold y):=hy▸ZO B hB p hp f hf n r h0 hr ok okf x hx
def NO(f:List Fct)(n:Int)(r:Rul)(bs:List Vrs):List Stp:=((bs.map mx0).filter (Bv f r)).map (Stp.mk n)
theorem Qh(f:List Fct)(n:Int)(r:Rul):NO f n r []=[]:=rfl
theorem Qj(f:List Fct)(n:Int)(r:Rul)(a b:List Vrs):NO f n r (a++b)=NO f n r a++NO f n r b:=by simp[NO]
theorem TT(f:List Fct)(n:Int)(r:Rul)(a:List Vrs):(NO f n r a).length≤a.length:=by
 unfold NO;rw[Afw];exact AfY (AfO ..) (by simp)
theorem V4(f:List Fct)(n:Int)(r:Rul)(b:Vrs):NO f n r [b]=if Bv f r (mx0 b) then [⟨n,mx0 b⟩] else []:=by
 unfold NO;cases h:Bv f r (mx0 b)<;>simp[h]
def MP(f:List Fct)(a:Atm)(l:List Atm)(b:Vrs)(x:Fct):List Vrs:=if (wcF b a x).2 then KF f l (wcF b a x).1 else []
theorem NP(f:List Fct)(a:Atm)(l:List Atm)(b:Vrs):KF f (a::l) b=f.flatMap (MP f a l b):=by
 rw[KF];congr 1;funext x;rw[Qe];unfold MP;cases (wcF b a x).2<;>rfl
theorem Qk(f:List Fct):∀(l:List Atm) (b:Vrs),(KF f l b).length≤f.length ^ l.length
 |[],b=>by simp[KF]
 |a::l,b=>by
  rw[NP,List.length_flatMap,Ae6,Nat.pow_succ,Nat.mul_comm];have:∀g:List Fct,(g.map fun x=>(MP f a l b x).length).sum≤g.length*f.length ^ l.length:=by
   intro g;induction g with
   |nil=>simp
   |cons y g ih=>
    have h1:(MP f a l b y).length≤f.length ^ l.length:=by
     unfold MP;split
     ·exact Qk f l _
     ·simp
    rw[AfQ,List.sum_cons,Ae6,AfP];omega
  exact this f
theorem KJ{α β:Type}(g:α→List β){l:List α}{k:Nat}(hk:k<l.length):(l.take (k+1)).flatMap g=(l.take k).flatMap g++g l[k]:=by
 rw[Afi hk,Afm];simp
theorem NQ{α β:Type}(g:α→List β)(l:List α)(k:Nat):((l.take k).flatMap g).length≤(l.flatMap g).length:=by
 conv=>rhs;rw[←AgG k l,Afm,Ae2]
 omega
theorem BOk.vs{l:List Atm}{b:Vrs}(h:BOk l b):KE (mx0 b):=by
 have h0:=h 0 (by omega);have h1:=h 1 (by omega);have h2:=h 2 (by omega);have e0:b.at 0=b.x0:=rfl;have e1:b.at 1=b.x1:=rfl;have e2:b.at 2=b.x2:=rfl;rw[e0] at h0;rw[e1] at h1;rw[e2] at h2;refine⟨?_,?_,?_⟩<;>simp only[mx0]
 ·rcases h0 with h|⟨q1,q2,_⟩<;>omega
 ·rcases h1 with h|⟨q1,q2,_⟩<;>omega
 ·rcases h2 with h|⟨q1,q2,_⟩<;>omega
theorem ZP{l:List Atm}{a:Atm}{b:Vrs}{x:Fct}(ha:a∈l)(hv:∀t∈a.args.xs,t.var=true→0≤t.n∧t.n<3)(hx:PF x)(hb:BOk l b)(h:(wcF b a x).2=true):BOk l (wcF b a x).1:=by
 have hw:=Qe b a x;rw[h,if_pos rfl] at hw;unfold Ni at hw;split at hw
 ·cases hw
 ·exact JB ha hv (PA hx) hb hw
structure AtS(l:Sl Atm)(h:Ae):Prop where
 is:l.Is 2 Atm.enc h
 cap:l.xs.length≤l.cap
 each:∀a∈l.xs,a.In h
theorem AtS.le{l:Sl Atm}{h h':Ae}(x:AtS l h)(hl:h.le h'):AtS l h':=⟨x.is.le hl,x.cap,fun a ha=>(x.each a ha).le hl⟩
@[reducible] def XA(bo:Nat)(a:Option Addr)(c:Nat)(m:Nat)(acc:List Stp):List SA:=[box bo [.slice a m c] 129,Ao 169 4 (.slice a m c) m (acc.flatMap Stp.enc)]
structure ZQ(h:Ae)(p:Prg)(f:Sl Fct)(n:Int)(r:Rul)(bn bp bf bo bl:Nat):Prop where
 kn:Ci h bn [.int .i64 n]
 kp:Ci h bp p.enc
 kf:Ci h bf [f.val]
 kl:Ci h bl [.func (.func 213) #[] #[Pt bn,Pt bp,Pt bf,Pt bo,Pt bl]]
 p:p.In h
 f:Cv f h
theorem ZQ.le{h h':Ae}{p:Prg}{f:Sl Fct}{n:Int}{r:Rul}{bn bp bf bo bl:Nat}(x:ZQ h p f n r bn bp bf bo bl)(hl:h.le h'):ZQ h' p f n r bn bp bf bo bl:=⟨x.kn.le hl,x.kp.le hl,x.kf.le hl,x.kl.le hl,x.p.le hl,x.f.le hl⟩
theorem snocS(acc:List Stp)(y:Stp):(acc++[y]).flatMap Stp.enc=acc.flatMap Stp.enc++y.enc:=by simp
theorem XB(p:Prg)(f:Sl Fct)(n:Int)(r:Rul)(bn bp bf bo bl:Nat)(h0:0≤n)(hr:p.rules.xs[n.toNat]?=some r)(ok:ROk p.preds.xs r)(okf:FOk p.preds.xs f.xs):∀(ls:List Atm) {B:Aq} {h:Ae} {w:World} (l:Sl Atm) (b:Vrs) (a:Option Addr) (c m:Nat) (acc:List Stp),l.xs=ls→Inv B h (XA bo a c m acc) w→m=acc.length→ZQ h p f n r bn bp bf bo bl→AtS l h→
   (∀x∈ls,x∈Gm r.body.xs)→BOk (Gm r.body.xs) b→m+(KF f.xs ls b).length≤1000000000→
   Calls prog 213 [b.val,l.val,Pt bn,Pt bp,Pt bf,Pt bo,Pt bl].toArray w
    (fun ed w'=>ed=.returned (.tuple #[])∧∃h' a' c' m',h.le h'∧Inv B h' (XA bo a' c' m' (acc++NO f.xs n r (KF f.xs ls b))) w'∧m'=(acc++NO f.xs n r (KF f.xs ls b)).length)
 |[],B,h,w,l,b,a,c,m,acc,hls0,I,hm,E,hA,hin,hb,hsz=>by
  have hvs:=hb.vs;refine AbV (args:=[b.val,l.val,Pt bn,Pt bp,Pt bf,Pt bo,Pt bl]) func213 rfl ntmps213 (by kernel_rfl) (by simp) fun e=>Sr<|Abj (O.box (v:=.agg #[_,_,_]) I rfl rfl fun b7 w I=>Abh<|Abi<|Sr<|As0 Mv<|Ai (AbA Aix rfl)<|AT (Abs (AbI rfl rfl) ((by rw[hls0];rfl)))<|Abh<|Abw rfl<|Sr<|Ai (Abn An rfl (I.rd (E.kn.rd.part 0 1)) rfl rfl)<|AbB (v:=.agg #[.int .i64 _,.int .i64 _,.int .i64 _,.int .i64 _]) (Y.build Xj AiE rfl rfl)<|Abj (O.alloc I AiE rfl fun b9 w I=>Abj (Sz I Cy 0 rfl rfl rfl rfl fun w I=>Abh<|Abi<|Sr<|Ai Mv<|Abh ?_)));refine Acc (σ:=Unit) (fun _=>[(2,Pt bn),(3,Pt bp),(4,Pt bf),(5,Pt bo),(9,Pt b9)]) (fun _ w=>Inv B h (box b9 (Stp.mk n (mx0 b)).enc 169::XA bo a c m acc) w) ?_ ?_
  ·refine WP.block ?_;refine Abx (σ:=Nat) (fun k=>[(2,Pt bn),(3,Pt bp),(4,Pt bf),(5,Pt bo),(7,Pt b7),(9,Pt b9),(22,.int .i64 k)]) (fun k w=>Inv B h (box b9 [.int .i64 n,.int .i64 (if 0<k then max 0 b.x0 else 0),.int .i64 (if 1<k then max 0 b.x1 else 0),.int .i64 (if 2<k then max 0 b.x2 else 0)] 169::box b7 b.enc 239::XA bo a c m acc) w∧k≤3) (fun k=>3-k)
    ⟨0,⟨rfl,rfl,rfl,rfl,rfl,rfl,rfl,trivial⟩,I,Afa _⟩ ?_
   rintro k e w ⟨I,hk⟩;refine Sr<|Ad (AbC rfl rfl)<|Abh<|Abi ?_;refine Abl rfl (fun h4=>?_) (fun h4=>?_)
   ·have hk3:k=0∨k=1∨k=2:=by omega
    rcases hk3 with rfl|rfl|rfl
    ·refine Abk<|Abi<|WP.block<|Sr<|Ai Mv<|Ai Ag<|Abh<|Abg<|Ai Mv<|Ai Mv<|Ap (Ab1 Aiy Aij rfl rfl (by omega) (by omega))<|Ai (Ld I An 1 0 1 rfl rfl rfl)<|Ai (Y.max2 rfl rfl)<|Ap (Abr BV rfl)<|Ap (Ab1 Aiq Aij rfl rfl (by omega) (by omega))<|Abj (Si I An 0 rfl rfl rfl rfl fun w I=>Abh<|Abg<|Ai (Dd rfl rfl)<|Ai Mv<|Abh ?_);exact⟨1,⟨⟨rfl,rfl,rfl,rfl,rfl,rfl,rfl,trivial⟩,I,by omega⟩,by omega⟩
    ·refine Abk<|Abi<|WP.block<|Sr<|Ai Mv<|Ai Ag<|Abh<|Abg<|Ai Mv<|Ai Mv<|Ap (Ab1 Aiy Aij rfl rfl (by omega) (by omega))<|Ai (Ld I An 1 1 1 rfl rfl rfl)<|Ai (Y.max2 rfl rfl)<|Ap (Abr BV rfl)<|Ap (Ab1 Aiq Aij rfl rfl (by omega) (by omega))<|Abj (Si I An 0 rfl rfl rfl rfl fun w I=>Abh<|Abg<|Ai (Dd rfl rfl)<|Ai Mv<|Abh ?_);exact⟨2,⟨⟨rfl,rfl,rfl,rfl,rfl,rfl,rfl,trivial⟩,I,by omega⟩,by omega⟩
    ·refine Abk<|Abi<|WP.block<|Sr<|Ai Mv<|Ai Ag<|Abh<|Abg<|Ai Mv<|Ai Mv<|Ap (Ab1 Aiy Aij rfl rfl (by omega) (by omega))<|Ai (Ld I An 1 2 1 rfl rfl rfl)<|Ai (Y.max2 rfl rfl)<|Ap (Abr BV rfl)<|Ap (Ab1 Aiq Aij rfl rfl (by omega) (by omega))<|Abj (Si I An 0 rfl rfl rfl rfl fun w I=>Abh<|Abg<|Ai (Dd rfl rfl)<|Ai Mv<|Abh ?_);exact⟨3,⟨⟨rfl,rfl,rfl,rfl,rfl,rfl,rfl,trivial⟩,I,by omega⟩,by omega⟩
   ·obtain rfl:k=3:=by omega
    exact Abz<|⟨(),⟨rfl,rfl,rfl,rfl,rfl,trivial⟩,(I.front 0 rfl).weak (by exact List.Sublist.cons_cons _ (Af3 _ _))⟩
  rintro _ e w I;have hL:KF f.xs [] b=[b]:=rfl;rw[hL] at hsz;simp only[hL,V4];cases hh:Bv f.xs r (mx0 b)
  ·refine Abi<|Sr<|Ax (Abn As rfl (I.rd (E.kp.rd.part 0 2)) rfl rfl)<|As0 (Abn CD rfl (I.rd (E.kf.rd.part 0 1)) rfl rfl)<|Ai (Abn An rfl (I.rd (E.kn.rd.part 0 1)) rfl rfl)<|Ap (Abr BV rfl)<|Ay (Ld I CI 0 1 3 rfl rfl rfl)<|Abj (Abm I call175 (Qg _ I.j6 p E.p f E.f n r h0 hr ok okf (mx0 b) hvs (false,default) (by unfold Cm;rw[hh];rfl)) rfl fun w I=>Au Mv<|Ab (Y.extract rfl rfl)<|Az (Y.extract rfl rfl)<|Abj (O.alloc I Aii rfl fun b12 w I=>Ab Ag<|Abj (Sz I AH 0 rfl rfl rfl rfl fun w I=>Abh<|Sr<|Ab Mv<|Abh<|Abq rfl<|Abk<|Wr ?_)));refine⟨.inl rfl,[],trivial,rfl,h,a,c,m,Ae.le.refl _,?_,?_⟩
   ·simp only[Afy,if_false,Aft];exact I.drop.drop
   ·simp only[Afy,if_false,Aft];exact hm
  ·refine Abi<|Sr<|Ax (Abn As rfl (I.rd (E.kp.rd.part 0 2)) rfl rfl)<|As0 (Abn CD rfl (I.rd (E.kf.rd.part 0 1)) rfl rfl)<|Ai (Abn An rfl (I.rd (E.kn.rd.part 0 1)) rfl rfl)<|Ap (Abr BV rfl)<|Ay (Ld I CI 0 1 3 rfl rfl rfl)<|Abj (Abm I call175 (Qg _ I.j6 p E.p f E.f n r h0 hr ok okf (mx0 b) hvs (true,CP p.preds.xs f.xs r (mx0 b)) (by unfold Cm;rw[hh];rfl)) rfl fun w I=>Au Mv<|Ab (Y.extract rfl rfl)<|Az (Y.extract rfl rfl)<|Abj (O.alloc I Aii rfl fun b12 w I=>Ab Ag<|Abj (Sz I AH 0 rfl rfl rfl rfl fun w I=>Abh<|Sr<|Ab Mv<|Abh<|Abw rfl<|Abg<|As0 (Ld I G4 2 0 1 rfl rfl rfl)<|Az (Ld I Cy 1 0 4 rfl rfl rfl)<|Abj (AbY (xs:=[⟨n,mx0 b⟩]) (enc:=Stp.enc) I Aif Aiw AiE rfl (Nb rfl) rfl rfl (by decide) (fun _=>rfl) fun b45 h45 w I le45 sl45=>Abj (Ab0 I Aif KU 3 rfl rfl rfl (I.rd (sl45 0 _ rfl).2) rfl rfl (by decide) ((by simp only[Afv] at hsz;omega)) (by omega) fun b46 c46 w I=>Abj (Ss0 I G4 2 rfl rfl rfl rfl fun w I=>Abh<|Wr ?_))))));refine⟨.inl rfl,[],trivial,rfl,h45,some ⟨b46,0,none⟩,c46,m+1,le45,?_,?_⟩
   ·simp only[if_true];show Inv B h45 [box bo [.slice (some ⟨b46,0,none⟩) (m+1) c46] 129,Ao 169 4 (.slice (some ⟨b46,0,none⟩) (m+1) c46) (m+1) ((acc++[Stp.mk n (mx0 b)]).flatMap Stp.enc)] w;rw[snocS];exact I.drop.drop
   ·simp only[if_true,Ae2,Afv];omega
 |at1::ls,B,h,w,l,b,a,c,m,acc,hls0,I,hm,E,hA,hin,hb,hsz=>by
  have hlen:l.xs.length=ls.length+1:=by rw[hls0];rfl
  have hl0:l.xs[0]?=some at1:=by rw[hls0];rfl
  have hat:=hin at1 Ae7;obtain⟨y,hy,_,hya⟩:=ER.1 hat;have aok:AOk p.preds.xs at1:=hya▸Bc ok.preds (ok.body y hy);have hav:∀t∈at1.args.xs,t.var=true→0≤t.n∧t.n<3:=fun t ht hv=>aok.var ht hv;have hsm:=hA.is.small;have hsf:=E.f.small;rw[NP] at hsz ⊢;refine AbV (args:=[b.val,l.val,Pt bn,Pt bp,Pt bf,Pt bo,Pt bl]) func213 rfl ntmps213 (by kernel_rfl) (by simp) fun e=>Sr<|Abj (O.box (v:=.agg #[_,_,_]) I rfl rfl fun b7 w I=>Abh<|Abi<|Sr<|As0 Mv<|Ai (AbA Aix rfl)<|AF (Abt (AbI rfl rfl) ((by omega)))<|Abh<|Abq rfl ?_);obtain⟨h1,le1,k7,I⟩:=I.z8;have E:=E.le le1;have hA:=hA.le le1;refine Abk<|Sr<|As0 (Abn CD rfl (I.rd (E.kf.rd.part 0 1)) rfl rfl)<|Ai (AbA Ah8 rfl)<|Ai Mv<|Abh<|WP.block ?_;refine Abx (σ:=Nat) (fun k=>[(1,l.val),(2,Pt bn),(3,Pt bp),(4,Pt bf),(5,Pt bo),(6,Pt bl),(7,Pt b7),(47,f.val),(48,.int .i64 f.xs.length),(49,.int .i64 k)])
   (fun k w=>k≤f.xs.length∧∃h2 a' c' m',h1.le h2∧Inv B h2 (XA bo a' c' m' (acc++NO f.xs n r ((f.xs.take k).flatMap (MP f.xs at1 ls b)))) w∧m'=(acc++NO f.xs n r ((f.xs.take k).flatMap (MP f.xs at1 ls b))).length) (fun k=>f.xs.length-k)
   ⟨0,⟨rfl,rfl,rfl,rfl,rfl,rfl,rfl,rfl,rfl,rfl,trivial⟩,Afa _,h1,a,c,m,Ae.le.refl _,by simpa[Qh] using I,by simpa[Qh] using hm⟩ ?_
  rintro k e w ⟨hk,h2,a2,c2,m2,gl,I,hm2⟩;have E:=E.le gl;have hA:=hA.le gl;have k7:=k7.le gl;refine Sr<|Ad (AbC rfl rfl)<|Abh<|Abi ?_;refine Abl rfl (fun h12=>?_) (fun h12=>?_)
  ·have hk':k<f.xs.length:=by omega
   have Ef:=E.f.at hk';have El0:=hA.is.el.el hl0;have hat1:=hA.each _ (Afk hl0);have pf:=okf.pf _ (Ae5 hk');have hts:=KJ (MP f.xs at1 ls b) hk';have htl:=NQ (MP f.xs at1 ls b) f.xs (k+1);have hol:=TT f.xs n r ((f.xs.take k).flatMap (MP f.xs at1 ls b));rw[hts,Ae2] at htl;refine Abk<|Abi<|WP.block<|Sr<|Ap (Ix Ef Ah8 Aih rfl rfl)<|Az (Abn AH rfl (I.rd (Ef.rd.part 0 4)) rfl rfl)<|Abj (O.alloc I Aii rfl fun b14 w I=>Abj (Sz I AH 0 rfl rfl rfl rfl fun w I=>Abh<|Abi<|Ab9 AC RBx.pre ⟨h2,none,none⟩ (J:=JBx B (box b14 f.xs[k].enc 83::XA bo a2 c2 m2 (acc++NO f.xs n r ((f.xs.take k).flatMap (MP f.xs at1 ls b)))) 239 [.int .i64 0,.int .i64 0,.int .i64 0] (wcF b at1 f.xs[k]).1.enc 9 99 10) ⟨rfl,rfl,fun h=>(by cases h),I.drew⟩ 11 (by kernel_rfl)<|Aby (v:=.agg #[_,_,_]) (fun _=>Aa _) RBx.pre (JBx.set (by decide)) (fun _ s w us hl hj=>have I:=hj.base;have hl:=hl.h;Abn Dz rfl (I.rd ((k7.rd.part 0 3).le hl)) rfl rfl)<|Aby (v:=.slice _ _ _) (fun _=>Aa _) RBx.pre (JBx.set (by decide)) (fun _ s w us hl hj=>have I:=hj.base;have hl:=hl.h;Mv)<|Aby (v:=.pointer (some ⟨_,_,none⟩)) (fun _=>Aa _) RBx.pre (JBx.set (by decide)) (fun _ s w us hl hj=>have I:=hj.base;have hl:=hl.h;AbJ El0 Aix sizeOf61 rfl rfl (by decide) rfl)<|Aby (v:=.agg #[_,_]) (fun _=>Aa _) RBx.pre (JBx.set (by decide)) (fun _ s w us hl hj=>have I:=hj.base;have hl:=hl.h;Abn AP rfl (I.rd ((El0.rd.part 0 2).le hl)) rfl rfl)<|Aby (v:=.agg #[_,_,_,_]) (fun _=>Aa _) RBx.pre (JBx.set (by decide)) (fun _ s w us hl hj=>have I:=hj.base;have hl:=hl.h;Ld I AH 0 0 4 rfl rfl rfl)<|Adn (by decide) (fun _ s w us hl hj=>have I:=hj.inv;have hl:=hl.h;Abm I call214 (Yq _ I.j6 b at1 (hat1.le hl) f.xs[k] aok.len hav) rfl (fun w' I'=>⟨rfl,⟨hj.h7,hj.h8,hj.ord,I'⟩⟩))<|Aby (v:=.tuple #[_,_]) (fun _=>Aa _) RBx.pre (JBx.set (by decide)) (fun _ s w us hl hj=>have I:=hj.base;have hl:=hl.h;Mv)<|Aby (v:=.agg #[_,_,_]) (fun _=>Aa _) RBx.pre (JBx.set (by decide)) (fun _ s w us hl hj=>have I:=hj.base;have hl:=hl.h;Y.extract rfl rfl)<|Aby (v:=.bool _) (fun _=>Aa _) RBx.pre (JBx.set (by decide)) (fun _ s w us hl hj=>have I:=hj.base;have hl:=hl.h;Y.extract rfl rfl)<|AcR zeroValue239 rfl (by decide) (by decide)<|AcI Dz rfl rfl (fun s=>by intro u15 q15;exact⟨q15 rfl,rfl⟩) rfl rfl (by decide) (by decide)<|Acl fun D s w hD hl hj u15 q15=>?_));obtain⟨b15,rfl,h15⟩:=q15 rfl;have I:=hj.inv;rw[h15,hD 10 (by omega)] at I;have hl:=hl.h;refine Ab Ag<|Abh ?_;generalize s.o8=o8 at I;generalize s.h=h3 at I hl;have I:Inv B h3 (box b15 (wcF b at1 f.xs[k]).1.enc 239::box b14 f.xs[k].enc 83::XA bo a2 c2 m2 (acc++NO f.xs n r ((f.xs.take k).flatMap (MP f.xs at1 ls b)))) w:=by
    cases o8 with
    |none=>exact I
    |some b8=>exact I.weak (List.Sublist.cons_cons _ (Af3 _ _))
   have E:=E.le hl;have hA:=hA.le hl;refine Sr<|Ab Mv<|Abh ?_;cases hw:(wcF b at1 f.xs[k]).2
   ·refine Abq rfl<|Abk<|Abg<|Ai (Dd rfl rfl)<|Ai Mv<|Abh ?_;refine⟨k+1,⟨⟨rfl,rfl,rfl,rfl,rfl,rfl,rfl,rfl,rfl,rfl,trivial⟩,by omega,h3,a2,c2,m2,gl.trans hl,?_,?_⟩,by omega⟩
    ·rw[hts,show MP f.xs at1 ls b f.xs[k]=[] from by unfold MP;rw[hw];rfl,Aft];exact I.drop.drop
    ·rw[hts,show MP f.xs at1 ls b f.xs[k]=[] from by unfold MP;rw[hw];rfl,Aft];exact hm2
   ·have hN:MP f.xs at1 ls b f.xs[k]=KF f.xs ls (wcF b at1 f.xs[k]).1:=by unfold MP;rw[hw];rfl
    rw[hN] at htl hts;have hcut:(l.cut 2 1 l.xs.length).xs=ls:=by simp only[Sl.cut,Afo,hls0,AgK,AhM]
    have hAc:AtS (l.cut 2 1 l.xs.length) h3:=⟨hA.is.cut hA.cap,by simp only[Sl.cut,AfD,Afj];have:=hA.cap;omega,fun x hx=>hA.each x (AfX (List.mem_of_mem_drop hx))⟩;have gl3:=gl.trans hl;refine Abw rfl<|AbM AC I 4 (by kernel_rfl)<|Ff (fun _ w us hl I=>Abn Sd rfl (I.rd ((E.kl.rd.part 0 1).le hl)) rfl rfl)<|Fy (fun _ w us hl I=>Ld I Dz 0 0 3 rfl rfl rfl)<|Fs (fun _ w us hl I=>Mv)<|Fs (fun _ w us hl I=>Y.cut (l:=1) (h:=l.xs.length) Aix sizeOf61 (hA.is.at (i:=0) (by omega)).at_ hA.cap rfl (.inr ⟨_,_,rfl,rfl⟩) (.inl ⟨rfl,rfl⟩) (by omega) (Afg _))<|AbX fun _ w hl I=>?_;try unfold CT
    have I:=I.drop.drop;refine Abj (Adm call213 (fs:=[]) (cs:=[Pt bn,Pt bp,Pt bf,Pt bo,Pt bl]) rfl (XB p f n r bn bp bf bo bl h0 hr ok okf ls (l.cut 2 1 l.xs.length) (wcF b at1 f.xs[k]).1 a2 c2 m2 _ hcut I hm2 (E.le (by assumption)) (hAc.le (by assumption)) (fun x hx=>hin x (Ae8 _ hx)) (ZP hat hav pf hb hw) (by rw[hm2,Ae2];omega)) rfl ?_);rintro ed w ⟨rfl,h5,a5,c5,m5,le5,I,hm5⟩;refine⟨_,rfl,?_⟩;refine Abh<|Abg<|Ai (Dd rfl rfl)<|Ai Mv<|Abh ?_;refine⟨k+1,⟨⟨rfl,rfl,rfl,rfl,rfl,rfl,rfl,rfl,rfl,rfl,trivial⟩,by omega,h5,a5,c5,m5,(gl3.trans hl).trans le5,?_,?_⟩,by omega⟩
    ·rw[hts,Qj,←Afe];exact I
    ·rw[hts,Qj,←Afe];exact hm5
  ·obtain rfl:k=f.xs.length:=by omega
   rw[Afo] at I hm2;exact Abz<|⟨.inr rfl,[],trivial,rfl,h2,a2,c2,m2,le1.trans gl,I,hm2⟩
end
end Go.TF
section
namespace Go.Proofs
open Go.Shelf
def Tryz.sortStp_ren:Go.Shelf.Ren:=⟨fun|6=>215|15=>234|14=>233|28=>251|29=>203|20=>243|21=>244|22=>245|23=>246|24=>247|25=>248|26=>249|27=>250|46=>253|47=>254|48=>255|49=>256|50=>257|57=>258|n=>n,fun|22=>129|24=>169|25=>244|3=>3|39=>210|0=>0|53=>227|55=>199|4=>4|46=>276|45=>275|50=>182|5=>5|9=>9|66=>282|70=>286|76=>288|77=>289|n=>n,fun|n=>n⟩
theorem Tryz.sortStp:Go.Proofs.SlLaysF0.n6 Tryz.prog Tryz.sortStp_ren:={
 mixed:=by kernel_rfl
 f6:=⟨f215.name,by decide,func215.trans (congrArg some (by kernel_rfl))⟩
 f14:=⟨f233.name,by decide,func233.trans (congrArg some (by kernel_rfl))⟩
 f15:=func234.trans (congrArg some (by kernel_rfl))
 f20:=⟨f243.name,by decide,func243.trans (congrArg some (by kernel_rfl))⟩
 f21:=⟨f244.name,by decide,func244.trans (congrArg some (by kernel_rfl))⟩
 f22:=⟨f245.name,by decide,func245.trans (congrArg some (by kernel_rfl))⟩
 f23:=⟨f246.name,by decide,func246.trans (congrArg some (by kernel_rfl))⟩
 f24:=⟨f247.name,by decide,func247.trans (congrArg some (by kernel_rfl))⟩
 f25:=⟨f248.name,by decide,func248.trans (congrArg some (by kernel_rfl))⟩
 f26:=⟨f249.name,by decide,func249.trans (congrArg some (by kernel_rfl))⟩
 f27:=⟨f250.name,by decide,func250.trans (congrArg some (by kernel_rfl))⟩
 f28:=func251.trans (congrArg some (by kernel_rfl))
 f29:=func203.trans (congrArg some (by kernel_rfl))
 f46:=⟨f253.name,by decide,func253.trans (congrArg some (by kernel_rfl))⟩
 f47:=func254.trans (congrArg some (by kernel_rfl))
 f48:=func255.trans (congrArg some (by kernel_rfl))
 f49:=⟨f256.name,by decide,func256.trans (congrArg some (by kernel_rfl))⟩
 f50:=⟨f257.name,by decide,func257.trans (congrArg some (by kernel_rfl))⟩
 f57:=⟨f258.name,by decide,func258.trans (congrArg some (by kernel_rfl))⟩
 t0:=underlying0
 a0:=isAgg0
 z0:=sizeOf0
 v0:=zeroValue0
 t3:=underlying3
 a3:=isAgg3
 z3:=sizeOf3
 v3:=zeroValue3
 t4:=underlying4
 a4:=isAgg4
 z4:=sizeOf4
 v4:=zeroValue4
 t5:=underlying5
 a5:=isAgg5
 z5:=sizeOf5
 v5:=zeroValue5
 t9:=underlying9
 a9:=isAgg9
 z9:=sizeOf9
 v9:=zeroValue9
 t22:=underlying129
 a22:=isAgg129
 z22:=sizeOf129
 v22:=zeroValue129
 t25:=underlying244
 a25:=isAgg244
 z25:=sizeOf244
 v25:=zeroValue244
 t39:=underlying210
 a39:=isAgg210
 z39:=sizeOf210
 v39:=zeroValue210
 t45:=underlying275
 a45:=isAgg275
 z45:=sizeOf275
 v45:=zeroValue275
 t46:=underlying276
 a46:=isAgg276
 z46:=sizeOf276
 v46:=zeroValue276
 t50:=underlying182
 a50:=isAgg182
 z50:=sizeOf182
 v50:=zeroValue182
 t53:=underlying227
 a53:=isAgg227
 z53:=sizeOf227
 v53:=zeroValue227
 t55:=underlying199
 a55:=isAgg199
 z55:=sizeOf199
 v55:=zeroValue199
 t66:=underlying282
 a66:=isAgg282
 z66:=sizeOf282
 v66:=zeroValue282
 t70:=underlying286
 a70:=isAgg286
 z70:=sizeOf286
 v70:=zeroValue286
 t76:=underlying288
 a76:=isAgg288
 z76:=sizeOf288
 v76:=zeroValue288
 t77:=underlying289
 a77:=isAgg289
 z77:=sizeOf289
 v77:=zeroValue289}
end Go.Proofs
end
namespace Go.TF
open Go Go.RowKit Go.Proofs Go.Proofs.Tryz
section
theorem TU(a:Int)(w:World):Calls prog 197 [.int .i64 a].toArray w (fun ed w'=>ed=.returned (.bool false)∧w'=w):=by
 refine AbV (args:=[.int .i64 a]) func197 rfl ntmps197 (by kernel_rfl) (by simp) fun e=>Sr<|Ab Ag<|Abh<|Sr<|Ai Mv<|Ai Mv<|Ad (AbK rfl rfl)<|Ab Ag<|Abh<|Wr ?_;exact⟨.inl rfl,[.bool _],⟨rfl,trivial⟩,by simp[tup],rfl⟩
theorem J5(a b:Int)(w:World):Calls prog 158 [.int .i64 a,.int .i64 b].toArray w (fun ed w'=>ed=.returned (.int .i64 (Eo a b))∧w'=w):=by
 refine AbV (args:=[.int .i64 a,.int .i64 b]) func158 rfl ntmps158 (by kernel_rfl) (by simp) fun e=>Sr<|Ai Ag<|Abh<|Sr<|Ai Mv<|Abj (Ace call197 (TU a w) rfl ?_);rintro ed w' ⟨rfl,rfl⟩;refine⟨_,rfl,?_⟩;refine Ab Ag<|Abh<|Sr<|Ai Mv<|Abj (Ace call197 (TU b _) rfl ?_);rintro ed w' ⟨rfl,rfl⟩;refine⟨_,rfl,?_⟩;refine Ab Ag<|Abh<|Abi<|Sr<|Ab Mv<|Abh<|Abq rfl<|Abk<|Abi<|Sr<|Ab Mv<|Abh<|Abq rfl<|Abk<|Abi<|Sr<|Ai Mv<|Ai Mv<|Ad (AbC rfl rfl)<|Abh ?_;refine Abl rfl (fun h1=>?_) (fun h1=>?_)
 ·refine Sr<|Ai Ag<|Abh<|Wr ?_;exact⟨.inl rfl,[.int .i64 (-1)],⟨rfl,trivial⟩,by simp only[tup,Eo];rw[if_pos h1],rfl⟩
 refine Abk<|Abi<|Sr<|Ai Mv<|Ai Mv<|Ad (AbL rfl rfl)<|Abh ?_;refine Abl rfl (fun h2=>?_) (fun h2=>?_)
 ·refine Sr<|Ai Ag<|Abh<|Wr ?_;exact⟨.inl rfl,[.int .i64 1],⟨rfl,trivial⟩,by simp only[tup,Eo];rw[if_neg h1,if_pos h2],rfl⟩
 refine Abk<|Sr<|Ai Ag<|Abh<|Wr ?_;exact⟨.inl rfl,[.int .i64 0],⟨rfl,trivial⟩,by simp only[tup,Eo];rw[if_neg h1,if_neg h2],rfl⟩
def U4(x y:Vrs):Int:=if Eo x.x0 y.x0≠0 then Eo x.x0 y.x0 else if Eo x.x1 y.x1≠0 then Eo x.x1 y.x1 else Eo x.x2 y.x2
theorem Hr{a b:Int}:Eo a b=0↔a=b:=by unfold Eo;(repeat' split)<;>omega
theorem Mm{a b:Int}:Eo a b<0↔a<b:=by unfold Eo;(repeat' split)<;>omega
theorem I6{x y:Vrs}:U4 x y<0↔ltV x y:=by
 unfold U4 ltV;have h0:=Mm (a:=x.x0) (b:=y.x0);have h1:=Mm (a:=x.x1) (b:=y.x1);have h2:=Mm (a:=x.x2) (b:=y.x2);have z0:=Hr (a:=x.x0) (b:=y.x0);have z1:=Hr (a:=x.x1) (b:=y.x1);split
 ·omega
 ·split<;>omega
theorem Rs(x y:Vrs)(b1 b2 o1 o2:Nat)(w:World)(h1:Rd w b1 o1 x.enc)(h2:Rd w b2 o2 y.enc) :
  Calls prog 217 [.slice (some ⟨b1,o1,none⟩) (3:Nat) (3:Nat),.slice (some ⟨b2,o2,none⟩) (3:Nat) (3:Nat)].toArray w (fun ed w'=>ed=.returned (.int .i64 (U4 x y))∧w'=w):=by
 refine AbV (args:=[.slice (some ⟨b1,o1,none⟩) (3:Nat) (3:Nat),.slice (some ⟨b2,o2,none⟩) (3:Nat) (3:Nat)]) func217 rfl ntmps217 (by kernel_rfl) (by simp) fun e=>Sr<|Ai Ag<|Abh<|Abi<|Sr<|As0 Mv<|Ai (AbA Aie rfl)<|Ai Mv<|Abh<|WP.block ?_;refine Abx (σ:=Nat) (fun k=>[(0,.slice (some ⟨b1,o1,none⟩) (3:Nat) (3:Nat)),(1,.slice (some ⟨b2,o2,none⟩) (3:Nat) (3:Nat)),(9,.slice (some ⟨b1,o1,none⟩) (3:Nat) (3:Nat)),(10,.int .i64 (3:Nat)),(11,.int .i64 k)]) (fun k w'=>w'=w∧k≤3∧(0<k→Eo x.x0 y.x0=0)∧(1<k→Eo x.x1 y.x1=0)∧(2<k→Eo x.x2 y.x2=0)) (fun k=>3-k)
  ⟨0,⟨rfl,rfl,rfl,rfl,rfl,trivial⟩,rfl,Afa _,fun h=>by omega,fun h=>by omega,fun h=>by omega⟩ ?_
 rintro k e w' ⟨rfl,hk,g0,g1,g2⟩;refine Sr<|Ad (AbC rfl rfl)<|Abh<|Abi ?_;refine Abl rfl (fun h=>?_) (fun h=>?_)
 ·have hk3:k=0∨k=1∨k=2:=by omega
  rcases hk3 with rfl|rfl|rfl
  ·refine Abk<|Abi<|WP.block<|Sr<|Ai Mv<|Ap (Acy Aie Aij rfl rfl (by omega) (by omega))<|Ai (Abn An rfl (h1.one (i:=0) (x:=.int .i64 x.x0) rfl) rfl rfl)<|Ai Ag<|Ai Ag<|Abh<|Abi<|Sr<|Ai Mv<|As0 Mv<|Ai (AbA Aie rfl)<|Ad (AbZ rfl rfl)<|Abh<|Ach rfl ((by omega))<|Abk<|Sr<|As0 Mv<|Ai Mv<|Ap (Acy Aie Aij rfl rfl (by omega) (by omega))<|Ai (Abn An rfl (h2.one (i:=0) (x:=.int .i64 y.x0) rfl) rfl rfl)<|Ai Ag<|Abh<|Sr<|Ai Mv<|Ai Mv<|Abj (Ace call158 (J5 x.x0 y.x0 _) rfl ?_);rintro ed w' ⟨rfl,rfl⟩;refine⟨_,rfl,?_⟩;refine Ai Ag<|Abh<|Sr<|Ai Mv<|Ad (AbK rfl rfl)<|Abh ?_;refine Abl rfl (fun h8=>?_) (fun h8=>?_)
   ·refine Sr<|Ai Mv<|Ai Ag<|Abh<|Wr ?_;refine⟨.inl rfl,[.int .i64 (Eo x.x0 y.x0)],⟨rfl,trivial⟩,?_,rfl⟩;simp only[tup,U4];simp_all
   ·refine Abk<|Abg<|Ai (Dd rfl rfl)<|Ai Mv<|Abh ?_;exact⟨1,⟨⟨rfl,rfl,rfl,rfl,rfl,trivial⟩,rfl,by omega,fun h=>by first|omega|exact Afh.1 h8|exact g0 (by omega),fun h=>by first|omega|exact Afh.1 h8|exact g1 (by omega),fun h=>by first|omega|exact Afh.1 h8⟩,by omega⟩
  ·refine Abk<|Abi<|WP.block<|Sr<|Ai Mv<|Ap (Acy Aie Aij rfl rfl (by omega) (by omega))<|Ai (Abn An rfl (h1.one (i:=1) (x:=.int .i64 x.x1) rfl) rfl rfl)<|Ai Ag<|Ai Ag<|Abh<|Abi<|Sr<|Ai Mv<|As0 Mv<|Ai (AbA Aie rfl)<|Ad (AbZ rfl rfl)<|Abh<|Ach rfl ((by omega))<|Abk<|Sr<|As0 Mv<|Ai Mv<|Ap (Acy Aie Aij rfl rfl (by omega) (by omega))<|Ai (Abn An rfl (h2.one (i:=1) (x:=.int .i64 y.x1) rfl) rfl rfl)<|Ai Ag<|Abh<|Sr<|Ai Mv<|Ai Mv<|Abj (Ace call158 (J5 x.x1 y.x1 _) rfl ?_);rintro ed w' ⟨rfl,rfl⟩;refine⟨_,rfl,?_⟩;refine Ai Ag<|Abh<|Sr<|Ai Mv<|Ad (AbK rfl rfl)<|Abh ?_;refine Abl rfl (fun h8=>?_) (fun h8=>?_)
   ·refine Sr<|Ai Mv<|Ai Ag<|Abh<|Wr ?_;refine⟨.inl rfl,[.int .i64 (Eo x.x1 y.x1)],⟨rfl,trivial⟩,?_,rfl⟩;simp only[tup,U4];simp_all
   ·refine Abk<|Abg<|Ai (Dd rfl rfl)<|Ai Mv<|Abh ?_;exact⟨2,⟨⟨rfl,rfl,rfl,rfl,rfl,trivial⟩,rfl,by omega,fun h=>by first|omega|exact Afh.1 h8|exact g0 (by omega),fun h=>by first|omega|exact Afh.1 h8|exact g1 (by omega),fun h=>by first|omega|exact Afh.1 h8⟩,by omega⟩
  ·refine Abk<|Abi<|WP.block<|Sr<|Ai Mv<|Ap (Acy Aie Aij rfl rfl (by omega) (by omega))<|Ai (Abn An rfl (h1.one (i:=2) (x:=.int .i64 x.x2) rfl) rfl rfl)<|Ai Ag<|Ai Ag<|Abh<|Abi<|Sr<|Ai Mv<|As0 Mv<|Ai (AbA Aie rfl)<|Ad (AbZ rfl rfl)<|Abh<|Ach rfl ((by omega))<|Abk<|Sr<|As0 Mv<|Ai Mv<|Ap (Acy Aie Aij rfl rfl (by omega) (by omega))<|Ai (Abn An rfl (h2.one (i:=2) (x:=.int .i64 y.x2) rfl) rfl rfl)<|Ai Ag<|Abh<|Sr<|Ai Mv<|Ai Mv<|Abj (Ace call158 (J5 x.x2 y.x2 _) rfl ?_);rintro ed w' ⟨rfl,rfl⟩;refine⟨_,rfl,?_⟩;refine Ai Ag<|Abh<|Sr<|Ai Mv<|Ad (AbK rfl rfl)<|Abh ?_;refine Abl rfl (fun h8=>?_) (fun h8=>?_)
   ·refine Sr<|Ai Mv<|Ai Ag<|Abh<|Wr ?_;refine⟨.inl rfl,[.int .i64 (Eo x.x2 y.x2)],⟨rfl,trivial⟩,?_,rfl⟩;simp only[tup,U4];simp_all
   ·refine Abk<|Abg<|Ai (Dd rfl rfl)<|Ai Mv<|Abh ?_;exact⟨3,⟨⟨rfl,rfl,rfl,rfl,rfl,trivial⟩,rfl,by omega,fun h=>by first|omega|exact Afh.1 h8|exact g0 (by omega),fun h=>by first|omega|exact Afh.1 h8|exact g1 (by omega),fun h=>by first|omega|exact Afh.1 h8⟩,by omega⟩
 obtain rfl:k=3:=by omega
 refine Abz<|Abi<|Sr<|As0 Mv<|Ai (AbA Aie rfl)<|As0 Mv<|Ai (AbA Aie rfl)<|Ad (AbC rfl rfl)<|Abh<|Ach rfl ((by omega))<|Abk<|Sr<|Ai Ag<|Abh<|Wr ?_;refine⟨.inl rfl,[.int .i64 0],⟨rfl,trivial⟩,?_,rfl⟩;simp only[tup,U4];rw[if_neg (by simp[g0]),if_neg (by simp[g1]),g2 (by omega)]
section
variable {P:Program}{e:Env}{w:World}{t:TypeId}{pos:String}{af:Array Edge}{g:Option (Nat×Bool)}{d:Option Nat}{K:Value→World→Prop}
theorem X.box{T:TypeId}{x:Operand}{v:Value}{cs:List Value}(hx:ev e x=v)(hc:v.cells=cs.toArray)(k:K (.pointer (some ⟨w.heap.size,0,none⟩)) (w.alloc (.cells cs.toArray T))):Op1 P ⟨d,.box T x,t,pos,af,g⟩ e w K:=by
 have:(execOp (ev e) ⟨d,.box T x,t,pos,af,g⟩).run P w=.ok (.value (.pointer (some ⟨w.heap.size,0,none⟩))) (w.alloc (.cells cs.toArray T)):=by
  simp[execOp,Instr.box,hx,newVar,newRow,hc]
 unfold Op1;rw[this];exact k
theorem AdJ{T el n k b o:Nat}{x:Operand}(hT:Und P T (.array n el))(hk:∀w,(sizeOf el).run P w=.ok k w)(hx:ev e x=.pointer (some ⟨b,o,none⟩)):Y P ⟨d,.slice T x none none none,t,pos,af,g⟩ e w (.slice (some ⟨b,o,none⟩) n n):=by
 simp[Y,execOp,hx,Instr.sliceAt,Instr.sureAddr,Instr.sliceBounds,run_underlying hT,hk,BN]
theorem Aej{N:Nat}{D:List Deferred}{Q:Exit→Env→World→Prop}{id:Nat}{ops:Array Oper}{C:World→Prop}(hm:LH P)(hC:C w.drew)(hB:Region.lexB .any ops=true)
  (k:Am P ops C ops.toList e (fun e'=>∀w',C w'→Q .normal e' w')):WP P N D (.region id ops true) e w Q:=by
 intro hs a h1 h2 h3;subst h3;exact wp_region_quiet (C:=C) hm hB hC<|AcY _ a _ _ hs h1 h2 (fun a' g1 g2 g3 w' hw'=>⟨g1,g2,g3 w' hw'⟩) k
theorem AeJ{C:World→Prop}{f:FuncId}{args:Array Operand}{ts:Array TypeId}{vs:List Value}{r:Value}(hf:BE P f)(hc:Calls P f vs.toArray w (fun ed w'=>ed=.returned r∧w'=w))(hC:C w)(ha:args.toList.map (ev e)=vs) :
  QC P C ⟨d,.call {callee:=.value (.func f),args:=args,argTypes:=ts},t,pos,af,g⟩ e w r:=by
 have ha':args.map (ev e)=vs.toArray:=by rw[←ha];apply Array.ext';simp
 have:(execOp (ev e) ⟨d,.call {callee:=.value (.func f),args:=args,argTypes:=ts},t,pos,af,g⟩).run P w=.ok (.enter f vs.toArray) w:=by
  simp[execOp,resolve,ev,Deferred.ofValue,invoke,ha',hf]
 unfold QC;rw[this];exact⟨rfl,Calls.mono hc fun _ _ ⟨h1,h2⟩=>⟨h1,h2▸hC⟩⟩
end
theorem V5(x y:Stp)(W:World):Calls prog 216 [x.val,y.val].toArray W (fun ed w'=>ed=.returned (.int .i64 (U4 x.vars y.vars))∧∃q os',w'=Sort.grow (W.drewN q) os'):=by
 refine AbV (args:=[x.val,y.val]) func216 rfl ntmps216 (by kernel_rfl) (by simp) fun e=>Sr<|Abj (X.box (v:=.agg #[_,_,_,_]) rfl rfl<|Abj (X.box (v:=.agg #[_,_,_,_]) rfl rfl<|Ai Ag<|Abh ?_));generalize hW1:W.alloc (.cells x.enc.toArray 169)=W1;have hs1:W1.heap.size=W.heap.size+1:=by rw[←hW1,Sort.alloc_eq_grow,Sort.size_grow];rfl
 generalize hW2:W1.alloc (.cells y.enc.toArray 169)=W2;have hb1:W2.heap[W.heap.size]?=some (.cells x.enc.toArray 169 (0,0)):=by rw[←hW2,(CZ.alloc W1 _).block _ (by omega),←hW1];exact heap_alloc_new W _
 have hb2:W2.heap[W1.heap.size]?=some (.cells y.enc.toArray 169 (0,0)):=by rw[←hW2];exact heap_alloc_new W1 _
 have hC0:(fun w'=>∃q,w'=W2.drewN q) W2.drew:=⟨1,rfl⟩;refine Abi<|Aej (C:=fun w'=>∃q,w'=W2.drewN q) AC hC0 (by kernel_rfl)<|Qp (fun w I=>Abr BV rfl)<|Qs (fun w I=>AdJ Aiq Aij rfl)<|Qp (fun w I=>Abr BV rfl)<|Qs (fun w I=>AdJ Aiq Aij rfl)<|Am.c (fun w hw=>AeJ call217 ((by obtain⟨q,rfl⟩:=hw;exact Rs x.vars y.vars W.heap.size W1.heap.size 1 1 _ (Pi (w:=W2.drewN q) hb1 1 3) (Pi (w:=W2.drewN q) hb2 1 3))) hw rfl)<|Qi (fun w I=>Ag)<|AbH fun w I=>?_;obtain⟨q,rfl⟩:=I;refine Wr ?_;refine⟨.inl rfl,[.int .i64 (U4 x.vars y.vars)],⟨rfl,trivial⟩,rfl,q,#[.cells x.enc.toArray 169 (0,0),.cells y.enc.toArray 169 (0,0)],?_⟩;rw[←hW2,←hW1,Sort.alloc_eq_grow,Sort.alloc_eq_grow,Sort.grow_grow];rfl
end
section
def stpCmp(x y:Stp):Int:=U4 x.vars y.vars
theorem Yr:Sort.SWO (ltOf stpCmp) where
 irrefl x:=by simp only[ltOf,stpCmp,I6];exact decide_eq_false (K0 _)
 trans x y z h1 h2:=by
  simp only[ltOf,stpCmp,I6,decide_eq_true_eq] at *;exact JA h1 h2
 ntrans x y z h1 h2:=by
  simp only[ltOf,stpCmp,I6,decide_eq_false_iff_not] at *;unfold ltV at *;omega
theorem CX(x:Stp):x.enc.length=4:=rfl
theorem Ql(xs:List Stp):Sort.flatK Stp.enc 4 xs.toArray=(xs.flatMap Stp.enc).toArray:=by
 have hl:=Cr CX xs;refine Sort.ext_get! (by simp[hl]) fun t ht=>?_;have ht':t<xs.length*4:=by simpa using ht
 rw[Sort.get_flatK _ _ _ t (by simpa using ht')];have hv:(xs.flatMap Stp.enc)[t]?=some ((xs.flatMap Stp.enc)[t]'(by rw[hl];exact ht')):=Ae4 _;obtain⟨x,h1,h2⟩:=Oz CX (by decide) xs t _ hv;have e1:xs.toArray[t / 4]! =x:=by simp[getElem!_def,h1]
 rw[e1];simp[getElem!_def,h2,hv]
theorem V9(F:Array Value)(cur:Array Value)(h:F.size≤cur.size):(Sort.putCells id 0 F cur).toList.take F.size=F.toList:=by
 apply Ago;intro j;rw[AfF];split
 ·rename_i hj;simp only[Sort.putCells,Array.getElem?_toList,Array.getElem?_mapIdx];have:j<cur.size:=by omega
  simp[this,hj]
 ·rename_i hj;simp;omega
abbrev Aal(xs:List Stp):Prop:=xs.Pairwise fun x y=>¬ltV y.vars x.vars
theorem Ys{B:Aq}{h:Ae}{M:List SA}{w:World}{a:Option Addr}{c m:Nat}{xs:List Stp}(I:Inv B h (Ao 169 4 (.slice a m c) m (xs.flatMap Stp.enc)::M) w)(hm:m=xs.length)(hsz:m≤1000000000) :
  Calls prog 215 [.slice a m c,.func (.func 216) #[] #[]].toArray w
   (fun ed w'=>ed=.returned (.tuple #[])∧∃ys,ys.Perm xs∧Aal ys∧Inv B h (Ao 169 4 (.slice a m c) m (ys.flatMap Stp.enc)::M) w'):=by
 rcases(I.at 0 rfl).2 with ⟨h0,hn⟩|⟨g,cap,cur,he,_,hg,hnc,hcm,hcs,ht⟩
 ·injection h0 with e1 e2 e3;subst e1;subst e2;subst e3;have hx:xs=[]:=Agu hm.symm;subst hx;refine Calls.mono (AnyF.slices_SortFunc_none sortStp none 0 (.func (.func 216) #[] #[]) w) ?_;rintro ed w' ⟨rfl,rfl⟩;exact⟨rfl,[],List.Perm.refl _,List.Pairwise.nil,I⟩
 ·injection he with e1 e2 e3;subst e1;subst e3;have hfl:=Cr CX xs;have hcell:∀j,j<(xs.flatMap Stp.enc).length→w.cell? ⟨g,0+j,none⟩=(xs.flatMap Stp.enc)[j]?:=fun j hj=>by
   have hc:w.cell? ⟨g,0+j,none⟩=cur[j]?:=by simp[World.cell?,hg]
   have h2:(cur.toList.take (m*4))[j]?=cur[j]?:=by
    rw[AfF,if_pos (by rw[hfl] at hj;rw[hm];exact hj)];simp
   rw[hc,←h2,ht]
  have hH:Sort.HoldsK Stp.enc 4 w g 0 xs.toArray:=by
   unfold Sort.HoldsK;rw[Ql];intro j hj;have hj':j<(xs.flatMap Stp.enc).length:=by simpa using hj
   refine⟨?_,by simp[World.frozen?,hg]⟩;rw[hcell j hj'];simp[getElem!_def,Ae4 hj']
  have hcon:=AnyQ.slices_SortFunc sortStp 4 (Cy).agg Aiw Stp.enc CX (fun x v hv=>by simp only[Stp.enc,Afq,Af8,or_false] at hv;rcases hv with rfl|rfl|rfl|rfl<;>rfl) stpCmp Yr 216 #[] g 0 c xs.toArray w call216 (fun mm os dk _ x y=>V5 x y _) hH (by have:=(Afr.1 hg).1;exact this) (by simp only[Afx];omega);rw[show xs.toArray.size=m from by simp[hm]] at hcon;refine Calls.mono hcon ?_;rintro ed w' ⟨rfl,d',n,os,hp,hs,rfl⟩;have hpl:d'.size=m:=by have:=hp.1;simpa[hm] using this
  have hperm:d'.toList.Perm xs:=by
   have:=hp.2.2;have e1:d'.extract 0 m=d':=by rw[←hpl];simp
   have e2:xs.toArray.extract 0 m=xs.toArray:=by rw[hm];simp
   rw[e1,e2] at this;simpa using this
  refine⟨rfl,d'.toList,hperm,?_,?_⟩
  ·show List.Pairwise _ _;rw[AhL];intro i j hi hj hij;have hi':i<d'.size:=by simpa using hi
   have hj':j<d'.size:=by simpa using hj
   have:=hs i j (Afa _) hij (by rw[←hpl];exact hj');simp only[ltOf,stpCmp,I6,decide_eq_false_iff_not] at this;rw[getElem!_pos d' i hi',getElem!_pos d' j hj'] at this;simpa using this
  ·have hF:Sort.flatK Stp.enc 4 d'=(d'.toList.flatMap Stp.enc).toArray:=by have:=Ql d'.toList;simpa using this
   have hFs:(Sort.flatK Stp.enc 4 d').size=m*4:=by rw[Sort.size_flatK,hpl]
   have hmk:m*4≤cur.size:=by rw[hcs];exact AfA _ hnc
   refine I.l6 0 rfl rfl rfl rfl ?_ (fun b hb hnb=>?_) ?_ (fun b hb=>?_)
   ·simp[sortWorldK,Sort.putRowK,Sort.putRow,Sort.mapBlock,Sort.grow,Sort.ahead]
   ·have hne:b≠g:=fun e=>hnb (by simp[Ao,Value.ownBlock,e]);simp only[sortWorldK,Sort.putRowK,Sort.putRow,Sort.mapBlock,Sort.grow,Sort.ahead];rw[AhG (by simpa using hb),Ah0,if_neg (Ne.symm hne)]
   ·refine⟨by rw[Cr CX];simp[hpl],.inr ⟨g,c,Sort.putCells id 0 (Sort.flatK Stp.enc 4 d') cur,rfl,Afa _,?_,hnc,hcm,?_,?_⟩⟩
    ·simp only[sortWorldK,Sort.putRowK,Sort.putRow,Sort.mapBlock,Sort.grow,Sort.ahead];have hlt:=(Afr.1 hg).1;rw[AhG (by simpa using hlt),Ah0,if_pos rfl,hg];rfl
    ·simp[Sort.putCells,hcs]
    ·have:=V9 (Sort.flatK Stp.enc 4 d') cur (by rw[hFs];exact hmk);rw[hFs,hF] at this;rw[hF];simpa using this
   ·have:b=g:=by simpa[Ao,Value.ownBlock] using hb
    subst this;refine⟨.inl (by simp[Ao,Value.ownBlock]),?_⟩;have hlt:=(Afr.1 hg).1;simp only[sortWorldK,Sort.putRowK,Sort.putRow,Sort.mapBlock,Sort.grow,Sort.ahead,Ahf,Array.size_modify];omega
end
section
section
variable {P:Program}{e:Env}{w:World}{B:Aq}{h:Ae}{M:List SA}{t:TypeId}{pos:String}{af:Array Edge}{g:Option (Nat×Bool)}{d:Option Nat}{K:Value→World→Prop}
theorem Ad3{T el k bytes gg n cap o m:Nat}{ag:Bool}{z v:Value}{a x:Operand}{xs vs:List Value}(I:Inv B h M w)(hT:Ty P T m ag)(he:ElT P el k bytes z)(n0:Nat)(hn:M[n0]?=some (Ao el k (.slice (some ⟨gg,0,none⟩) n cap) n xs))
  (ha:ev e a=.pointer (some ⟨gg,o,none⟩)) (hx:ev e x=v) (hv:v.cells=vs.toArray) (hl:vs.length=m) (h1:AJ vs=true) (ho:o+vs.length≤xs.length) (kk:∀w',Inv B h (M.set n0 (Ao el k (.slice (some ⟨gg,0,none⟩) n cap) n (Im xs o vs))) w'→K undef w') :
  Op1 P ⟨d,.store T a x,t,pos,af,g⟩ e w K:=by
 obtain⟨ii,hi,hz,hsz,hby⟩:=he.info';subst hsz;have hp:w.ownsRow 0 el ii.size (.slice (some ⟨gg,0,none⟩) n cap) n xs:=I.at n0 hn;have hfp:=(I.own _ (Afk hn)).2 gg (by simp[Ao,Value.ownBlock]);rcases hp.2 with ⟨h0,_⟩|⟨g',cap',cur,he',hb,hg,hnc,hcm,hcs,ht⟩
 ·cases h0
 injection he' with e1 e2 e3;injection e1 with e1;injection e1 with e1;subst e1;subst e3;have hnk:n*ii.size≤cap*ii.size:=AfA _ hnc;have hxl:=hp.1;have hone:∀u∈vs,u.oneCell'=true:=fun u hu=>by
  simp only[AJ,Aff] at h1;exact h1 u hu
 have hst:=run_storeCells_at P gg o el vs 0 cur w hg (by rw[hcs];omega) hone;simp only[AgS] at hst;have hA:(execOp (ev e) ⟨d,.store T a x,t,pos,af,g⟩).run P w=.ok .skip (w.setRow gg (cur.toList.take o++vs++cur.toList.drop (o+vs.length)).toArray):=by
  simp[execOp,Instr.storeAt,Instr.sureAddr,ha,hx,storeVar,hv,hT.size,hl,hst]
 unfold Op1;rw[hA];have hcl:cur.toList.length=cap*ii.size:=by rw[Af2,hcs]
 refine kk _ (I.l6 n0 hn rfl rfl rfl (by simp) (fun b hb hnb=>setRow_other w gg b _ (fun e=>hnb (by simp[Ao,Value.ownBlock,e]))) ?_ (fun b hb=>?_))
 ·refine⟨?_,.inr ⟨gg,cap,_,rfl,hb,setRow_heap w gg cur _ el _ hg,hnc,hcm,?_,?_⟩⟩
  ·rw[Pm ho,hp.1]
  ·simp only[Afx,Ae2,Afj,AfD,hcl];omega
  ·rw[Jf _ _ _ _ (by omega) (by rw[hcl];exact hnk),ht]
 ·have:b=gg:=by simpa[Ao,Value.ownBlock] using hb
  subst this;exact⟨.inl (by simp[Ao,Value.ownBlock]),by simpa using hfp.2.1⟩
end
theorem Inv.rdE{B:Aq}{h:Ae}{M:List SA}{w:World}{T gg n cap:Nat}{zs:List Stp}(I:Inv B h M w)(n0:Nat)(hn:M[n0]?=some (Ao T 4 (.slice (some ⟨gg,0,none⟩) n cap) n (zs.flatMap Stp.enc))){i o:Nat}{y:Stp}(hy:zs[i]?=some y)(ho:o=i*4):Rd w gg o y.enc:=by
 subst ho;intro j v hj;have hp:w.ownsRow 0 T 4 (.slice (some ⟨gg,0,none⟩) n cap) n (zs.flatMap Stp.enc):=I.at n0 hn;have:=hp.cells (g:=gg) rfl (i*4+j) v (IE CX zs i j y v hy hj);rwa [BN,Agg] at this
theorem TV(zs:List Stp)(k:Nat)(y:Stp)(hk:k<zs.length):Im (zs.flatMap Stp.enc) (k*4) y.enc=(zs.set k y).flatMap Stp.enc:=by
 unfold Im;rw[Dy CX,CX,show k*4+4=(k+1)*4 by omega,Ei CX,Agm,if_pos hk,Afm,AfK,Afe]
theorem AaF(a b:Vrs)(w:World):(Op.equalIn 10000 167 (.agg #[.int .i64 a.x0,.int .i64 a.x1,.int .i64 a.x2]) (.agg #[.int .i64 b.x0,.int .i64 b.x1,.int .i64 b.x2])).run prog w=.ok (decide (a=b)) w:=by
 obtain⟨i,hi⟩:∃i,prog.info? 3=some i:=by
  have:=(An).size;cases hh:prog.info? 3 with
  |some i=>exact⟨i,rfl⟩
  |none=>have:=this w;simp[sizeOf,typeInfo,hh] at this
 have hc:prog.cellsOf 3=1:=by kernel_rfl
 have p:∀(cs:Array Value) (o:Nat) v,cs[o]?=some v→(Go.part 3 cs o).run prog w=.ok v w:=fun cs o v hv=>MY (An).agg hv w;rw[show 10000=9998+1+1 from rfl,run_equalIn_array w (9998+1) _ _ Aiq hi,hc];have r3:List.range 3=[0,1,2]:=rfl;simp only[r3,Op.eqItems];obtain⟨a0,a1,a2⟩:=a;obtain⟨b0,b1,b2⟩:=b;have hd:decide ((⟨a0,a1,a2⟩:Vrs)=⟨b0,b1,b2⟩)=((a0 == b0) && ((a1 == b1) && (a2 == b2))):=by
  rw[AgH];simp
 rw[hd];cases h0:(a0 == b0)<;>cases h1:(a1 == b1)<;>cases h2:(a2 == b2)<;>simp[p,run_equalIn_int w _ 3 .i64 .i64 _ _ Ait,h0,h1,h2]
theorem NR(B:Aq)(hB:B.ok)(x y:Stp):Fn prog 219 [x.val,y.val] B (fun v _=>v=.bool (decide (x=y))):=by
 by_cases hr:Eo x.rule y.rule=0
 ·refine Fo hB func219 rfl ntmps219 fun e I=>Sr<|Abj (O.box (v:=.agg #[_,_,_,_]) I rfl rfl fun b2 w I=>Abj (O.box (v:=.agg #[_,_,_,_]) I rfl rfl fun b3 w I=>Ab Ag<|Abh<|Sr<|Ap (Abu FV rfl)<|Ai (Ld I An 1 0 1 rfl rfl rfl)<|Ap (Abu FV rfl)<|Ai (Ld I An 0 0 1 rfl rfl rfl)<|Abj (Abm I call158 (Ey _ I.j6 _ _) rfl fun w I=>AT (Abs (AbI rfl rfl) (hr))<|Ab Mv<|Gp (Abr BV rfl)<|Gy (Ld I CI 1 1 3 rfl rfl rfl)<|Gp (Abr BV rfl)<|Gy (Ld I CI 0 1 3 rfl rfl rfl)<|Gb (Aea (by kernel_rfl) (AaF x.vars y.vars) rfl rfl)<|Ab (Abo rfl rfl)<|Ab Ag<|Abh<|Wr ?_)));exact Rm (v:=.bool _) rfl rfl I (by simp only[tup];congr 1;rw[decide_eq_decide];have:=Hr.1 hr;cases x;cases y;simp_all)
 ·refine Fo hB func219 rfl ntmps219 fun e I=>Sr<|Abj (O.box (v:=.agg #[_,_,_,_]) I rfl rfl fun b2 w I=>Abj (O.box (v:=.agg #[_,_,_,_]) I rfl rfl fun b3 w I=>Ab Ag<|Abh<|Sr<|Ap (Abu FV rfl)<|Ai (Ld I An 1 0 1 rfl rfl rfl)<|Ap (Abu FV rfl)<|Ai (Ld I An 0 0 1 rfl rfl rfl)<|Abj (Abm I call158 (Ey _ I.j6 _ _) rfl fun w I=>AF (Abt (AbI rfl rfl) (hr))<|Ab Mv<|Gg<|Gg<|Gg<|Gg<|Gg<|Ab (Abp rfl rfl)<|Ab Ag<|Abh<|Wr ?_)));exact Rm (v:=.bool _) rfl rfl I (by simp only[tup];rw[decide_eq_false];intro e;exact hr (Hr.2 (by rw[e])))
def cpt:Stp→List Stp→List Stp
 |_,[]=>[]
 |p,y::r=>if y=p then cpt y r else y::cpt y r
def compactS:List Stp→List Stp
 |[]=>[]
 |x::r=>x::cpt x r
theorem Qm:∀(r:List Stp) (p y:Stp),cpt p (r++[y])=cpt p r++if y=(p::r).getLast (by simp) then [] else [y]
 |[],p,y=>by by_cases h:y=p<;>simp[cpt,h]
 |z::r,p,y=>by
  rw[AfH,cpt,cpt,Qm r z y];have:(p::z::r).getLast (by simp)=(z::r).getLast (by simp):=by simp
  rw[this];split<;>simp
theorem NS{xs:List Stp}(y:Stp)(h:xs≠[]):compactS (xs++[y])=compactS xs++if y=xs.getLast h then [] else [y]:=by
 cases xs with
 |nil=>exact absurd rfl h
 |cons x r=>rw[AfH,compactS,compactS,Qm];rfl
theorem FH{xs:List Stp}{k:Nat}(h0:0<k)(hk:k<xs.length):compactS (xs.take (k+1))=compactS (xs.take k)++if xs[k]=xs[k-1] then [] else [xs[k]]:=by
 have hne:xs.take k≠[]:=by intro e;have:=congrArg List.length e;rw[Afj,Afc] at this;omega
 have hl:(xs.take k).getLast hne=xs[k-1]:=by
  rw[List.getLast_eq_getElem];simp only[Afj,AhN];congr 1;omega
 rw[Afi hk,NS _ hne,hl]
theorem FI{xs:List Stp}(k:Nat)(hk:k≤xs.length)(h:∀j,0<j→j<k→∀hj:j<xs.length,xs[j]≠xs[j-1]):compactS (xs.take k)=xs.take k:=by
 induction k with
 |zero=>simp[compactS]
 |succ k ih=>
  by_cases h0:k=0
  ·subst h0;cases xs with
   |nil=>simp at hk
   |cons x r=>simp[compactS,cpt]
  ·rw[FH (k:=k) (by omega) (by omega),ih (by omega) (fun j a b c=>h j a (by omega) c),if_neg (h k (by omega) (by omega) (by omega))];exact(Afi _).symm
theorem Mn(zs:List Stp)(q:Nat)(y:Stp):(zs.set q y).take q=zs.take q:=by
 apply Ago;intro j;rw[AfF,AfF];split
 ·rw[Agw (by omega)]
 ·rfl
theorem TW:∀(r:List Stp) (p:Stp),(cpt p r).length≤r.length
 |[],p=>by simp[cpt]
 |y::r,p=>by rw[cpt];split<;>simp only[Ae6]<;>have:=TW r y<;>omega
theorem OY(xs:List Stp):(compactS xs).length≤xs.length:=by
 cases xs with
 |nil=>simp[compactS]
 |cons x r=>simp only[compactS,Ae6];have:=TW r x;omega
theorem Rt{B:Aq}{h:Ae}{M:List SA}{w:World}{a:Option Addr}{c m:Nat}{xs:List Stp}(I:Inv B h (Ao 169 4 (.slice a m c) m (xs.flatMap Stp.enc)::M) w)(hm:m=xs.length)(hsz:m≤1000000000) :
  Calls prog 218 [.slice a m c,.func (.func 219) #[] #[]].toArray w
   (fun ed w'=>∃a' c' m',ed=.returned (.slice a' m' c')∧m'=(compactS xs).length∧Inv B h (Ao 169 4 (.slice a' m' c') m' ((compactS xs).flatMap Stp.enc)::M) w'):=by
 by_cases hlt:m<2
 ·have hcx:compactS xs=xs:=by
   have:=FI (xs:=xs) xs.length (Afg _) (fun j h0 hj hj'=>by omega);rwa [Afo] at this
  refine AbV (args:=[.slice a m c,.func (.func 219) #[] #[]]) func218 rfl ntmps218 (by kernel_rfl) (by simp) fun e=>Sr<|As0 Ag<|Abh<|Abi<|Sr<|As0 Mv<|Ai (AbA Aif rfl)<|Ad (AbC rfl rfl)<|Abh<|Aco rfl ((by omega))<|Sr<|As0 Mv<|As0 Ag<|Abh<|Wr ?_;exact⟨.inl rfl,[.slice a m c],⟨rfl,trivial⟩,a,c,m,rfl,by rw[hcx];exact hm,by rw[hcx];exact I⟩
 rcases(I.at 0 rfl).2 with ⟨h0,hn⟩|⟨gg,cap,cur,he,_,hg,hnc,hcm,_⟩
 ·injection h0 with e1 e2 e3;omega
 injection he with e1 e2 e3;subst e1;subst e3;simp only[maxLen] at hcm;refine AbV (args:=[.slice (some ⟨gg,0,none⟩) m c,.func (.func 219) #[] #[]]) func218 rfl ntmps218 (by kernel_rfl) (by simp) fun e=>Sr<|As0 Ag<|Abh<|Abi<|Sr<|As0 Mv<|Ai (AbA Aif rfl)<|Ad (AbC rfl rfl)<|Abh<|Ach rfl ((by omega))<|Abk<|Abi<|Sr<|Ai Ag<|Abh<|WP.block ?_;refine Abx (σ:=Nat) (fun k=>[(0,.slice (some ⟨gg,0,none⟩) m c),(1,.func (.func 219) #[] #[]),(5,.int .i64 k)]) (fun k w=>Inv B h (Ao 169 4 (.slice (some ⟨gg,0,none⟩) m c) m (xs.flatMap Stp.enc)::M) w∧1≤k∧k≤m∧∀j,0<j→j<k→∀hj:j<xs.length,xs[j]≠xs[j-1]) (fun k=>m-k)
  ⟨1,⟨rfl,rfl,rfl,trivial⟩,I,Afg _,by omega,fun j h0 hj=>by omega⟩ ?_
 rintro k e w ⟨I,hk1,hk,hn⟩;refine Abi<|Sr<|Ai Mv<|As0 Mv<|Ai (AbA Aif rfl)<|Ad (AbC rfl rfl)<|Abh ?_;refine Abl rfl (fun h4=>?_) (fun h4=>?_)
 ·have hk':k<xs.length:=by omega
  have g1:xs[k]?=some xs[k]:=Ae4 hk';have g0:xs[k-1]?=some xs[k-1]:=Ae4 (by omega);refine Abk<|Abi<|WP.block<|Abi<|AbD AC I (by kernel_rfl)<|Qf (fun w I=>Mv)<|Qs (fun w I=>Mv)<|Qi (fun w I=>Mv)<|Qp (fun w I=>Acy Aif Aiw rfl rfl (by omega) (by omega))<|Qz (fun w I=>Abn Cy rfl (I.rdE 0 rfl g1 (by omega)) rfl rfl)<|Qs (fun w I=>Mv)<|Qi (fun w I=>Mv)<|Qi (fun w I=>AcA rfl rfl ⟨by omega,by omega⟩)<|Qp (fun w I=>Acy Aif Aiw rfl rfl (by omega) (by omega))<|Qz (fun w I=>Abn Cy rfl (I.rdE 0 rfl g0 (by omega)) rfl rfl)<|Am.c (fun w I=>Acx I call219 (fs:=[]) (cs:=[]) rfl (NR _ I.j6 xs[k] xs[k-1]) rfl)<|AbH fun w I=>?_;refine Abl rfl (fun h6=>?_) (fun h6=>?_)
  ·have hc1:compactS (xs.take (k+1))=xs.take k:=by
    rw[FH (by omega) hk',if_pos h6,FI k (by omega) hn,Aft]
   refine Sr<|As0 Mv<|Ai Mv<|As0 (AcC (l:=k) (h':=m) Aif Aiw rfl (.inr ⟨_,_,rfl,rfl⟩) (.inl ⟨rfl,rfl⟩) (by omega) (by omega) (by omega))<|As0 Ag<|Abh<|Abi<|Sr<|Ai Ag<|Abh ?_;refine Acc (σ:=Nat) (fun q=>[(0,.slice (some ⟨gg,0,none⟩) m c),(5,.int .i64 q)]) (fun q w=>∃zs:List Stp,Inv B h (Ao 169 4 (.slice (some ⟨gg,0,none⟩) m c) m (zs.flatMap Stp.enc)::M) w∧zs.take q=compactS xs∧q=(compactS xs).length∧q<m) ?_ ?_
   ·refine WP.block ?_;refine Abx (σ:=Nat×Nat×List Stp) (fun s=>[(0,.slice (some ⟨gg,0,none⟩) m c),(1,.func (.func 219) #[] #[]),(5,.int .i64 s.2.1),(6,.slice (some ⟨gg,k*4,none⟩) (m-k) (c-k)),(7,.int .i64 s.1)])
     (fun s w=>Inv B h (Ao 169 4 (.slice (some ⟨gg,0,none⟩) m c) m (s.2.2.flatMap Stp.enc)::M) w∧1≤s.1∧k+s.1≤m∧s.2.2.length=m∧s.2.1+1≤k+s.1∧s.2.2.take s.2.1=compactS (xs.take (k+s.1))∧s.2.1=(compactS (xs.take (k+s.1))).length∧(∀j,k+s.1≤j+1→s.2.2[j]?=xs[j]?)) (fun s=>m-s.1)
     ⟨(1,k,xs),⟨rfl,rfl,rfl,rfl,rfl,trivial⟩,I,Afg _,by dsimp only;omega,hm.symm,by dsimp only;omega,hc1.symm,by dsimp only;rw[hc1,Afj];omega,fun _ _=>rfl⟩ ?_
    rintro⟨k2,q,zs⟩ e w ⟨I,h1,h2,hzl,hq1,hq2,hq3,hz⟩;dsimp only at I h1 h2 hzl hq1 hq2 hq3 hz ⊢;refine Abi<|Sr<|Ai Mv<|As0 Mv<|Ai (AbA Aif rfl)<|Ad (AbC rfl rfl)<|Abh ?_;refine Abl rfl (fun h9=>?_) (fun h9=>?_)
    ·have hkk:k+k2<xs.length:=by omega
     have f1:zs[k+k2]?=some xs[k+k2]:=by rw[hz _ (by omega)];exact Ae4 hkk
     have f0:zs[k+k2-1]?=some xs[k+k2-1]:=by rw[hz _ (by omega)];exact Ae4 (by omega)
     have hct:=FH (xs:=xs) (k:=k+k2) (by omega) hkk;refine Abk<|Abi<|WP.block<|Abi<|AbD AC I (by kernel_rfl)<|Qf (fun w I=>Mv)<|Qs (fun w I=>Mv)<|Qi (fun w I=>Mv)<|Qp (fun w I=>Acy Aif Aiw rfl rfl (by omega) (by omega))<|Qz (fun w I=>Abn Cy rfl (I.rdE 0 rfl f1 (by omega)) rfl rfl)<|Qs (fun w I=>Mv)<|Qi (fun w I=>Mv)<|Qi (fun w I=>AcA rfl rfl ⟨by omega,by omega⟩)<|Qp (fun w I=>Acy Aif Aiw rfl rfl (by omega) (by omega))<|Qz (fun w I=>Abn Cy rfl (I.rdE 0 rfl f0 (by omega)) rfl rfl)<|Am.c (fun w I=>Acx I call219 (fs:=[]) (cs:=[]) rfl (NR _ I.j6 xs[k+k2] xs[k+k2-1]) rfl)<|Qd (fun w I=>Ac3 rfl)<|AbH fun w I=>?_;refine Abl rfl (fun h11=>?_) (fun h11=>?_)
     ·have hne:xs[k+k2]≠xs[k+k2-1]:=h11;rw[if_neg hne] at hct;refine Sr<|As0 Mv<|Ai Mv<|As0 Mv<|Ai Mv<|Ap (Acy Aif Aiw rfl rfl (by omega) (by omega))<|Az (Abn Cy rfl (I.rdE 0 rfl f1 (by omega)) rfl rfl)<|Ap (Acy Aif Aiw rfl rfl (by omega) (by omega))<|Abj (Ad3 (vs:=xs[k+k2].enc) I Cy KU 0 rfl rfl rfl rfl rfl rfl (by rw[Cr CX,CX];omega) fun w I=>Abh<|Abg<|Ai Mv<|Ai (Dd rfl rfl)<|Ai Ag<|Abh<|Abg<|Ai Mv<|Ai (Dd rfl rfl)<|Ai Ag<|Abh ?_);have I:Inv B h (Ao 169 4 (.slice (some ⟨gg,0,none⟩) m c) m ((zs.set q xs[k+k2]).flatMap Stp.enc)::M) w:=by
       rw[←TV _ _ _ (by omega)];have J:=I;simp only[Afs,Agg] at J;exact J
      refine⟨(k2+1,q+1,zs.set q xs[k+k2]),⟨⟨rfl,rfl,rfl,rfl,rfl,trivial⟩,I,by dsimp only;omega,by dsimp only;omega,by simpa using hzl,by dsimp only;omega,?_,?_,fun j hj=>?_⟩,by dsimp only;omega⟩
      ·dsimp only;rw[show k+(k2+1)=k+k2+1 by omega,hct,←hq2,Afi (by simp;omega),Mn];simp
      ·dsimp only;rw[show k+(k2+1)=k+k2+1 by omega,hct,Ae2,←hq3];rfl
      ·dsimp only at hj ⊢;rw[Agw (by omega)];exact hz j (by omega)
     ·have heq:xs[k+k2]=xs[k+k2-1]:=Afh.1 h11;rw[if_pos heq,Aft] at hct;refine Abk<|Abg<|Ai Mv<|Ai (Dd rfl rfl)<|Ai Ag<|Abh ?_;exact⟨(k2+1,q,zs),⟨⟨rfl,rfl,rfl,rfl,rfl,trivial⟩,I,by dsimp only;omega,by dsimp only;omega,hzl,by dsimp only;omega,by dsimp only;rw[show k+(k2+1)=k+k2+1 by omega,hct];exact hq2,by dsimp only;rw[show k+(k2+1)=k+k2+1 by omega,hct];exact hq3,fun j hj=>hz j (by dsimp only at hj;omega)⟩,by dsimp only;omega⟩
    ·have hkm:k+k2=xs.length:=by omega
     rw[hkm,Afo] at hq2 hq3;refine Abz ?_;exact⟨q,⟨rfl,rfl,trivial⟩,zs,I,hq2,hq3,by omega⟩
   rintro q e w ⟨zs,I,hq2,hq3,hq4⟩;have I:=I.y7 (m:=q) (by omega);rw[Dy CX,hq2] at I;refine Sr<|As0 Mv<|Ai Mv<|As0 (AcC (l:=q) (h':=m) Aif Aiw rfl (.inr ⟨_,_,rfl,rfl⟩) (.inl ⟨rfl,rfl⟩) (by omega) (by omega) (by omega))<|Abj (AdE I Aif KU (by simp[Value.cells,Value.oneCell']) rfl (by omega) rfl (by omega) fun w I=>Abh<|Sr<|As0 Mv<|Ai Mv<|As0 (AcC (l:=0) (h':=q) Aif Aiw rfl (.inl ⟨rfl,rfl⟩) (.inr ⟨_,_,rfl,rfl⟩) (by omega) (by omega) (by omega))<|As0 Ag<|Abh<|Wr ?_);exact⟨.inl rfl,[.slice (some ⟨gg,0,none⟩) q c],⟨rfl,trivial⟩,some ⟨gg,0,none⟩,c,q,rfl,hq3,I⟩
  ·refine Abk<|Abg<|Ai Mv<|Ai (Dd rfl rfl)<|Ai Ag<|Abh ?_;exact⟨k+1,⟨⟨rfl,rfl,rfl,trivial⟩,I,by omega,by omega,fun j h0 hj hj'=>by
    rcases Afd.1 hj with h'|rfl
    ·exact hn j h0 h' hj'
    ·exact h6⟩,by omega⟩
 have hcx:compactS xs=xs:=by
  have:=FI (xs:=xs) xs.length (Afg _) (fun j h0 hj hj'=>hn j h0 (by omega) hj');rwa [Afo] at this
 refine Abz<|Sr<|As0 Mv<|As0 Ag<|Abh<|Wr ?_;exact⟨.inl rfl,[.slice (some ⟨gg,0,none⟩) m c],⟨rfl,trivial⟩,some ⟨gg,0,none⟩,c,m,rfl,by rw[hcx];exact hm,by rw[hcx];exact I⟩
end
section
theorem XC{f:List Fct}(hp:∀y∈f,PF y)(hs:IN f):∀i,(hi:i<f.length)→(i:Int)≤Ah f[i]
 |0,hi=>(hp _ (Ae5 hi)).place.1
 |i+1,hi=>by
  have h1:=XC hp hs i (by omega);have h2:=hs.get (i:=i) (j:=i+1) (by omega) hi;omega
theorem FOk.aa6{l:List Prd}{f:List Fct}(ok:FOk l f):f.length≤125:=by
 rcases Af4 125 f.length with h|h
 ·have h1:=XC ok.pf ok.srt 125 h;have h2:=(ok.pf _ (Ae5 h)).place.2;omega
 ·exact h
theorem TX{l:List Prd}{f:List Fct}{r:Rul}(ok:ROk l r)(okf:FOk l f)(b:Vrs):(KF f (Gm r.body.xs) b).length≤1000000*2:=by
 have h1:=Qk f (Gm r.body.xs) b;have h2:=LU r.body.xs;have h3:f.length ^ (Gm r.body.xs).length≤125 ^ (Gm r.body.xs).length:=Nat.pow_le_pow_left okf.aa6 _;have h4:125 ^ (Gm r.body.xs).length≤125 ^ 3:=Nat.pow_le_pow_right (by decide) (by have:=ok.len;omega);have h5:(125:Nat) ^ 3=1953125:=by decide
 omega
theorem OZ{n:Int}:∀(r:List Stp) (p:Stp),Aal (p::r)→(∀x∈p::r,x.rule=n)→(p::cpt p r).Pairwise ltS∧∀x,x∈p::cpt p r↔x∈p::r
 |[],p,_,_=>⟨by simp[cpt],fun x=>by simp[cpt]⟩
 |y::r,p,hs,hr=>by
  obtain⟨h1,h2⟩:=AfB.1 hs;rw[cpt];split
  ·rename_i e;subst e;obtain⟨k1,k2⟩:=OZ r y h2 (fun x hx=>hr x (Ae8 _ hx));refine⟨k1,fun x=>(k2 x).trans ?_⟩;simp
  ·rename_i e;obtain⟨k1,k2⟩:=OZ r y h2 (fun x hx=>hr x (Ae8 _ hx));have hlt:ltS p y:=by
    rcases XT p.vars y.vars with h|h|h
    ·exact h
    ·exfalso;apply e;have e1:=hr p Ae7;have e2:=hr y (Ae8 _ Ae7);cases p;cases y;dsimp only at h e1 e2;rw[h,e1,e2]
    ·exact absurd h (h1 y Ae7)
   refine⟨AfB.2 ⟨fun z hz=>?_,k1⟩,fun x=>?_⟩
   ·rcases Afq.1 hz with rfl|hz
    ·exact hlt
    ·exact JA hlt ((AfB.1 k1).1 z hz)
   ·rw[Afq,k2,Afq (a:=x) (b:=p)]
theorem O0{n:Int}{ys:List Stp}(hs:Aal ys)(hr:∀x∈ys,x.rule=n):(compactS ys).Pairwise ltS∧∀x,x∈compactS ys↔x∈ys:=by
 cases ys with
 |nil=>exact⟨List.Pairwise.nil,fun _=>Iff.rfl⟩
 |cons p r=>exact OZ r p hs hr
theorem HA{l:List Prd}{f:List Fct}{n:Int}{r:Rul}(ok:ROk l r)(okf:FOk l f){ys:List Stp}(hp:ys.Perm (NO f n r (KF f (Gm r.body.xs) b0)))(hs:Aal ys):compactS ys=A6 f n r:=by
 have hr:∀x∈ys,x.rule=n:=fun x hx=>by
  have:=hp.mem_iff.1 hx;unfold NO at this;obtain⟨b,_,rfl⟩:=AfE.1 this;rfl
 obtain⟨h1,h2⟩:=O0 hs hr;exact Vq ok okf h1 fun x=>(h2 x).trans hp.mem_iff
theorem ZR(l:List Atm):BOk l b0:=fun _ hv=>.inl (XU hv)
def Ru(xs:List Stp):Sp:=fun v h=>∃s:Sl Stp,v=s.val∧s.xs=xs∧Aaw s h
theorem Qn(B:Aq)(hB:B.ok)(p:Prg)(hp:p.In B.h)(f:Sl Fct)(hf:Cv f B.h)(n:Int)(r:Rul)(h0:0≤n)(hr:p.rules.xs[n.toNat]?=some r)(ok:ROk p.preds.xs r)(okf:FOk p.preds.xs f.xs) :
  Fn prog 174 [p.val,f.val,.int .i64 n] B (Ru (A6 f.xs n r)):=by
 have Er:=hp.rules.is.el.el hr;have ir:=hp.rules.each _ (Afk hr);have hlb:=TX ok okf b0;refine Fo hB func174 rfl ntmps174 fun e I=>Sr<|Abj (O.box (v:=.agg #[_,_]) I rfl rfl fun b3 w I=>Abj (O.box (v:=.slice _ _ _) I rfl rfl fun b4 w I=>Abj (O.box (v:=.int .i64 _) I rfl rfl fun b5 w I=>As0 Ag<|Abh<|Sr<|Ap (Abr AU rfl)<|As0 (Ld I Cc 2 1 1 rfl rfl rfl)<|Ai (Ld I An 0 0 1 rfl rfl rfl)<|Ap (AbJ Er Aic Aiv rfl rfl h0 rfl)<|AbB (v:=.agg #[_,_,_,_,_]) (Abn C0 rfl (I.rd (Er.rd.part 0 5)) rfl rfl)<|Abj (Ac9 I call118 (PO _ I.j6 r ir.body ok.len) rfl ?_))));rintro _ h1 _ w I le1 ⟨u1,u2,rfl,rfl⟩;try simp only[AfH,AfC] at I
 refine Au Mv<|AbB (v:=u1) (Y.extract rfl rfl)<|AbB (v:=u2) (Y.extract rfl rfl)<|AbB (v:=u1) Ag<|AbB (v:=u2) Ag<|Abh ?_;have I:=I.drop;obtain⟨h2,s,le2,rfl,hsx,os,I⟩:=I.y5 rfl;have hA:AtS s h2:=by
  refine⟨⟨os.in (fun _=>rfl),?_⟩,?_,fun a ha=>?_⟩
  ·rw[hsx];have:=LU r.body.xs;have:=ok.len;omega
  ·rcases os with rfl|⟨_,_,_,_,_,q,_⟩
   ·exact Afg _
   ·exact q
  ·rw[hsx] at ha;obtain⟨y,hy,_,rfl⟩:=ER.1 ha;exact Atm.In.le (ir.body.each y hy) (le1.trans le2)
 obtain⟨h5,le5,k5,I⟩:=I.z8;obtain⟨h4,le4,k4,I⟩:=I.z8;obtain⟨h3,le3,k3,I⟩:=I.z8;refine Sr<|Abj (O.alloc I zeroValue129 rfl fun b9 w I=>Abh<|Sr<|Abj (O.alloc I zeroValue238 rfl fun b10 w I=>Abh<|Sr<|Af (Acq rfl rfl)<|Abj (Sf I Sd 0 rfl rfl rfl rfl fun w I=>Abh ?_)));obtain⟨h10,le10,k10,I⟩:=I.z8;have gl:B.h.le h10:=((((le1.trans le2).trans le5).trans le4).trans le3).trans le10;have E:ZQ h10 p f n r b5 b3 b4 b9 b10:=⟨k5.le ((le4.trans le3).trans le10),k3.le le10,k4.le (le3.trans le10),k10,hp.le gl,hf.le gl⟩;have hA:=hA.le (((le5.trans le4).trans le3).trans le10);have I:Inv B h10 (XA b9 none 0 0 []) w:=(I.l9 169 4).front 1 rfl;refine Sr<|Af (Abn Sd rfl (I.rd (E.kl.rd.part 0 1)) rfl rfl)<|AbB (v:=.agg #[.int .i64 _,.int .i64 _,.int .i64 _]) (AcW Aiy zeroValue239 Aij rfl rfl)<|As0 Mv<|Abj (Adm call213 (fs:=[]) (cs:=[Pt b5,Pt b3,Pt b4,Pt b9,Pt b10]) rfl (XB p f n r b5 b3 b4 b9 b10 h0 hr ok okf (Gm r.body.xs) s b0 none 0 0 [] hsx I rfl E hA (fun x hx=>hx) (ZR _) (by omega)) rfl ?_);rintro ed w ⟨rfl,h6,a6,c6,m6,le6,I,hm6⟩;refine⟨_,rfl,?_⟩;refine Abh ?_;have hol:=TT f.xs n r (KF f.xs (Gm r.body.xs) b0);rw[AfC] at I hm6;refine Sr<|As0 (Ld I G4 0 0 1 rfl rfl rfl)<|Abj (Ace call215 (Ys (I.front 1 rfl) hm6 (by omega)) rfl ?_);rintro ed w ⟨rfl,ys,hperm,hsrt,I⟩;refine⟨_,rfl,?_⟩;refine Abh ?_;have hml:m6=ys.length:=by rw[hm6,hperm.length_eq]
 have I:=(I.front 1 rfl);refine Sr<|As0 (Ld I G4 0 0 1 rfl rfl rfl)<|Abj (Ace call218 (Rt (I.front 1 rfl) hml (by omega)) rfl ?_);rintro ed w ⟨a7,c7,m7,rfl,hm7,I⟩;refine⟨_,rfl,?_⟩;refine As0 Ag<|Abh ?_;rw[HA ok okf hperm hsrt] at I hm7;obtain⟨h8,s8,le8,e8,hx8,in8,I⟩:=I.p8 (fun _=>rfl) hm7;have hsm:s8.xs.length≤140737488355328:=by rw[hx8,←hm7];have:=OY ys;rw[HA ok okf hperm hsrt,←hm7,←hml] at this;omega
 refine Wr ?_;exact Rm (v:=.slice _ _ _) rfl rfl I (⟨s8,by simp only[tup];exact e8.symm,hx8,in8,hsm⟩)
end
section
end
section
theorem TY(r:Rul)(k:Int):(CO r.er k).atom.args.xs=(CO r k).atom.args.xs∧(CO r.er k).atom.pred=(CO r k).atom.pred:=by
 have h:r.er.body.xs=r.body.xs.map Ltl.er:=rfl;unfold CO;rw[h,Ae3,Ae3,AfI];cases r.body.xs[k.toNat]?<;>exact⟨rfl,rfl⟩
theorem Rv{a b:Atm}(h:a.args.xs=b.args.xs∧a.pred=b.pred)(x:Vrs):groundF a x=groundF b x:=by
 obtain⟨p,s⟩:=a;obtain⟨q,t⟩:=b;obtain⟨h1,h2⟩:=h;dsimp only at h1 h2;subst h2;unfold groundF;simp only[Em,h1]
theorem TZ(f:List Fct)(r:Rul)(x:Vrs):Bv f r.er x=Bv f r x:=by
 have h:r.er.body.xs=r.body.xs.map Ltl.er:=rfl;unfold Bv;rw[h,List.all_map];rfl
theorem Qo(l:List Prd)(f:List Fct)(r:Rul)(x:Vrs):CP l f r.er x=CP l f r x:=by
 unfold CP Jy;rw[Rv (TY r r.er.src)];rfl
theorem NT(f:List Fct)(n:Int)(r:Rul):A6 f n r.er=A6 f n r:=by
 have h:r.er.body.xs=r.body.xs.map Ltl.er:=rfl;have hs:AR r.er=AR r:=by
  funext v;unfold AR;rw[h,Ah7];rfl
 unfold A6 L0;rw[hs];simp only[TZ]
section
variable {p:Prg}{h:Ae}(hp:Cl p h)
include hp
theorem D4:p.preds.xs=AM.preds.xs:=by have:=congrArg (fun q:Prg=>q.preds.xs) hp.er;exact this
theorem Qq:p.rules.xs.length=7:=by have:=congrArg (fun q:Prg=>q.rules.xs.length) hp.er;simpa[Prg.er,AM] using this
end
section
variable (B:Aq)(hB:B.ok)(p:Prg)(hp:p.In B.h)(hnm:p.Nm)(f:Sl Fct)(hf:Cv f B.h)(n:Int)
include hB hp hnm hf
end
theorem ZS{l:List Prd}{f g:List Fct}(hu:A8 l f g=true){y:Fct}(h:isF f y=true):isF g y=true:=by
 unfold isF at *;cases hl:lkF f (Ah y) with
 |none=>rw[hl] at h;cases h
 |some v=>
  obtain⟨z,hz,e,_⟩:=DB hl;obtain⟨u,h1,_⟩:=A1.1 hu z hz;rw[←e,h1];rfl
end
section
theorem T0{f:List Fct}{y:Fct}:(findF f y).1=(lkF f (Ah y)).getD 0:=rfl
theorem FJ(B:Aq)(hB:B.ok)(p:Prg)(hp:p.In B.h)(f:Sl Fct)(hf:Cv f B.h)(n:Int)(r:Rul)(h0:0≤n)(hr:p.rules.xs[n.toNat]?=some r)(ok:ROk p.preds.xs r)(okf:FOk p.preds.xs f.xs)(x:Vrs)(hx:KE x) :
  Fn prog 149 [p.val,f.val,.int .i64 n,x.val] B (fun v _=>v=tHold (Cm p.preds.xs f.xs r x)):=by
 have Er:=hp.rules.is.el.el hr;have ir:=hp.rules.each _ (Afk hr);have ah:=Bc ok.preds ok.head;have hlen:=ok.len;have hkp:r.head.pred.toNat<p.preds.xs.length:=by have:=ah.pred;omega
 have Eh:=hp.preds.at hkp;have hpo:p.preds.xs[r.head.pred.toNat]=Al p.preds.xs r.head.pred:=(BT ah.pred.1 ah.pred.2).symm;refine Fo hB func149 rfl ntmps149 fun e I=>Sr<|Abj (O.box (v:=.agg #[_,_]) I rfl rfl fun b4 w I=>Abj (O.box (v:=.agg #[_,_,_]) I rfl rfl fun b7 w I=>Ab Ag<|Abj (O.alloc I Aii rfl fun b9 w I=>Abh<|Sr<|Ap (Abr AU rfl)<|As0 (Ld I Cc 2 1 1 rfl rfl rfl)<|Ai Mv<|Ap (AbJ Er Aic Aiv rfl rfl h0 rfl)<|AbB (v:=.agg #[_,_,_,_,_]) (Abn C0 rfl (I.rd (Er.rd.part 0 5)) rfl rfl)<|Abj (O.alloc I Aip rfl fun b10 w I=>Abj (Ab3 (v:=.agg #[_,_,_,_,_]) I C0 0 rfl rfl rfl rfl rfl rfl (Nb rfl) rfl fun w I=>Abh<|Sr<|Ap (Abu Bw rfl)<|Ax (Ld I AP 0 0 2 rfl rfl rfl)<|Ay (Ld I CI 2 0 3 rfl rfl rfl)<|Abj (Abm I call194 (JY _ I.j6 r.head ir.head x ah.len ah.err) rfl fun w I=>Abj (O.alloc I Aii rfl fun b11 w I=>Abj (Sz I AH 0 rfl rfl rfl rfl fun w I=>Abh<|Sr<|Ap (Abr BJ rfl)<|Ai (Ld I An 1 3 1 rfl rfl rfl)<|Ap (Abr BL rfl)<|Abj (Si I An 0 rfl rfl rfl rfl fun w I=>Abh<|Abi<|Sr<|Ai Ag<|Abh<|WP.block ?_)))))))));refine Abx (σ:=Nat) (fun k=>[(1,f.val),(4,Pt b4),(7,Pt b7),(9,Pt b9),(10,Pt b10),(11,Pt b11),(12,.int .i64 k)])
  (fun k w=>(∃h1,B.h.le h1∧Inv B h1 [box b11 [.int .i64 r.head.pred,.int .i64 (Em r.head x 0),.int .i64 (Em r.head x 1),.int .i64 (MO p.preds.xs f.xs r x k)] 83,box b10 r.enc 64,box b9 [.int .i64 0,.int .i64 0,.int .i64 0,.int .i64 0] 83,box b7 x.enc 167,box b4 p.enc 25] w)∧k≤r.body.xs.length∧∀j,j<k→∀hj:j<r.body.xs.length,GK f.xs x r.body.xs[j]=true) (fun k=>r.body.xs.length-k)
  ⟨0,⟨rfl,rfl,rfl,rfl,rfl,rfl,rfl,trivial⟩,?_,Afa _,fun j hj=>by omega⟩ ?_
 ·have:MO p.preds.xs f.xs r x 0=r.n:=by unfold MO;rw[if_neg (by omega)]
  rw[this];exact⟨_,Ae.le.refl _,I⟩
 rintro k e w ⟨⟨h1,gl,I⟩,hk,hn⟩;have ir:=ir.le gl;have hf:=hf.le gl;have Eh:=Eh.le gl;refine Abi<|Sr<|Ai Mv<|Ap (Abr AG rfl)<|As0 (Ld I Bi 1 4 1 rfl rfl rfl)<|Ai (AbA Aib rfl)<|Ad (AbC rfl rfl)<|Abh ?_;refine Abl rfl (fun h=>?_) (fun h=>?_)
 ·have hk':k<r.body.xs.length:=by omega
  have E1:=ir.body.is.at hk';have ab:=Bc ok.preds (ok.body _ (Ae5 hk'));have pb:=ab.pf ok.five hx 0;refine Abk<|Abi<|WP.block<|Abi<|AbD AC I (by kernel_rfl)<|Qs (fun w I=>Mv)<|Qp (fun w I=>Abr AG rfl)<|Qs (fun w I=>Ld I Bi 1 4 1 rfl rfl rfl)<|Qi (fun w I=>Mv)<|Qp (fun w I=>Ix E1 Aib Ail rfl rfl)<|Qp (fun w I=>Abr Bk rfl)<|Qx (fun w I=>Abn AP rfl (I.rd (E1.rd.part 1 2)) rfl rfl)<|Qy (fun w I=>Ld I CI 3 0 3 rfl rfl rfl)<|Am.c (fun w I=>AbO I call194 (JY _ I.j6 r.body.xs[k].atom (ir.body.each _ (Ae5 hk')) x ab.len ab.err) rfl)<|Am.c (fun w I=>AbO I call151 (Mi _ I.j6 f hf okf.pf _ pb) rfl)<|Qu (fun w I=>Mv)<|Qi (fun w I=>Y.extract rfl rfl)<|Qb (fun w I=>Y.extract rfl rfl)<|Qi (fun w I=>Ag)<|Qb (fun w I=>Ag)<|AbH fun w I=>Abi<|Sr<|Ab Mv<|Ap (Abr AG rfl)<|As0 (Ld I Bi 1 4 1 rfl rfl rfl)<|Ai Mv<|Ap (Ix E1 Aib Ail rfl rfl)<|Ap (Abu BK rfl)<|Ab (Abn Br rfl (I.rd (E1.rd.part 0 1)) rfl rfl)<|Ad (AdX AiK rfl rfl)<|Abh ?_;refine Abl rfl (fun h8=>?_) (fun h8=>?_)
  ·have h8:isF f.xs (groundF r.body.xs[k].atom x)=r.body.xs[k].neg:=h8;have hno:Bv f.xs r x=false:=by
    unfold Bv;rw[AgI];exact⟨_,Ae5 hk',by rw[EA];exact fun hh=>hh h8⟩
   refine Sr<|AbB (v:=.agg #[.int .i64 _,.int .i64 _,.int .i64 _,.int .i64 _]) (Y.build Ve Aii rfl rfl)<|Ab Ag<|Abj (Sz I AH 2 rfl rfl rfl rfl fun w I=>Abh<|Wr ?_);exact BH.mk (vs:=[.bool _,.agg #[_,_,_,_]]) rfl ⟨rfl,⟨_,_,_,_,_,rfl,AH,I.l5 2 rfl 0 4,rfl,rfl⟩,trivial⟩ I.j5 (by simp only[tup,tHold,Cm,hno];rfl)
  have h8:¬isF f.xs (groundF r.body.xs[k].atom x)=r.body.xs[k].neg:=h8;refine Abk<|Sr<|Ai Mv<|Ap (Abr AV rfl)<|Ai (Ld I An 1 2 1 rfl rfl rfl)<|Ad (AbI rfl rfl)<|Abh ?_;refine Abl rfl (fun h10=>?_) (fun h10=>?_)
  ·have hs0:0≤r.src:=by omega
   obtain⟨hng,hkq⟩:=ok.pos hs0;have hlo:CO r r.src=r.body.xs[k]:=by rw[←h10];exact Qc hk'
   have hval:MO p.preds.xs f.xs r x (k+1)=liftV p.preds.xs[r.head.pred.toNat].kind (findF f.xs (groundF r.body.xs[k].atom x)).1 r.n:=by
    unfold MO Jy;rw[if_pos ⟨hs0,by omega⟩,if_pos hs0,hlo,hpo];rfl
   have hI:I64 ((findF f.xs (groundF r.body.xs[k].atom x)).1+r.n):=by
    have h2:=ok.n;have h1:0≤(findF f.xs (groundF r.body.xs[k].atom x)).1∧(findF f.xs (groundF r.body.xs[k].atom x)).1≤15:=by
     rw[T0];cases hlk:lkF f.xs (Ah (groundF r.body.xs[k].atom x)) with
     |none=>exact⟨by decide,by decide⟩
     |some v=>
      obtain⟨y,hy,_,rfl⟩:=DB hlk;have:=DA.1 (Da (okf.fine _ hy));exact⟨this.2.2.1,this.2.2.2.1⟩
    unfold I64;omega
   refine AbM AC I 11 (by kernel_rfl)<|Fp (fun _ w us hl I=>Abu At rfl)<|Fs (fun _ w us hl I=>Ld I A7 4 0 1 rfl rfl rfl)<|Fp (fun _ w us hl I=>Abu Bu rfl)<|Fi (fun _ w us hl I=>Ld I An 0 0 1 rfl rfl rfl)<|Fp (fun _ w us hl I=>AbJ Eh Aia Aim rfl rfl ah.pred.1 rfl)<|Fp (fun _ w us hl I=>Abr A3 rfl)<|Fi (fun _ w us hl I=>Abn An rfl (I.rd ((Eh.rd.part 2 1).le hl)) rfl rfl)<|Fi (fun _ w us hl I=>Mv)<|Fp (fun _ w us hl I=>Abr BJ rfl)<|Fi (fun _ w us hl I=>Ld I An 1 3 1 rfl rfl rfl)<|AcZ (fun _=>Aj _) (fun _ w us hl I=>Abm I call195 (VK _ I.j6 _ _ _ hI) rfl (fun w' I'=>⟨rfl,I'⟩))<|AbX fun _ w hl I=>?_;try unfold CT
   refine Ap (Abr BL rfl)<|Abj (Si I An 0 rfl rfl rfl rfl fun w I=>Abh<|Abg<|Ai Mv<|Ai (Dd rfl rfl)<|Ai Ag<|Abh ?_);exact⟨k+1,⟨⟨rfl,rfl,rfl,rfl,rfl,rfl,rfl,trivial⟩,⟨_,gl.trans hl,by rw[hval];exact I⟩,by omega,fun j hj hj'=>by
    rcases Afd.1 hj with h'|rfl
    ·exact hn j h' hj'
    ·exact EA.2 h8⟩,by omega⟩
  ·have hval:MO p.preds.xs f.xs r x (k+1)=MO p.preds.xs f.xs r x k:=by
    unfold MO;have:(0≤r.src∧r.src<((k+1:Nat):Int))↔(0≤r.src∧r.src<(k:Int)):=by omega
    simp only[this]
   refine Abk<|Abg<|Ai Mv<|Ai (Dd rfl rfl)<|Ai Ag<|Abh ?_;exact⟨k+1,⟨⟨rfl,rfl,rfl,rfl,rfl,rfl,rfl,trivial⟩,⟨h1,gl,by rw[hval];exact I⟩,by omega,fun j hj hj'=>by
    rcases Afd.1 hj with h'|rfl
    ·exact hn j h' hj'
    ·exact EA.2 h8⟩,by omega⟩
 obtain rfl:k=r.body.xs.length:=by omega
 have hyes:Bv f.xs r x=true:=by
  unfold Bv;rw[Aff];intro t ht;obtain⟨j,hj,rfl⟩:=Afz ht;exact hn j hj hj
 rw[Qa ok] at I;refine Abz<|Abi<|AbM AC I 2 (by kernel_rfl)<|Fz (fun _ w us hl I=>Ld I AH 0 0 4 rfl rfl rfl)<|Fb (fun _ w us hl I=>Ag)<|AbX fun _ w hl I=>?_;try unfold CT
 refine Abj (Sz I AH 2 rfl rfl rfl rfl fun w I=>Abh<|Wr ?_);exact BH.mk (vs:=[.bool _,.agg #[_,_,_,_]]) rfl ⟨rfl,⟨_,_,_,_,_,rfl,AH,I.l5 2 rfl 0 4,rfl,rfl⟩,trivial⟩ I.j5 (by simp only[tup,tHold,Cm,hyes];rfl)
end
section
theorem Qr{α:Type}(q:α→Bool){l:List α}{k:Nat}(hk:k<l.length):(l.take (k+1)).any q=((l.take k).any q || q l[k]):=by
 rw[Afi hk,List.any_append];simp
def Rw(r:Rul)(v:Int)(j:Nat):Bool:=AL r.head v || (r.body.xs.take j).any fun x=>AL x.atom v
theorem J6(r:Rul)(v:Int):Rw r v 0=AL r.head v:=by simp[Rw]
theorem Mo(r:Rul)(v:Int):Rw r v r.body.xs.length=AR r v:=by unfold Rw AR;rw[Afo]
theorem EC{r:Rul}{v:Int}{j:Nat}(hj:j<r.body.xs.length):Rw r v (j+1)=(Rw r v j || AL r.body.xs[j].atom v):=by
 unfold Rw;rw[Qr _ hj,Bool.or_assoc]
theorem Wa(B:Aq)(hB:B.ok)(r:Rul)(hr:r.In B.h)(hlen:r.body.xs.length≤3):Fn prog 193 [r.val] B (fun v _=>v=.agg #[.bool (AR r 0),.bool (AR r 1),.bool (AR r 2)]):=by
 refine Fo hB func193 rfl ntmps193 fun e I=>Sr<|Abj (O.box (v:=.agg #[_,_,_,_,_]) I rfl rfl fun b1 w I=>Abj (O.alloc I zeroValue220 rfl fun b2 w I=>Abh<|Sr<|Abj (O.alloc I zeroValue220 rfl fun b3 w I=>Abh<|Abi<|Sr<|Ai Ag<|Abh<|WP.block ?_)));refine Abx (σ:=Nat) (fun k=>[(1,Pt b1),(2,Pt b2),(3,Pt b3),(4,.int .i64 k)]) (fun k w=>Inv B B.h [box b3 [.bool (if 0<k then AR r 0 else false),.bool (if 1<k then AR r 1 else false),.bool (if 2<k then AR r 2 else false)] 220,box b2 [.bool false,.bool false,.bool false] 220,box b1 r.enc 64] w∧k≤3) (fun k=>3-k)
  ⟨0,⟨rfl,rfl,rfl,rfl,trivial⟩,I,by omega⟩ ?_
 rintro k e w ⟨I,hk⟩;refine Abi<|Sr<|Ai Mv<|Ad (AbC rfl rfl)<|Abh ?_;refine Abl rfl (fun h=>?_) (fun h=>?_)
 ·have hk3:k=0∨k=1∨k=2:=by omega
  rcases hk3 with rfl|rfl|rfl
  ·refine Abk<|Abi<|WP.block<|Sr<|Ai Mv<|Ap (Abu Bw rfl)<|Ax (Ld I AP 2 0 2 rfl rfl rfl)<|Ai Mv<|Abj (Abm I call106 (Cu _ I.j6 r.head hr.head 0) rfl fun w I=>Ap (Ab1 Air AiH rfl rfl (by omega) (by omega))<|Abj (Sb I Br 0 rfl rfl rfl rfl fun w I=>Abh<|Sr<|Ai Ag<|Abh<|WP.block ?_));refine Abx (σ:=Nat) (fun j=>[(1,Pt b1),(2,Pt b2),(3,Pt b3),(4,.int .i64 0),(5,.int .i64 j)]) (fun j w=>Inv B B.h [box b3 [.bool (Rw r 0 j),.bool false,.bool false] 220,box b2 [.bool false,.bool false,.bool false] 220,box b1 r.enc 64] w∧j≤r.body.xs.length) (fun j=>r.body.xs.length-j)
    ⟨0,⟨rfl,rfl,rfl,rfl,rfl,trivial⟩,by simp only[J6];exact I,by omega⟩ ?_
   rintro j e w ⟨I,hj⟩;refine Abi<|Sr<|Ai Mv<|Ap (Abr AG rfl)<|As0 (Ld I Bi 2 4 1 rfl rfl rfl)<|Ai (AbA Aib rfl)<|Ad (AbC rfl rfl)<|Abh ?_;refine Abl rfl (fun h7=>?_) (fun h7=>?_)
   ·have hj':j<r.body.xs.length:=by omega
    have E:=hr.body.is.at hj';cases hs:Rw r 0 j
    ·refine Abk<|Abi<|WP.block<|Abg<|Ai Mv<|Ai Mv<|Ap (Ab1 Air AiH rfl rfl (by omega) (by omega))<|AF (Y.b (Ld I Br 0 0 1 rfl rfl rfl) (hs))<|Ab Mv<|Gp (Abr AG rfl)<|Gs (Ld I Bi 2 4 1 rfl rfl rfl)<|Gi Mv<|Gp (Ix E Aib Ail rfl rfl)<|Gp (Abr Bk rfl)<|Gx (Abn AP rfl (I.rd (E.rd.part 1 2)) rfl rfl)<|Gi Mv<|Ab8 rfl (Abm I call106 (Cu _ I.j6 r.body.xs[j].atom (hr.body.each _ (Ae5 hj')) 0) rfl fun w I=>Ab (Abp rfl rfl)<|Ap (Ab1 Air AiH rfl rfl (by omega) (by omega))<|Abj (Sb I Br 0 rfl rfl rfl rfl fun w I=>Abh<|Abg<|Ai Mv<|Ai (Dd rfl rfl)<|Ai Ag<|Abh ?_));exact⟨j+1,⟨⟨rfl,rfl,rfl,rfl,rfl,trivial⟩,by rw[EC hj',hs,Agy];exact I,by omega⟩,by omega⟩
    ·refine Abk<|Abi<|WP.block<|Abg<|Ai Mv<|Ai Mv<|Ap (Ab1 Air AiH rfl rfl (by omega) (by omega))<|AT (Y.b (Ld I Br 0 0 1 rfl rfl rfl) (hs))<|Ab Mv<|Gg<|Gg<|Gg<|Gg<|Gg<|Gg<|Gg<|Gg<|Ab (Abo rfl rfl)<|Ap (Ab1 Air AiH rfl rfl (by omega) (by omega))<|Abj (Sb I Br 0 rfl rfl rfl rfl fun w I=>Abh<|Abg<|Ai Mv<|Ai (Dd rfl rfl)<|Ai Ag<|Abh ?_);exact⟨j+1,⟨⟨rfl,rfl,rfl,rfl,rfl,trivial⟩,by rw[EC hj',hs,Ag4];exact I,by omega⟩,by omega⟩
   obtain rfl:j=r.body.xs.length:=by omega
   rw[Mo] at I;refine Abz<|Abg<|Ai Mv<|Ai (Dd rfl rfl)<|Ai Ag<|Abh ?_;exact⟨0+1,⟨⟨rfl,rfl,rfl,rfl,trivial⟩,I,by omega⟩,by omega⟩
  ·refine Abk<|Abi<|WP.block<|Sr<|Ai Mv<|Ap (Abu Bw rfl)<|Ax (Ld I AP 2 0 2 rfl rfl rfl)<|Ai Mv<|Abj (Abm I call106 (Cu _ I.j6 r.head hr.head 1) rfl fun w I=>Ap (Ab1 Air AiH rfl rfl (by omega) (by omega))<|Abj (Sb I Br 0 rfl rfl rfl rfl fun w I=>Abh<|Sr<|Ai Ag<|Abh<|WP.block ?_));refine Abx (σ:=Nat) (fun j=>[(1,Pt b1),(2,Pt b2),(3,Pt b3),(4,.int .i64 1),(5,.int .i64 j)]) (fun j w=>Inv B B.h [box b3 [.bool (AR r 0),.bool (Rw r 1 j),.bool false] 220,box b2 [.bool false,.bool false,.bool false] 220,box b1 r.enc 64] w∧j≤r.body.xs.length) (fun j=>r.body.xs.length-j)
    ⟨0,⟨rfl,rfl,rfl,rfl,rfl,trivial⟩,by simp only[J6];exact I,by omega⟩ ?_
   rintro j e w ⟨I,hj⟩;refine Abi<|Sr<|Ai Mv<|Ap (Abr AG rfl)<|As0 (Ld I Bi 2 4 1 rfl rfl rfl)<|Ai (AbA Aib rfl)<|Ad (AbC rfl rfl)<|Abh ?_;refine Abl rfl (fun h7=>?_) (fun h7=>?_)
   ·have hj':j<r.body.xs.length:=by omega
    have E:=hr.body.is.at hj';cases hs:Rw r 1 j
    ·refine Abk<|Abi<|WP.block<|Abg<|Ai Mv<|Ai Mv<|Ap (Ab1 Air AiH rfl rfl (by omega) (by omega))<|AF (Y.b (Ld I Br 0 1 1 rfl rfl rfl) (hs))<|Ab Mv<|Gp (Abr AG rfl)<|Gs (Ld I Bi 2 4 1 rfl rfl rfl)<|Gi Mv<|Gp (Ix E Aib Ail rfl rfl)<|Gp (Abr Bk rfl)<|Gx (Abn AP rfl (I.rd (E.rd.part 1 2)) rfl rfl)<|Gi Mv<|Ab8 rfl (Abm I call106 (Cu _ I.j6 r.body.xs[j].atom (hr.body.each _ (Ae5 hj')) 1) rfl fun w I=>Ab (Abp rfl rfl)<|Ap (Ab1 Air AiH rfl rfl (by omega) (by omega))<|Abj (Sb I Br 0 rfl rfl rfl rfl fun w I=>Abh<|Abg<|Ai Mv<|Ai (Dd rfl rfl)<|Ai Ag<|Abh ?_));exact⟨j+1,⟨⟨rfl,rfl,rfl,rfl,rfl,trivial⟩,by rw[EC hj',hs,Agy];exact I,by omega⟩,by omega⟩
    ·refine Abk<|Abi<|WP.block<|Abg<|Ai Mv<|Ai Mv<|Ap (Ab1 Air AiH rfl rfl (by omega) (by omega))<|AT (Y.b (Ld I Br 0 1 1 rfl rfl rfl) (hs))<|Ab Mv<|Gg<|Gg<|Gg<|Gg<|Gg<|Gg<|Gg<|Gg<|Ab (Abo rfl rfl)<|Ap (Ab1 Air AiH rfl rfl (by omega) (by omega))<|Abj (Sb I Br 0 rfl rfl rfl rfl fun w I=>Abh<|Abg<|Ai Mv<|Ai (Dd rfl rfl)<|Ai Ag<|Abh ?_);exact⟨j+1,⟨⟨rfl,rfl,rfl,rfl,rfl,trivial⟩,by rw[EC hj',hs,Ag4];exact I,by omega⟩,by omega⟩
   obtain rfl:j=r.body.xs.length:=by omega
   rw[Mo] at I;refine Abz<|Abg<|Ai Mv<|Ai (Dd rfl rfl)<|Ai Ag<|Abh ?_;exact⟨1+1,⟨⟨rfl,rfl,rfl,rfl,trivial⟩,I,by omega⟩,by omega⟩
  ·refine Abk<|Abi<|WP.block<|Sr<|Ai Mv<|Ap (Abu Bw rfl)<|Ax (Ld I AP 2 0 2 rfl rfl rfl)<|Ai Mv<|Abj (Abm I call106 (Cu _ I.j6 r.head hr.head 2) rfl fun w I=>Ap (Ab1 Air AiH rfl rfl (by omega) (by omega))<|Abj (Sb I Br 0 rfl rfl rfl rfl fun w I=>Abh<|Sr<|Ai Ag<|Abh<|WP.block ?_));refine Abx (σ:=Nat) (fun j=>[(1,Pt b1),(2,Pt b2),(3,Pt b3),(4,.int .i64 2),(5,.int .i64 j)]) (fun j w=>Inv B B.h [box b3 [.bool (AR r 0),.bool (AR r 1),.bool (Rw r 2 j)] 220,box b2 [.bool false,.bool false,.bool false] 220,box b1 r.enc 64] w∧j≤r.body.xs.length) (fun j=>r.body.xs.length-j)
    ⟨0,⟨rfl,rfl,rfl,rfl,rfl,trivial⟩,by simp only[J6];exact I,by omega⟩ ?_
   rintro j e w ⟨I,hj⟩;refine Abi<|Sr<|Ai Mv<|Ap (Abr AG rfl)<|As0 (Ld I Bi 2 4 1 rfl rfl rfl)<|Ai (AbA Aib rfl)<|Ad (AbC rfl rfl)<|Abh ?_;refine Abl rfl (fun h7=>?_) (fun h7=>?_)
   ·have hj':j<r.body.xs.length:=by omega
    have E:=hr.body.is.at hj';cases hs:Rw r 2 j
    ·refine Abk<|Abi<|WP.block<|Abg<|Ai Mv<|Ai Mv<|Ap (Ab1 Air AiH rfl rfl (by omega) (by omega))<|AF (Y.b (Ld I Br 0 2 1 rfl rfl rfl) (hs))<|Ab Mv<|Gp (Abr AG rfl)<|Gs (Ld I Bi 2 4 1 rfl rfl rfl)<|Gi Mv<|Gp (Ix E Aib Ail rfl rfl)<|Gp (Abr Bk rfl)<|Gx (Abn AP rfl (I.rd (E.rd.part 1 2)) rfl rfl)<|Gi Mv<|Ab8 rfl (Abm I call106 (Cu _ I.j6 r.body.xs[j].atom (hr.body.each _ (Ae5 hj')) 2) rfl fun w I=>Ab (Abp rfl rfl)<|Ap (Ab1 Air AiH rfl rfl (by omega) (by omega))<|Abj (Sb I Br 0 rfl rfl rfl rfl fun w I=>Abh<|Abg<|Ai Mv<|Ai (Dd rfl rfl)<|Ai Ag<|Abh ?_));exact⟨j+1,⟨⟨rfl,rfl,rfl,rfl,rfl,trivial⟩,by rw[EC hj',hs,Agy];exact I,by omega⟩,by omega⟩
    ·refine Abk<|Abi<|WP.block<|Abg<|Ai Mv<|Ai Mv<|Ap (Ab1 Air AiH rfl rfl (by omega) (by omega))<|AT (Y.b (Ld I Br 0 2 1 rfl rfl rfl) (hs))<|Ab Mv<|Gg<|Gg<|Gg<|Gg<|Gg<|Gg<|Gg<|Gg<|Ab (Abo rfl rfl)<|Ap (Ab1 Air AiH rfl rfl (by omega) (by omega))<|Abj (Sb I Br 0 rfl rfl rfl rfl fun w I=>Abh<|Abg<|Ai Mv<|Ai (Dd rfl rfl)<|Ai Ag<|Abh ?_);exact⟨j+1,⟨⟨rfl,rfl,rfl,rfl,rfl,trivial⟩,by rw[EC hj',hs,Ag4];exact I,by omega⟩,by omega⟩
   obtain rfl:j=r.body.xs.length:=by omega
   rw[Mo] at I;refine Abz<|Abg<|Ai Mv<|Ai (Dd rfl rfl)<|Ai Ag<|Abh ?_;exact⟨2+1,⟨⟨rfl,rfl,rfl,rfl,trivial⟩,I,by omega⟩,by omega⟩
 obtain rfl:k=3:=by omega
 refine Abz<|Sr<|Ay (Ld I Pq 0 0 3 rfl rfl rfl)<|Abj (Sy I Pq 1 rfl rfl rfl rfl fun w I=>Abh<|Wr ?_);exact BH.mk (vs:=[.agg #[_,_,_]]) rfl ⟨⟨_,_,_,_,_,rfl,Pq,I.l5 1 rfl 0 3,rfl,rfl⟩,trivial⟩ I.j5 (rfl)
theorem T1(a:Nat)(s q:Bool)(h:(decide ((a:Int)=0) || s)=q):(¬(a:Int)>0∧q=true)∨((a:Int)>0∧s=true∧q=true)∨((a:Int)>0∧s=false∧q=false):=by
 subst h;by_cases h0:(a:Int)>0
 ·rw[decide_eq_false (show ¬(a:Int)=0 by omega),Agy];cases s
  ·exact .inr (.inr ⟨h0,rfl,rfl⟩)
  ·exact .inr (.inl ⟨h0,rfl,rfl⟩)
 ·rw[decide_eq_true (show(a:Int)=0 by omega),Ag4];exact .inl ⟨h0,rfl⟩
def J7(f:List Fct)(n:Int)(r:Rul)(x:Vrs):List Stp:=if L0 r x && Bv f r x then [⟨n,x⟩] else []
theorem FK{α β:Type}(q:α→Bool)(g:α→β):∀l:List α,(l.filter q).map g=l.flatMap fun x=>if q x then [g x] else []
 |[]=>rfl
 |x::l=>by
  rw[Agv,AfK,←FK q g l];cases q x<;>rfl
def C5(f:List Fct)(n:Int)(r:Rul)(a b k:Nat):List Stp:=(List.range k).flatMap fun c:Nat=>J7 f n r ⟨a,b,c⟩
def B5(f:List Fct)(n:Int)(r:Rul)(a k:Nat):List Stp:=(List.range k).flatMap fun b:Nat=>C5 f n r a b 5
def A5(f:List Fct)(n:Int)(r:Rul)(k:Nat):List Stp:=(List.range k).flatMap fun a:Nat=>B5 f n r a 5
theorem QA(f:List Fct)(n:Int)(r:Rul):A6 f n r=A5 f n r 5:=by
 unfold A6 A5 B5 C5 J7;rw[FK];unfold Za;simp only[List.flatMap_assoc,List.flatMap_map]
theorem Mp(f:List Fct)(n:Int)(r:Rul)(a b k:Nat):C5 f n r a b (k+1)=C5 f n r a b k++J7 f n r ⟨a,b,k⟩:=by unfold C5;rw[AgW,Afm];simp
theorem T2(f:List Fct)(n:Int)(r:Rul)(a k:Nat):B5 f n r a (k+1)=B5 f n r a k++C5 f n r a k 5:=by unfold B5;rw[AgW,Afm];simp
theorem T3(f:List Fct)(n:Int)(r:Rul)(k:Nat):A5 f n r (k+1)=A5 f n r k++B5 f n r k 5:=by unfold A5;rw[AgW,Afm];simp
theorem Wb(f:List Fct)(n:Int)(r:Rul)(x:Vrs):(J7 f n r x).length≤1:=by unfold J7;split<;>simp
theorem Yt(f:List Fct)(n:Int)(r:Rul)(a b:Nat):∀k,(C5 f n r a b k).length≤k
 |0=>by simp[C5]
 |k+1=>by rw[Mp,Ae2];have:=Yt f n r a b k;have:=Wb f n r ⟨a,b,k⟩;omega
theorem Yu(f:List Fct)(n:Int)(r:Rul)(a:Nat):∀k,(B5 f n r a k).length≤5*k
 |0=>by simp[B5]
 |k+1=>by rw[T2,Ae2];have:=Yu f n r a k;have:=Yt f n r a k 5;omega
theorem Yv(f:List Fct)(n:Int)(r:Rul):∀k,(A5 f n r k).length≤25*k
 |0=>by simp[A5]
 |k+1=>by rw[T3,Ae2];have:=Yv f n r k;have:=Yu f n r k 5;omega
theorem Mq(B:Aq)(hB:B.ok)(p:Prg)(hp:p.In B.h)(f:Sl Fct)(hf:Cv f B.h)(n:Int)(r:Rul)(h0:0≤n)(hr:p.rules.xs[n.toNat]?=some r)(ok:ROk p.preds.xs r)(okf:FOk p.preds.xs f.xs) :
  Fn prog 147 [p.val,f.val,.int .i64 n] B (Ru (A6 f.xs n r)):=by
 have Er:=hp.rules.is.el.el hr;have ir:=hp.rules.each _ (Afk hr);refine Fo hB func147 rfl ntmps147 fun e I=>Sr<|Abj (O.box (v:=.agg #[_,_]) I rfl rfl fun b3 w I=>As0 Ag<|Abh<|Sr<|As0 Ag<|Abh<|Sr<|Ap (Abr AU rfl)<|As0 (Ld I Cc 0 1 1 rfl rfl rfl)<|Ai Mv<|Ap (AbJ Er Aic Aiv rfl rfl h0 rfl)<|AbB (v:=.agg #[_,_,_,_,_]) (Abn C0 rfl (I.rd (Er.rd.part 0 5)) rfl rfl)<|Abj (Abm I call193 (Wa _ I.j6 r ir ok.len) rfl fun w I=>Abj (O.alloc I zeroValue220 rfl fun b8 w I=>Abj (Sy I Pq 0 rfl rfl rfl rfl fun w I=>Abh<|Abi<|Sr<|Ai Ag<|Abh<|WP.block ?_))));have I:=I.l9 169 4;refine Abx (σ:=Nat×Value×Ae) (fun s=>[(1,f.val),(2,.int .i64 n),(3,Pt b3),(7,s.2.1),(8,Pt b8),(9,.int .i64 s.1)])
  (fun s w=>Inv B s.2.2 [Ao 169 4 s.2.1 (A5 f.xs n r s.1).length ((A5 f.xs n r s.1).flatMap Stp.enc),box b8 [.bool (AR r 0),.bool (AR r 1),.bool (AR r 2)] 220,box b3 p.enc 25] w∧s.1≤5∧B.h.le s.2.2) (fun s=>5-s.1)
  ⟨(0,.slice none 0 0,B.h),⟨rfl,rfl,rfl,rfl,rfl,rfl,trivial⟩,I,by omega,Ae.le.refl _⟩ ?_
 rintro⟨a,va,ha⟩ e w ⟨I,ka,la⟩;dsimp only at I ka la ⊢;refine Abi<|Sr<|Ai Mv<|Ad (AcD rfl rfl)<|Abh ?_;refine Abl rfl (fun h4=>?_) (fun h4=>?_)
 ·have ka':a<5:=by omega
  refine Abk<|Abi<|WP.block<|Sr<|Ai Ag<|Abh<|WP.block ?_;refine Abx (σ:=Nat×Value×Ae) (fun s=>[(1,f.val),(2,.int .i64 n),(3,Pt b3),(7,s.2.1),(8,Pt b8),(9,.int .i64 a),(10,.int .i64 s.1)])
   (fun s w=>Inv B s.2.2 [Ao 169 4 s.2.1 (A5 f.xs n r a++B5 f.xs n r a s.1).length ((A5 f.xs n r a++B5 f.xs n r a s.1).flatMap Stp.enc),box b8 [.bool (AR r 0),.bool (AR r 1),.bool (AR r 2)] 220,box b3 p.enc 25] w∧s.1≤5∧B.h.le s.2.2) (fun s=>5-s.1)
   ⟨(0,va,ha),⟨rfl,rfl,rfl,rfl,rfl,rfl,rfl,trivial⟩,by simpa[B5] using I,by omega,la⟩ ?_
  rintro⟨b,vb,hb⟩ e w ⟨I,kb,lb⟩;dsimp only at I kb lb ⊢;refine Abi<|Sr<|Ai Mv<|Ad (AcD rfl rfl)<|Abh ?_;refine Abl rfl (fun h7=>?_) (fun h7=>?_)
  ·have kb':b<5:=by omega
   refine Abk<|Abi<|WP.block<|Sr<|Ai Ag<|Abh<|WP.block ?_;refine Abx (σ:=Nat×Value×Ae) (fun s=>[(1,f.val),(2,.int .i64 n),(3,Pt b3),(7,s.2.1),(8,Pt b8),(9,.int .i64 a),(10,.int .i64 b),(11,.int .i64 s.1)])
    (fun s w=>Inv B s.2.2 [Ao 169 4 s.2.1 (A5 f.xs n r a++B5 f.xs n r a b++C5 f.xs n r a b s.1).length ((A5 f.xs n r a++B5 f.xs n r a b++C5 f.xs n r a b s.1).flatMap Stp.enc),box b8 [.bool (AR r 0),.bool (AR r 1),.bool (AR r 2)] 220,box b3 p.enc 25] w∧s.1≤5∧B.h.le s.2.2) (fun s=>5-s.1)
    ⟨(0,vb,hb),⟨rfl,rfl,rfl,rfl,rfl,rfl,rfl,rfl,trivial⟩,by simpa[C5] using I,by omega,lb⟩ ?_
   rintro⟨c,vc,hc⟩ e w ⟨I,kc,lc⟩;dsimp only at I kc lc ⊢;refine Abi<|Sr<|Ai Mv<|Ad (AcD rfl rfl)<|Abh ?_;refine Abl rfl (fun h10=>?_) (fun h10=>?_)
   ·have kc':c<5:=by omega
    obtain⟨q0,hq0⟩:∃q,(decide ((a:Int)=0) || AR r 0)=q:=⟨_,rfl⟩;obtain⟨q1,hq1⟩:∃q,(decide ((b:Int)=0) || AR r 1)=q:=⟨_,rfl⟩;obtain⟨q2,hq2⟩:∃q,(decide ((c:Int)=0) || AR r 2)=q:=⟨_,rfl⟩;have hst:L0 r ⟨a,b,c⟩=(q0 && q1 && q2):=by unfold L0;rw[hq0,hq1,hq2]
    have la1:=Yv f.xs n r a;have lb1:=Yu f.xs n r a b;have lc1:=Yt f.xs n r a b c;have l125:(A5 f.xs n r a++B5 f.xs n r a b++C5 f.xs n r a b c).length≤1000:=by simp only[Ae2];omega
    have lsn:(A5 f.xs n r a++B5 f.xs n r a b++C5 f.xs n r a b c++[(⟨n,⟨a,b,c⟩⟩:Stp)]).length=(A5 f.xs n r a++B5 f.xs n r a b++C5 f.xs n r a b c).length+1:=by rw[Ae2];rfl
    refine Abk<|Abi<|WP.block<|Abi<|Abi ?_;refine Acc (σ:=Unit) (fun _=>[(1,f.val),(2,.int .i64 n),(3,Pt b3),(7,vc),(8,Pt b8),(9,.int .i64 a),(10,.int .i64 b),(11,.int .i64 c),(57,.bool (!(q0 && q1 && q2)))]) (fun _ w=>Inv B hc [Ao 169 4 vc (A5 f.xs n r a++B5 f.xs n r a b++C5 f.xs n r a b c).length ((A5 f.xs n r a++B5 f.xs n r a b++C5 f.xs n r a b c).flatMap Stp.enc),box b8 [.bool (AR r 0),.bool (AR r 1),.bool (AR r 2)] 220,box b3 p.enc 25] w) ?_ ?_
    ·rcases T1 a (AR r 0) q0 hq0 with ⟨ha,rfl⟩|⟨ha,sa,rfl⟩|⟨ha,sa,rfl⟩<;>rcases T1 b (AR r 1) q1 hq1 with ⟨hb,rfl⟩|⟨hb,sb,rfl⟩|⟨hb,sb,rfl⟩<;>rcases T1 c (AR r 2) q2 hq2 with ⟨hc,rfl⟩|⟨hc,sc,rfl⟩|⟨hc,sc,rfl⟩;all_goals refine Abg ?_
     all_goals refine Ai Mv ?_
     all_goals first|refine AT (Abs (AbL rfl rfl) (by assumption)) ?_|refine AF (Abt (AbL rfl rfl) (by assumption)) ?_
     all_goals refine Ab Mv ?_
     all_goals first|refine Gg ?_|refine Gp (Ab1 Air AiH rfl rfl (by decide) (by decide)) ?_
     all_goals first|refine Gg ?_|refine GT (Y.b (Ld I Br 1 0 1 rfl rfl rfl) (by assumption)) ?_|refine GF (Y.b (Ld I Br 1 0 1 rfl rfl rfl) (by assumption)) ?_
     all_goals first|refine Gg ?_|refine GT (Y.b (Y.not rfl) rfl) ?_|refine GF (Y.b (Y.not rfl) rfl) ?_
     all_goals first|refine Ab (Abo rfl rfl) ?_|refine Ab (Abp rfl rfl) ?_
     all_goals refine Ab Mv ?_
     all_goals first|refine Gg ?_|refine Gi Mv ?_
     all_goals first|refine Gg ?_|refine GT (Abs (AbL rfl rfl) (by assumption)) ?_|refine GF (Abt (AbL rfl rfl) (by assumption)) ?_
     all_goals first|refine Gg ?_|refine Gb Mv ?_
     all_goals first|refine Gg ?_|refine Gp (Ab1 Air AiH rfl rfl (by decide) (by decide)) ?_
     all_goals first|refine Gg ?_|refine GT (Y.b (Ld I Br 1 1 1 rfl rfl rfl) (by assumption)) ?_|refine GF (Y.b (Ld I Br 1 1 1 rfl rfl rfl) (by assumption)) ?_
     all_goals first|refine Gg ?_|refine GT (Y.b (Y.not rfl) rfl) ?_|refine GF (Y.b (Y.not rfl) rfl) ?_
     all_goals first|refine Gg ?_|refine Gb (Abo rfl rfl) ?_|refine Gb (Abp rfl rfl) ?_
     all_goals first|refine Ab (Abo rfl rfl) ?_|refine Ab (Abp rfl rfl) ?_
     all_goals refine Ab Mv ?_
     all_goals first|refine Gg ?_|refine Gi Mv ?_
     all_goals first|refine Gg ?_|refine GT (Abs (AbL rfl rfl) (by assumption)) ?_|refine GF (Abt (AbL rfl rfl) (by assumption)) ?_
     all_goals first|refine Gg ?_|refine Gb Mv ?_
     all_goals first|refine Gg ?_|refine Gp (Ab1 Air AiH rfl rfl (by decide) (by decide)) ?_
     all_goals first|refine Gg ?_|refine GT (Y.b (Ld I Br 1 2 1 rfl rfl rfl) (by assumption)) ?_|refine GF (Y.b (Ld I Br 1 2 1 rfl rfl rfl) (by assumption)) ?_
     all_goals first|refine Gg ?_|refine GT (Y.b (Y.not rfl) rfl) ?_|refine GF (Y.b (Y.not rfl) rfl) ?_
     all_goals first|refine Gg ?_|refine Gb (Abo rfl rfl) ?_|refine Gb (Abp rfl rfl) ?_
     all_goals first|refine Ab (Abo rfl rfl) ?_|refine Ab (Abp rfl rfl) ?_
     all_goals refine Abh ?_
     all_goals exact⟨(),⟨rfl,rfl,rfl,rfl,rfl,rfl,rfl,rfl,rfl,trivial⟩,I⟩
    rintro _ e w I;cases hso:(q0 && q1 && q2)
    ·refine Abw rfl ?_;have hsv:J7 f.xs n r ⟨a,b,c⟩=[]:=by unfold J7;rw[hst,hso];rfl
     refine Abz<|Abg<|Ai Mv<|Ai (Dd rfl rfl)<|Ai Ag<|Abh ?_;exact⟨(c+1,vc,hc),⟨⟨rfl,rfl,rfl,rfl,rfl,rfl,rfl,rfl,trivial⟩,by dsimp only;rw[Mp,hsv,Aft];exact I,by dsimp only;omega,lc⟩,by dsimp only;omega⟩
    refine Abq rfl ?_;have hvs:KE ⟨a,b,c⟩:=⟨⟨by dsimp only;omega,by dsimp only;omega⟩,⟨by dsimp only;omega,by dsimp only;omega⟩,⟨by dsimp only;omega,by dsimp only;omega⟩⟩;refine Abk<|Sr<|Ai Mv<|Ai Mv<|Ai Mv<|AbB (v:=.agg #[.int .i64 _,.int .i64 _,.int .i64 _]) (AcW Aiq zeroValue167 Aij rfl rfl)<|Abj (O.alloc I zeroValue167 rfl fun b12 w I=>Abj (Sy I CI 0 rfl rfl rfl rfl fun w I=>Abh ?_));cases hh:Bv f.xs r ⟨a,b,c⟩
    ·have hsv:J7 f.xs n r ⟨a,b,c⟩=[]:=by unfold J7;rw[hh,Agz];rfl
     refine Sr<|Ax (Ld I As 3 0 2 rfl rfl rfl)<|As0 Mv<|Ai Mv<|Ay (Ld I CI 0 0 3 rfl rfl rfl)<|Abj (Abm I call149 ((show Cm p.preds.xs f.xs r ⟨a,b,c⟩=(false,default) from by unfold Cm;rw[hh];rfl)▸FJ _ I.j6 p (hp.le lc) f (hf.le lc) n r h0 hr ok okf ⟨a,b,c⟩ hvs) rfl fun w I=>Au Mv<|Ab (Y.extract rfl rfl)<|Az (Y.extract rfl rfl)<|Abj (O.alloc I Aii rfl fun b14 w I=>Ab Ag<|Abj (Sz I AH 0 rfl rfl rfl rfl fun w I=>Abh<|Sr<|Ab Mv<|Abh<|Abq rfl<|Abk<|Abg<|Ai Mv<|Ai (Dd rfl rfl)<|Ai Ag<|Abh ?_)));exact⟨(c+1,vc,hc),⟨⟨rfl,rfl,rfl,rfl,rfl,rfl,rfl,rfl,trivial⟩,by dsimp only;rw[Mp,hsv,Aft];exact I.drop.drop,by dsimp only;omega,lc⟩,by dsimp only;omega⟩
    ·have hsv:J7 f.xs n r ⟨a,b,c⟩=[⟨n,⟨a,b,c⟩⟩]:=by unfold J7;rw[hst,hso,hh];rfl
     obtain⟨y,hy⟩:∃y,Cm p.preds.xs f.xs r ⟨a,b,c⟩=(true,y):=⟨_,by unfold Cm;rw[hh];rfl⟩;refine Sr<|Ax (Ld I As 3 0 2 rfl rfl rfl)<|As0 Mv<|Ai Mv<|Ay (Ld I CI 0 0 3 rfl rfl rfl)<|Abj (Abm I call149 (hy▸FJ _ I.j6 p (hp.le lc) f (hf.le lc) n r h0 hr ok okf ⟨a,b,c⟩ hvs) rfl fun w I=>Au Mv<|Ab (Y.extract rfl rfl)<|Az (Y.extract rfl rfl)<|Abj (O.alloc I Aii rfl fun b14 w I=>Ab Ag<|Abj (Sz I AH 0 rfl rfl rfl rfl fun w I=>Abh<|Sr<|Ab Mv<|Abh<|Abw rfl<|Abg<|AbB (v:=vc) Mv<|Ai Mv<|Ay (Ld I CI 1 0 3 rfl rfl rfl)<|AbB (v:=.agg #[.int .i64 _,.int .i64 _,.int .i64 _,.int .i64 _]) (Y.build Xj AiE rfl rfl)<|Abj (AbY (xs:=[⟨n,⟨a,b,c⟩⟩]) (enc:=Stp.enc) I Aif Aiw AiE rfl (Nb rfl) rfl rfl (by decide) (fun _=>rfl) fun b75 h75 w I le75 sl75=>Abj (Ab0 I Aif KU 2 rfl rfl rfl (I.rd (sl75 0 _ rfl).2) rfl rfl (by decide) ((by omega)) (by omega) fun b76 c76 w I=>As0 Ag<|Abh<|Abg<|Ai Mv<|Ai (Dd rfl rfl)<|Ai Ag<|Abh ?_)))));exact⟨(c+1,.slice (some ⟨b76,0,none⟩) ((A5 f.xs n r a++B5 f.xs n r a b++C5 f.xs n r a b c).length+1) c76,h75),⟨⟨rfl,rfl,rfl,rfl,rfl,rfl,rfl,rfl,trivial⟩,by dsimp only;rw[Mp,hsv,←Afe,snocS,lsn];exact I.drop.drop,by dsimp only;omega,lc.trans le75⟩,by dsimp only;omega⟩
   ·obtain rfl:c=5:=by omega
    refine Abz<|Abg<|Ai Mv<|Ai (Dd rfl rfl)<|Ai Ag<|Abh ?_;exact⟨(b+1,vc,hc),⟨⟨rfl,rfl,rfl,rfl,rfl,rfl,rfl,trivial⟩,by dsimp only;rw[T2,←Afe];exact I,by dsimp only;omega,lc⟩,by dsimp only;omega⟩
  ·obtain rfl:b=5:=by omega
   refine Abz<|Abg<|Ai Mv<|Ai (Dd rfl rfl)<|Ai Ag<|Abh ?_;exact⟨(a+1,vb,hb),⟨⟨rfl,rfl,rfl,rfl,rfl,rfl,trivial⟩,by dsimp only;rw[T3];exact I,by dsimp only;omega,lb⟩,by dsimp only;omega⟩
 ·obtain rfl:a=5:=by omega
  rw[←QA] at I;have hsl:(A6 f.xs n r).length≤140737488355328:=by rw[QA];have:=Yv f.xs n r 5;omega
  obtain⟨h8,s8,le8,rfl,hx8,in8,I⟩:=I.p8 (fun _=>rfl) rfl;refine Abz<|Sr<|As0 Mv<|As0 Ag<|Abh<|Wr ?_;exact Rm (v:=.slice _ _ _) rfl rfl I (⟨s8,rfl,hx8,in8,by rw[hx8];exact hsl⟩)
end
section
theorem ED{p:Prg}(h:Ac p=0){f:List Fct}(okf:FOk p.preds.xs f):∀r∈p.rules.xs,ROk p.preds.xs r:=fun r hr=>
 Xq okf.len okf.preds (Bn.1 (AB h).2.2.1 r hr)
def OfC(P:Program)(g:FuncId)(cs:List Value)(h:Ae)(len:Nat)(q:Nat→Bool):Prop:=
 BE P g∧∀B:Aq,B.ok→h.le B.h→∀n:Nat,n<len→Fn P g ([.int .i64 n]++cs) B (fun v _=>v=.bool (q n))
theorem OfC.le{P:Program}{g:FuncId}{cs:List Value}{h h':Ae}{len:Nat}{q:Nat→Bool}(o:OfC P g cs h len q)(hl:h.le h'):OfC P g cs h' len q:=⟨o.1,fun B hB hle=>o.2 B hB (hl.trans hle)⟩
theorem T4(B:Aq)(hB:B.ok)(p:Prg)(s:Sl Int)(st:Int):Fn prog 78 [p.val,s.val,.int .i64 st] B (fun v h=>∃b4 b3 b5,v=.func (.func 133) #[] #[Pt b4,Pt b3,Pt b5]∧Ci h b4 [s.val]∧Ci h b3 p.enc∧Ci h b5 [.int .i64 st]):=by
 refine Fo hB func78 rfl ntmps78 fun e I=>Sr<|Abj (O.box (v:=.agg #[_,_]) I rfl rfl fun b3 w I=>Abj (O.box (v:=.slice _ _ _) I rfl rfl fun b4 w I=>Abj (O.box (v:=.int .i64 _) I rfl rfl fun b5 w I=>AbB (v:=.nilFunc) Ag<|Abh<|Sr<|Af (Acq rfl rfl)<|Af Ag<|Abh ?_)));obtain⟨h5,le5,k5,I⟩:=I.z8;obtain⟨h4,le4,k4,I⟩:=I.z8;obtain⟨h3,le3,k3,I⟩:=I.z8;refine Wr ?_;exact Rm (v:=.func _ _ _) rfl rfl I (⟨b4,b3,b5,rfl,k4.le le3,k3,k5.le (le4.trans le3)⟩)
theorem O1(p:Prg)(s:Sl Int)(st:Int)(b4 b3 b5:Nat){h:Ae}(k4:Ci h b4 [s.val])(k3:Ci h b3 p.enc)(k5:Ci h b5 [.int .i64 st])(hp:p.In h)(hs:s.Is 1 KG h)(hl:s.xs.length=p.preds.xs.length)(hin:∀r∈p.rules.xs,0≤r.head.pred∧r.head.pred<p.preds.xs.length) :
  OfC prog 133 [Pt b4,Pt b3,Pt b5] h p.rules.xs.length (ofQ p s.xs st):=by
 refine⟨call133,fun B hB hle n hn=>?_⟩;have k4:=k4.le hle;have k3:=k3.le hle;have k5:=k5.le hle;have hp:=hp.le hle;have Er:=hp.rules.is.at hn;obtain⟨i0,i1⟩:=hin _ (Ae5 hn);have El1:=(hs.le hle).el.el (DG hl i0 i1);have hq:ofQ p s.xs st n=decide (lv s.xs p.rules.xs[n].head.pred=st):=by unfold ofQ;rw[Ae3,Ae4 hn];rfl
 show Fn prog 133 [.int .i64 n,Pt b4,Pt b3,Pt b5] B _;refine Fo hB func133 rfl ntmps133 fun e I=>Sr<|Ab Ag<|Abh<|Abi<|AbD AC I (by kernel_rfl)<|Qs (fun w I=>Abn Iu rfl (I.rd (k4.rd.part 0 1)) rfl rfl)<|Qp (fun w I=>Abr AU rfl)<|Qs (fun w I=>Abn Cc rfl (I.rd (k3.rd.part 1 1)) rfl rfl)<|Qi (fun w I=>Mv)<|Qp (fun w I=>Ix Er Aic Aiv rfl rfl)<|Qp (fun w I=>Abu Bw rfl)<|Qp (fun w I=>Abu AW rfl)<|Qi (fun w I=>Abn An rfl (I.rd (Er.rd.part 0 1)) rfl rfl)<|Qp (fun w I=>AbJ El1 Aie Aij rfl rfl i0 rfl)<|Qi (fun w I=>Abn An rfl (I.rd (El1.rd.part 0 1)) rfl rfl)<|Qi (fun w I=>Abn An rfl (I.rd (k5.rd.part 0 1)) rfl rfl)<|Qd (fun w I=>AbI rfl rfl)<|Qb (fun w I=>Ag)<|AbH fun w I=>Wr ?_;exact Rm (v:=.bool _) rfl rfl I (by simp only[tup];rw[hq])
theorem T5(B:Aq)(hB:B.ok)(p:Prg)(f:Sl Fct)(g:FuncId)(cs:List Value):Fn prog 131 [p.val,f.val,.func (.func g) #[] cs.toArray] B (fun v h=>∃b3 b5 b4,v=.func (.func 173) #[] #[Pt b3,Pt b5,Pt b4]∧Ci h b3 p.enc∧Ci h b5 [.func (.func g) #[] cs.toArray]∧Ci h b4 [f.val]):=by
 refine Fo hB func131 rfl ntmps131 fun e I=>Sr<|Abj (O.box (v:=.agg #[_,_]) I rfl rfl fun b3 w I=>Abj (O.box (v:=.slice _ _ _) I rfl rfl fun b4 w I=>Abj (O.box (v:=.func _ _ _) I rfl rfl fun b5 w I=>AbB (v:=.nilFunc) Ag<|Abh<|Sr<|Af (Acq rfl rfl)<|Af Ag<|Abh ?_)));obtain⟨h5,le5,k5,I⟩:=I.z8;obtain⟨h4,le4,k4,I⟩:=I.z8;obtain⟨h3,le3,k3,I⟩:=I.z8;refine Wr ?_;exact Rm (v:=.func _ _ _) rfl rfl I (⟨b3,b5,b4,rfl,k3,k5.le (le4.trans le3),k4.le le3⟩)
def AaY(t:Stp×Fct):List Value:=[t.1.val,t.2.val]
theorem Ll(p:Prg)(f:Sl Fct)(g:FuncId)(cs:List Value)(q:Nat→Bool)(bp bo bf:Nat)(h:Ae)(kp:Ci h bp p.enc)(ko:Ci h bo [.func (.func g) #[] cs.toArray])(kf:Ci h bf [f.val])(hp:p.In h)(hf:Cv f h)
  (hpr:Ac p=0) (okf:FOk p.preds.xs f.xs) (ho:OfC prog g cs h p.rules.xs.length q) :
  Xd prog 173 [Pt bp,Pt bo,Pt bf] AaY (BM p.preds.xs f.xs p.rules.xs q) h:=by
 intro l J Jx hg W hle j0 hok hext hround;have hsm:=hp.rules.is.small;refine AbV (args:=[.func (.yield l) #[] #[],Pt bp,Pt bo,Pt bf]) func173 rfl ntmps173 (by kernel_rfl) (by simp) fun e=>?_;have I:=Ab2 (hok _ _ _ j0);have kp0:=kp.le hle;refine Sr<|Ap (Abr AU rfl)<|As0 (Abn Cc rfl (I.rd (kp0.rd.part 1 1)) rfl rfl)<|Ai (AbA Aic rfl)<|Ai Mv<|Abh<|WP.block ?_;refine Abx (σ:=Nat) (fun n=>[(0,.func (.yield l) #[] #[]),(1,Pt bp),(2,Pt bo),(3,Pt bf),(12,.int .i64 p.rules.xs.length),(13,.int .i64 n)])
  (fun n w=>n≤p.rules.xs.length∧∃h1,hg.le h1∧J h1 (Cx p.preds.xs f.xs p.rules.xs q n).length w) (fun n=>p.rules.xs.length-n)
  ⟨0,⟨rfl,rfl,rfl,rfl,rfl,rfl,trivial⟩,Afa _,hg,Ae.le.refl _,j0⟩ ?_
 rintro n e w ⟨hn,h1,gl1,j1⟩;have I:=Ab2 (hok _ _ _ j1);have l1:=hle.trans gl1;have kp:=kp.le l1;have ko:=ko.le l1;have kf:=kf.le l1;have hp:=hp.le l1;have hf:=hf.le l1;refine Sr<|Ad (AbC rfl rfl)<|Abh<|Abi ?_;refine Abl rfl (fun hc=>?_) (fun hc=>?_)
 ·have hn':n<p.rules.xs.length:=by omega
  have hr:p.rules.xs[n]?=some p.rules.xs[n]:=Ae4 hn';have hr':p.rules.xs[(n:Int).toNat]?=some p.rules.xs[n]:=by rw[Afs];exact hr
  have ok:=ED hpr okf _ (Ae5 hn');have hgd:p.rules.xs.getD n default=p.rules.xs[n]:=by rw[Ae3,hr];rfl
  refine Abk<|Abi<|WP.block<|Sr<|Ai Mv<|Ai Ag<|Abh<|Abi<|Sr<|Af (Abn Zw rfl (I.rd (ko.rd.part 0 1)) rfl rfl)<|Ai Mv<|Abj (Acd I ho.1 (fs:=[]) (cs:=cs) rfl (ho.2 _ I.j6 l1 n hn') rfl fun w I=>Ab (Y.not rfl)<|Abh ?_);refine AbG rfl (fun h3=>?_) (fun h3=>?_)
  ·have hq:q n=false:=by simpa using h3
   have hN:BB p.preds.xs f.xs p.rules.xs q n=[]:=by unfold BB;rw[hq];rfl
   refine Abz<|Abg<|Ai (Dd rfl rfl)<|Ai Mv<|Abh ?_;exact⟨n+1,⟨⟨rfl,rfl,rfl,rfl,rfl,rfl,trivial⟩,by omega,h1,gl1,by rw[B0,hN,Aft];exact hext _ _ _ _ _ j1 I.j5⟩,by omega⟩
  have hq:q n=true:=by simpa using h3
  have hN:BB p.preds.xs f.xs p.rules.xs q n=(A6 f.xs n p.rules.xs[n]).map fun s=>(s,CP p.preds.xs f.xs p.rules.xs[n] s.vars):=by unfold BB;rw[hq,if_pos rfl,hgd]
  refine Abk<|Sr<|Ax (Abn As rfl (I.rd (kp.rd.part 0 2)) rfl rfl)<|As0 (Abn CD rfl (I.rd (kf.rd.part 0 1)) rfl rfl)<|Ai Mv<|Abj (AbE I call174 (Qn _ I.j6 p hp f hf n p.rules.xs[n] (by omega) hr' ok okf) rfl ?_);rintro _ h2 w I le2 ⟨s,rfl,hs,is⟩;refine Ai (AbA Aif rfl)<|Ai Mv<|Abh ?_;have kp:=kp.le le2;have ko:=ko.le le2;have kf:=kf.le le2;have hp:=hp.le le2;have hf:=hf.le le2;have hss:=is.small;refine WP.block ?_;refine Abx (σ:=Nat) (fun k=>[(0,.func (.yield l) #[] #[]),(1,Pt bp),(2,Pt bo),(3,Pt bf),(12,.int .i64 p.rules.xs.length),(13,.int .i64 n),(5,.int .i64 n),(23,s.val),(24,.int .i64 s.xs.length),(25,.int .i64 k)])
   (fun k w=>k≤s.xs.length∧∃h3,h2.le h3∧J h3 ((Cx p.preds.xs f.xs p.rules.xs q n).length+k) w) (fun k=>s.xs.length-k)
   ⟨0,⟨rfl,rfl,rfl,rfl,rfl,rfl,rfl,rfl,rfl,rfl,trivial⟩,Afa _,h2,Ae.le.refl _,hext _ _ _ _ _ j1 I.j5⟩ ?_
  rintro k e w ⟨hk,h3,gl3,j3⟩;have I:=Ab2 (hok _ _ _ j3);have kp:=kp.le gl3;have ko:=ko.le gl3;have kf:=kf.le gl3;have hp:=hp.le gl3;have hf:=hf.le gl3;refine Sr<|Ad (AbC rfl rfl)<|Abh<|Abi ?_;refine Abl rfl (fun h5=>?_) (fun h5=>?_)
  ·have hk':k<s.xs.length:=by omega
   have E:=(is.le gl3).at hk';have hmem:s.xs[k]∈A6 f.xs n p.rules.xs[n]:=hs▸Ae5 hk';obtain⟨_,hvs,hhf⟩:=Cn hmem;obtain⟨y,hy⟩:∃y,CP p.preds.xs f.xs p.rules.xs[n] s.xs[k].vars=y:=⟨_,rfl⟩;have hyF:Cm p.preds.xs f.xs p.rules.xs[n] s.xs[k].vars=(true,y):=by unfold Cm;rw[if_pos hhf,hy]
   have hget:(BB p.preds.xs f.xs p.rules.xs q n)[k]?=some (s.xs[k],y):=by rw[hN,AfI,←hs,Ae4 hk',←hy];rfl
   refine Abk<|Abi<|WP.block<|Sr<|Ap (Ix E Aif Aiw rfl rfl)<|Az (Abn Cy rfl (I.rd (E.rd.part 0 4)) rfl rfl)<|Abj (O.alloc I AiE rfl fun b7 w I=>Abj (Sz I Cy 0 rfl rfl rfl rfl fun w I=>Abh<|Sr<|Ax (Abn As rfl (I.rd (kp.rd.part 0 2)) rfl rfl)<|As0 (Abn CD rfl (I.rd (kf.rd.part 0 1)) rfl rfl)<|Ai Mv<|Ap (Abr BV rfl)<|Ay (Ld I CI 0 1 3 rfl rfl rfl)<|Abj (Abm I call175 (Qg _ I.j6 p hp f hf n p.rules.xs[n] (by omega) hr' ok okf s.xs[k].vars hvs (true,y) hyF) rfl fun w I=>Au Mv<|Ab (Y.extract rfl rfl)<|Az (Y.extract rfl rfl)<|Abj (O.alloc I Aii rfl fun b9 w I=>Ab Ag<|Abj (Sz I AH 0 rfl rfl rfl rfl fun w I=>Abh<|Abi<|AdA (by kernel_rfl)<|AcK (v:=.func _ _ _) Mv<|AcK (v:=.agg #[_,_,_,_]) (Ld I Cy 1 0 4 rfl rfl rfl)<|AcK (v:=.agg #[_,_,_,_]) (Ld I AH 0 0 4 rfl rfl rfl)<|AdB rfl rfl (hround h3 _ _ _ (gl1.trans (le2.trans gl3)) (TK hn' hget) (hext _ _ _ _ _ j3 I.j5)) ?_)))));rintro ed w (⟨rfl,h4,gl4,j4⟩|⟨rfl,jx⟩)
   ·refine⟨_,rfl,?_⟩;refine AcK (v:=.bool _) (Y.not rfl)<|Adh<|Abq rfl<|Abk<|Abg<|Ai (Dd rfl rfl)<|Ai Mv<|Abh ?_;exact⟨k+1,⟨⟨rfl,rfl,rfl,rfl,rfl,rfl,rfl,rfl,rfl,rfl,trivial⟩,by omega,h4,gl3.trans gl4,j4⟩,by omega⟩
   ·refine⟨_,rfl,?_⟩;refine AcK (v:=.bool _) (Y.not rfl)<|Adh<|Abw rfl<|Wr ?_;exact⟨.inl rfl,[],trivial,⟨_,rfl⟩,.inr jx⟩
  obtain rfl:k=s.xs.length:=by omega
  refine Abz<|Abg<|Ai (Dd rfl rfl)<|Ai Mv<|Abh ?_;exact⟨n+1,⟨⟨rfl,rfl,rfl,rfl,rfl,rfl,trivial⟩,by omega,h3,gl1.trans (le2.trans gl3),by rw[B0,hN,Ae2,Afw,←hs];exact j3⟩,by omega⟩
 obtain rfl:n=p.rules.xs.length:=by omega
 exact Abz<|⟨.inr rfl,[],trivial,⟨_,rfl⟩,.inl ⟨h1,gl1,j1⟩⟩
end
section
theorem Wc(B:Aq)(hB:B.ok)(p:Prg)(hp:p.In B.h)(hpr:Ac p=0)(f:Sl Fct)(hf:Cv f B.h)(okf:FOk p.preds.xs f.xs)(g:FuncId)(cs:List Value)(q:Nat→Bool)(ho:OfC prog g cs B.h p.rules.xs.length q) :
  Fn prog 77 [p.val,f.val,.func (.func g) #[] cs.toArray] B (U3 B.h (CV p.preds.xs f.xs (BM p.preds.xs f.xs p.rules.xs q))):=by
 have h125:=okf.aa6;refine Aed func77 rfl ntmps77 (by kernel_rfl) (by simp) fun e=>?_;have I:=Ab2 hB;refine AbW<|AbN<|Abj (O.box (v:=.agg #[_,_]) I rfl rfl fun b3 w I=>As0 Ag<|Ab Ag<|Abh<|AbW<|AbN<|Abj (AdD (α:=Fct) Fct.enc I Ah8 Aih fun s13 h13 w I le13 e13 c13 a13 o13=>As0 Mv<|Abj (AcP (α:=Fct) I Ah8 D6 (fun _=>rfl) o13 le13 e13 c13 a13 (hf.el.le le13) rfl rfl (by omega) (by omega) fun rr h2 w I le2 hrx o2 r0=>Abj (O.alloc I zeroValue31 rfl fun b8 w I=>Abj (O.alloc I zeroValue4 rfl fun b9 w I=>Abj (Ab3 (v:=rr.val) I CD 1 rfl rfl rfl rfl rfl rfl (Nb rfl) rfl fun w I=>Abj (Sb I Br 0 rfl rfl rfl rfl fun w I=>Abh ?_)))))));have gl2:=le13.trans le2;have irr:Cv rr h2:=⟨o2.in (fun _=>rfl),by rw[hrx];omega⟩;refine AbW<|AbW<|AbN<|Ax (Ld I As 2 0 2 rfl rfl rfl)<|As0 Mv<|Af Mv<|Abj (AbE I call131 (T5 _ I.j6 p f g cs) rfl ?_);rintro _ h3 w I le3 ⟨bp,bo,bf,rfl,kp,ko,kf⟩;refine Abh ?_;have gl3:=gl2.trans le3;refine WPD.block ?_;refine Ac6 (ms:=[]) (σ:=Sl Fct×Bool) (fun s=>[box b9 [.bool s.2] 4,box b8 [s.1.val] 31,box b3 p.enc 25]) (fun k s h=>(s.1.xs,s.2)=CV p.preds.xs f.xs ((BM p.preds.xs f.xs p.rules.xs q).take k)∧Cv s.1 h∧Di 83 4 s.1 Fct.enc B.h h) (fun _ _ _=>False) (fun _ _ _ _ hl hj=>⟨hj.1,hj.2.1.le hl,hj.2.2.le hl⟩) (rr,false) I ⟨by rw[Ahj,hrx];rfl,irr.le le3,o2.le le3⟩ rfl call173
  (Ll p f g cs q bp bo bf h3 kp ko kf (hp.le gl3) (hf.le gl3) hpr okf (ho.le gl3)) (fun _=>rfl) (by kernel_rfl) (by kernel_rfl) (by kernel_rfl) ?_ ?_ ?_
 ·rintro l r ms' hg k t ⟨u,ch⟩ W hx gl I ⟨hj,iu,ou⟩;dsimp only at hj iu ou;have hk:=(Ae9.1 hx).1;have hxk:=(Ae9.1 hx).2;have hfine:=Bj (q:=q) (ED hpr okf) okf t (Afk hx);have oku:FOk p.preds.xs u.xs:=by
   have:=CW okf (ts:=(BM p.preds.xs f.xs p.rules.xs q).take k) fun x hx=>Bj (ED hpr okf) okf x (AfX hx);rw[←hj] at this;exact this
  have hnx:Kx p.preds.xs (u.xs,ch) t.2=CV p.preds.xs f.xs ((BM p.preds.xs f.xs p.rules.xs q).take (k+1)):=by rw[Lj hk,←hj,hxk]
  refine AbU (by kernel_rfl)<|Abj (O.alloc I Aii rfl fun b11 w I=>Abj (Sz I AH 0 rfl rfl rfl rfl fun w I=>Abh ?_));refine⟨hg,[box b11 t.2.enc 83],Ae.le.refl _,I,fun r' W2 I=>?_⟩;refine WPI.block<|Acn<|AbU (by kernel_rfl)<|Ab Ag<|Abh<|Acn<|AbU (by kernel_rfl)<|Ap (Abu At rfl)<|As0 (Ld I A7 3 0 1 rfl rfl rfl)<|As0 (Ld I CD 2 0 1 rfl rfl rfl)<|Az (Ld I AH 0 0 4 rfl rfl rfl)<|Abj (AbE I call132 (TH _ I.j6 p.preds (hp.preds.le (gl3.trans gl)) u iu oku t.2 hfine) rfl ?_);rintro _ h5 w I le5 ⟨u2,rfl,hu2,iu2,ou2⟩;refine Au Mv<|As0 (Y.extract rfl rfl)<|Ab (Y.extract rfl rfl)<|Abj (Ss0 I CD 2 rfl rfl rfl rfl fun w I=>Ab Ag<|Abh ?_);cases ch
  ·exact AbU (by kernel_rfl)<|AF (Y.b (Ld I Br 1 0 1 rfl rfl rfl) (rfl))<|Ab Mv<|Gb Mv<|Ab (Abp rfl rfl)<|Abj (Sb I Br 1 rfl rfl rfl rfl fun w I=>Abh<|⟨h5,(u2,_),[box b11 t.2.enc 83],le5,I,by rw[←hnx,hu2];rfl,iu2,ou2.older (gl3.trans gl)⟩)
  ·exact AbU (by kernel_rfl)<|AT (Y.b (Ld I Br 1 0 1 rfl rfl rfl) (rfl))<|Ab Mv<|Gg<|Ab (Abo rfl rfl)<|Abj (Sb I Br 1 rfl rfl rfl rfl fun w I=>Abh<|⟨h5,(u2,_),[box b11 t.2.enc 83],le5,I,by rw[←hnx,hu2];rfl,iu2,ou2.older (gl3.trans gl)⟩)
 ·rintro D h4 ⟨u,ch⟩ W gl I ⟨hj,iu,ou⟩;dsimp only at hj iu ou;rw[Afo] at hj;refine AbW<|Adw AC I (by kernel_rfl)<|Qs (fun w I=>Ld I CD 1 0 1 rfl rfl rfl)<|Qb (fun w I=>Ld I Br 0 0 1 rfl rfl rfl)<|Qs (fun w I=>Ag)<|Qb (fun w I=>Ag)<|AbH fun w I=>Adl ?_;repeat (first|refine BO ?_|refine Bq ?_)
  show Q6 _ _ _ _ _ _ _ _;exact⟨.inl rfl,[D],_,h4,[u.val,.bool ch],rfl,I,fun w2 I2=>⟨rfl,rfl,trivial⟩,⟨u,by rw[←hj];rfl,by rw[←hj],iu,ou⟩⟩
 ·rintro D c h4 s W gl I hx;exact hx.elim
theorem KK{cs:List (Int×Ltl)}{n:Nat}{L M:List Int}(h1:DF cs n L)(h2:DF cs n M):L=M:=
 ZD (h1.sol.len.trans h2.sol.len.symm) fun i=>Int.le_antisymm (h1.least M h2.sol i) (h2.least L h1.sol i)
open Classical in
noncomputable def Ak(p:Prg):List Int:=if h:∃M,DF (AX p.rules.xs) p.preds.xs.length M then Classical.choose h else []
theorem Bl{p:Prg}{M:List Int}(h:DF (AX p.rules.xs) p.preds.xs.length M):Ak p=M:=by
 have he:∃M,DF (AX p.rules.xs) p.preds.xs.length M:=⟨M,h⟩;unfold Ak;rw[dif_pos he];exact KK (Classical.choose_spec he) h
theorem U2.mono{r:List Fct×Bool}:Bt (U2 r):=fun _ _ _ hl ⟨s,a,b,c⟩=>⟨s,a,b,c.le hl⟩
def Zf(p:Prg)(M:List Int)(st:Int):Sp:=fun v h=>∃cs,v=.func (.func 133) #[] (List.toArray cs)∧OfC prog 133 cs h p.rules.xs.length (ofQ p M st)
theorem Zf.mono{p:Prg}{M:List Int}{st:Int}:Bt (Zf p M st):=fun _ _ _ hl ⟨cs,a,b⟩=>⟨cs,a,b.le hl⟩
theorem fnil{h:Ae}:Cv ⟨none,0,[]⟩ h:=⟨fun i x hx=>by simp at hx,by simp⟩
end
section
theorem T6(B:Aq)(hB:B.ok)(p:Prg)(hp:p.In B.h)(hpr:Ac p=0)(f:Sl Fct)(hf:Cv f B.h)(okf:FOk p.preds.xs f.xs)(st:Int):Fn prog 192 [p.val,f.val,.int .i64 st] B (U2 (CV p.preds.xs f.xs (BM p.preds.xs f.xs p.rules.xs (ofQ p (Ak p) st)))):=by
 have h125:=okf.aa6;obtain⟨k1,k2,k3,_,_⟩:=AB hpr;have hin:=F7 k3;have hsr:=hp.rules.is.small;refine Fo hB func192 rfl ntmps192 fun e I=>Sr<|Abj (O.box (v:=.agg #[_,_]) I rfl rfl fun b3 w I=>As0 Ag<|Ab Ag<|Abh<|Sr<|Ax (Ld I As 0 0 2 rfl rfl rfl)<|Abj (AbE I call97 (C6 _ I.j6 p hp hpr) rfl ?_));rintro _ h1 w I le1 ⟨s,hS,hI,rfl⟩;refine As0 Ag<|Abh ?_;have eM:=Bl hS;have hsl:s.xs.length=p.preds.xs.length:=hS.sol.len;obtain⟨q,hqd⟩:∃q,ofQ p (Ak p) st=q:=⟨_,rfl⟩;rw[hqd];refine Sr<|Abj (AdD (α:=Fct) Fct.enc I Ah8 Aih fun s19 h19 w I le19 e19 c19 a19 o19=>As0 Mv<|Abj (AcP (α:=Fct) I Ah8 D6 (fun _=>rfl) o19 le19 e19 c19 a19 (hf.el.le (le1.trans le19)) rfl rfl (by omega) (by omega) fun rr h2 w I le2 hrx o2 r0=>AbB (v:=rr.val) Ag<|Abh ?_));have gl2:=(le1.trans le19).trans le2;have irr:Cv rr h2:=⟨o2.in (fun _=>rfl),by rw[hrx];omega⟩;refine Sr<|Ab Ag<|Abh<|Abi<|Sr<|Ai Ag<|Abh<|WP.block ?_;refine Abx (σ:=Nat×Sl Fct×Bool×Ae) (fun s'=>[(1,f.val),(2,.int .i64 st),(3,Pt b3),(8,s.val),(9,s'.2.1.val),(10,.bool s'.2.2.1),(11,.int .i64 s'.1)])
  (fun s' w=>Inv B s'.2.2.2 [box b3 p.enc 25] w∧s'.1≤p.rules.xs.length∧h2.le s'.2.2.2∧(s'.2.1.xs,s'.2.2.1)=CV p.preds.xs f.xs (Cx p.preds.xs f.xs p.rules.xs q s'.1)∧Cv s'.2.1 s'.2.2.2) (fun s'=>p.rules.xs.length-s'.1)
  ⟨(0,rr,false,h2),⟨rfl,rfl,rfl,rfl,rfl,rfl,rfl,trivial⟩,I,Afa _,Ae.le.refl _,by dsimp only;rw[hrx];rfl,irr⟩ ?_
 rintro⟨n,u,ch,hh⟩ e w ⟨I,hn,gl,hj,iu⟩;dsimp only at I hn gl hj iu ⊢;have hp:=hp.le (gl2.trans gl);have hf:=hf.le (gl2.trans gl);have hI:=hI.le ((le19.trans le2).trans gl);refine Abi<|Sr<|Ai Mv<|Ap (Abr AU rfl)<|As0 (Ld I Cc 0 1 1 rfl rfl rfl)<|Ai (AbA Aic rfl)<|Ad (AbC rfl rfl)<|Abh ?_;refine Abl rfl (fun h5=>?_) (fun h5=>?_)
 ·have hn':n<p.rules.xs.length:=by omega
  have hr:p.rules.xs[n]?=some p.rules.xs[n]:=Ae4 hn';have hr':p.rules.xs[(n:Int).toNat]?=some p.rules.xs[n]:=by rw[Afs];exact hr
  have ok:=ED hpr okf _ (Ae5 hn');have hgd:p.rules.xs.getD n default=p.rules.xs[n]:=by rw[Ae3,hr];rfl
  have Er:=hp.rules.is.at hn';obtain⟨i0,i1⟩:=hin _ (Ae5 hn');have El1:=hI.el.el (DG hsl i0 i1);have hqn:q n=decide (lv s.xs p.rules.xs[n].head.pred=st):=by rw[←hqd,eM];unfold ofQ;rw[hgd]
  refine Abk<|Abi<|WP.block<|Abi<|Sr<|As0 Mv<|Ap (Abr AU rfl)<|As0 (Ld I Cc 0 1 1 rfl rfl rfl)<|Ai Mv<|Ap (Ix Er Aic Aiv rfl rfl)<|Ap (Abu Bw rfl)<|Ap (Abu AW rfl)<|Ai (Abn An rfl (I.rd (Er.rd.part 0 1)) rfl rfl)<|Ap (AbJ El1 Aie Aij rfl rfl i0 rfl)<|Ai (Abn An rfl (I.rd (El1.rd.part 0 1)) rfl rfl)<|Ai Mv<|Ad (AbK rfl rfl)<|Abh ?_;refine Abl rfl (fun h7=>?_) (fun h7=>?_)
  ·have hN:BB p.preds.xs f.xs p.rules.xs q n=[]:=by unfold BB;rw[hqn,decide_eq_false h7];rfl
   refine Abz<|Abg<|Ai Mv<|Ai (Dd rfl rfl)<|Ai Ag<|Abh ?_;exact⟨(n+1,u,ch,hh),⟨⟨rfl,rfl,rfl,rfl,rfl,rfl,rfl,trivial⟩,I,by dsimp only;omega,gl,by dsimp only;rw[B0,hN,Aft];exact hj,iu⟩,by dsimp only;omega⟩
  have hN:BB p.preds.xs f.xs p.rules.xs q n=(A6 f.xs n p.rules.xs[n]).map fun s=>(s,CP p.preds.xs f.xs p.rules.xs[n] s.vars):=by unfold BB;rw[hqn,decide_eq_true (Afh.1 h7),if_pos rfl,hgd]
  refine Abk<|Sr<|Ax (Ld I As 0 0 2 rfl rfl rfl)<|As0 Mv<|Ai Mv<|Abj (AbE I call147 (Mq _ I.j6 p hp f hf n p.rules.xs[n] (by omega) hr' ok okf) rfl ?_);rintro _ h8 w I le8 ⟨sl,rfl,hsl,isl⟩;refine As0 Ag<|Abh ?_;have hp:=hp.le le8;have hf:=hf.le le8;have hI:=hI.le le8;have hss:=isl.small;have hNl:(BB p.preds.xs f.xs p.rules.xs q n).length=sl.xs.length:=by rw[hN,Afw,hsl]
  refine Sr<|Ai Ag<|Abh<|WP.block ?_;refine Abx (σ:=Nat×Sl Fct×Bool×Ae) (fun s'=>[(1,f.val),(2,.int .i64 st),(3,Pt b3),(8,s.val),(9,s'.2.1.val),(10,.bool s'.2.2.1),(11,.int .i64 n),(12,sl.val),(13,.int .i64 s'.1)])
   (fun s' w=>Inv B s'.2.2.2 [box b3 p.enc 25] w∧s'.1≤sl.xs.length∧h8.le s'.2.2.2∧(s'.2.1.xs,s'.2.2.1)=CV p.preds.xs f.xs (Cx p.preds.xs f.xs p.rules.xs q n++(BB p.preds.xs f.xs p.rules.xs q n).take s'.1)∧Cv s'.2.1 s'.2.2.2) (fun s'=>sl.xs.length-s'.1)
   ⟨(0,u,ch,h8),⟨rfl,rfl,rfl,rfl,rfl,rfl,rfl,rfl,rfl,trivial⟩,I,Afa _,Ae.le.refl _,by dsimp only;rw[Ahj,Aft];exact hj,iu.le le8⟩ ?_
  rintro⟨k,u,ch,h9⟩ e w ⟨I,hk,gl9,hj,iu⟩;dsimp only at I hk gl9 hj iu ⊢;have hp:=hp.le gl9;have hf:=hf.le gl9;refine Abi<|Sr<|Ai Mv<|As0 Mv<|Ai (AbA Aif rfl)<|Ad (AbC rfl rfl)<|Abh ?_;refine Abl rfl (fun h10=>?_) (fun h10=>?_)
  ·have hk':k<sl.xs.length:=by omega
   have E:=(isl.le gl9).at hk';have hmem:sl.xs[k]∈A6 f.xs n p.rules.xs[n]:=hsl▸Ae5 hk';obtain⟨_,hvs,hhf⟩:=Cn hmem;obtain⟨y,hy⟩:∃y,CP p.preds.xs f.xs p.rules.xs[n] sl.xs[k].vars=y:=⟨_,rfl⟩;have hyF:Cm p.preds.xs f.xs p.rules.xs[n] sl.xs[k].vars=(true,y):=by unfold Cm;rw[if_pos hhf,hy]
   have hfine:factFine p.preds.xs y=true:=hy▸Et ok okf hvs hhf;have oku:FOk p.preds.xs u.xs:=by
    have:=CW okf (ts:=Cx p.preds.xs f.xs p.rules.xs q n++(BB p.preds.xs f.xs p.rules.xs q n).take k) fun t ht=>Bj (q:=q) (ED hpr okf) okf t (by
     rcases Afu.1 ht with ht|ht
     ·unfold Cx at ht;obtain⟨m,hm,ht⟩:=Af1.1 ht;exact Af1.2 ⟨m,Af0.2 (by have:=Af0.1 hm;omega),ht⟩
     ·exact Af1.2 ⟨n,Af0.2 hn',AfX ht⟩)
    rw[←hj] at this;exact this
   have hget:(BB p.preds.xs f.xs p.rules.xs q n)[k]'(by omega)=(sl.xs[k],y):=by
    have h1:(BB p.preds.xs f.xs p.rules.xs q n)[k]?=some (sl.xs[k],y):=by rw[hN,AfI,←hsl,Ae4 hk',←hy];rfl
    exact(Ae9.1 h1).2
   have hnx:Kx p.preds.xs (u.xs,ch) y=CV p.preds.xs f.xs (Cx p.preds.xs f.xs p.rules.xs q n++(BB p.preds.xs f.xs p.rules.xs q n).take (k+1)):=by
    rw[Afi (by omega),hget,←Afe,F8,←hj]
   refine Abk<|Abi<|WP.block<|Abi<|Ab9 AC RBx.pre ⟨h9,none,none⟩ (J:=JBx B [box b3 p.enc 25] 83 [.int .i64 0,.int .i64 0,.int .i64 0,.int .i64 0] y.enc 12 99 14) ⟨rfl,rfl,fun h=>(by cases h),I.drew⟩ 15 (by kernel_rfl)<|Aby (v:=.agg #[_,_]) (fun _=>Aa _) RBx.pre (JBx.set (by decide)) (fun _ s w us hl hj=>have I:=hj.base;have hl:=hl.h;Ld I As 0 0 2 rfl rfl rfl)<|Aby (v:=.slice _ _ _) (fun _=>Aa _) RBx.pre (JBx.set (by decide)) (fun _ s w us hl hj=>have I:=hj.base;have hl:=hl.h;Mv)<|Aby (v:=.int .i64 _) (fun _=>Aa _) RBx.pre (JBx.set (by decide)) (fun _ s w us hl hj=>have I:=hj.base;have hl:=hl.h;Mv)<|Aby (v:=.slice _ _ _) (fun _=>Aa _) RBx.pre (JBx.set (by decide)) (fun _ s w us hl hj=>have I:=hj.base;have hl:=hl.h;Mv)<|Aby (v:=.int .i64 _) (fun _=>Aa _) RBx.pre (JBx.set (by decide)) (fun _ s w us hl hj=>have I:=hj.base;have hl:=hl.h;Mv)<|Aby (v:=.pointer (some ⟨_,_,none⟩)) (fun _=>Aa _) RBx.pre (JBx.set (by decide)) (fun _ s w us hl hj=>have I:=hj.base;have hl:=hl.h;Ix E Aif Aiw rfl rfl)<|Aby (v:=.pointer (some ⟨_,_,none⟩)) (fun _=>Aa _) RBx.pre (JBx.set (by decide)) (fun _ s w us hl hj=>have I:=hj.base;have hl:=hl.h;Abr BV rfl)<|Aby (v:=.agg #[_,_,_]) (fun _=>Aa _) RBx.pre (JBx.set (by decide)) (fun _ s w us hl hj=>have I:=hj.base;have hl:=hl.h;Abn CI rfl (I.rd ((E.rd.part 1 3).le hl)) rfl rfl)<|Adn (by decide) (fun _ s w us hl hj=>have I:=hj.inv;have hl:=hl.h;Abm I call149 (hyF▸FJ _ I.j6 p (hp.le hl) f (hf.le hl) n p.rules.xs[n] (by omega) hr' ok okf sl.xs[k].vars hvs) rfl (fun w' I'=>⟨rfl,⟨hj.h7,hj.h8,hj.ord,I'⟩⟩))<|Aby (v:=.tuple #[_,_]) (fun _=>Aa _) RBx.pre (JBx.set (by decide)) (fun _ s w us hl hj=>have I:=hj.base;have hl:=hl.h;Mv)<|Aby (v:=.bool _) (fun _=>Aa _) RBx.pre (JBx.set (by decide)) (fun _ s w us hl hj=>have I:=hj.base;have hl:=hl.h;Y.extract rfl rfl)<|Aby (v:=.agg #[_,_,_,_]) (fun _=>Aa _) RBx.pre (JBx.set (by decide)) (fun _ s w us hl hj=>have I:=hj.base;have hl:=hl.h;Y.extract rfl rfl)<|AcR Aii rfl (by decide) (by decide)<|Aby (v:=.bool _) (fun _=>Aa _) RBx.pre (JBx.set (by decide)) (fun _ s w us hl hj=>have I:=hj.base;have hl:=hl.h;Ag)<|AcI AH rfl rfl (fun s=>by intro u15 q15;exact⟨q15 rfl,rfl⟩) rfl rfl (by decide) (by decide)<|Acl fun D s' w hD hl hj' u15 q15=>Abh ?_;obtain⟨b15,rfl,h15⟩:=q15 rfl;have I:=hj'.inv;rw[h15,hD 14 (by omega)] at I;have hl:=hl.h;generalize s'.o8=o8 at I;generalize s'.h=h12 at I hl;have I:Inv B h12 [box b15 y.enc 83,box b3 p.enc 25] w:=by
    cases o8 with
    |none=>exact I
    |some b8=>exact I.weak (List.Sublist.cons_cons _ (Af3 _ _))
   have hp:=hp.le hl;refine Sr<|Ab Ag<|Abh<|Sr<|Ap (Abu At rfl)<|As0 (Ld I A7 1 0 1 rfl rfl rfl)<|AbB (v:=u.val) Mv<|Az (Ld I AH 0 0 4 rfl rfl rfl)<|Abj (AbE I call150 (OW _ I.j6 p.preds hp.preds u (iu.le hl) oku y hfine) rfl ?_);rintro _ h5 w I le5 ⟨u2,rfl,hu2,iu2⟩;refine Au Mv<|As0 (Y.extract rfl rfl)<|Ab (Y.extract rfl rfl)<|As0 Ag<|Ab Ag<|Abh ?_;cases ch
   ·refine Abg<|Ab Mv<|AF (Y.b Mv (rfl))<|Gb Mv<|Ab (Abp rfl rfl)<|Ab Ag<|Abh<|Abg<|Ai Mv<|Ai (Dd rfl rfl)<|Ai Ag<|Abh ?_;exact⟨(k+1,u2,_,h5),⟨⟨rfl,rfl,rfl,rfl,rfl,rfl,rfl,rfl,rfl,trivial⟩,I.drop,by dsimp only;omega,(gl9.trans hl).trans le5,by dsimp only;rw[←hnx,hu2];rfl,iu2⟩,by dsimp only;omega⟩
   ·refine Abg<|Ab Mv<|AT (Y.b Mv (rfl))<|Gg<|Ab (Abo rfl rfl)<|Ab Ag<|Abh<|Abg<|Ai Mv<|Ai (Dd rfl rfl)<|Ai Ag<|Abh ?_;exact⟨(k+1,u2,_,h5),⟨⟨rfl,rfl,rfl,rfl,rfl,rfl,rfl,rfl,rfl,trivial⟩,I.drop,by dsimp only;omega,(gl9.trans hl).trans le5,by dsimp only;rw[←hnx,hu2];rfl,iu2⟩,by dsimp only;omega⟩
  obtain rfl:k=sl.xs.length:=by omega
  refine Abz<|Abg<|Ai Mv<|Ai (Dd rfl rfl)<|Ai Ag<|Abh ?_;exact⟨(n+1,u,ch,h9),⟨⟨rfl,rfl,rfl,rfl,rfl,rfl,rfl,trivial⟩,I,by dsimp only;omega,(gl.trans le8).trans gl9,by dsimp only;rw[B0,hj,←hNl,Afo],iu⟩,by dsimp only;omega⟩
 obtain rfl:n=p.rules.xs.length:=by omega
 refine Abz<|Sr<|As0 Mv<|Ab Mv<|As0 Ag<|Ab Ag<|Abh<|Wr ?_;exact BH.mk (vs:=[.slice _ _ _,.bool _]) rfl ⟨rfl,rfl,trivial⟩ I.j5 (⟨u,by rw[←hj];rfl,by rw[←hj],iu⟩)
end
section
theorem Wd(l:List Prd)(f:List Fct)(rs:List Rul)(q:Nat→Bool)(k:Nat)(hk:k≤rs.length):Cx l f (rs.map Rul.er) q k=Cx l f rs q k:=by
 unfold Cx;have:∀n∈List.range k,BB l f (rs.map Rul.er) q n=BB l f rs q n:=fun n hn=>by
  have hn':n<rs.length:=by have:=Af0.1 hn;omega
  have hg:(rs.map Rul.er).getD n default=(rs.getD n default).er:=by
   rw[Ae3,Ae3,AfI,Ae4 hn'];rfl
  unfold BB;rw[hg,NT];simp only[Qo]
 rw[Aht,Aht,AgM this]
theorem Mr(l:List Prd)(f:List Fct)(rs:List Rul)(q:Nat→Bool):BM l f (rs.map Rul.er) q=BM l f rs q:=by
 unfold BM;rw[Afw];exact Wd l f rs q _ (Afg _)
theorem GS{l:List Prd}{f:List Fct}{rs:List Rul}{q q':Nat→Bool}{k:Nat}(hq:∀n,n<k→q n=q' n):Cx l f rs q k=Cx l f rs q' k:=by
 unfold Cx;have:∀n∈List.range k,BB l f rs q n=BB l f rs q' n:=fun n hn=>by unfold BB;rw[hq n (Af0.1 hn)]
 rw[Aht,Aht,AgM this]
section
variable {p:Prg}{h:Ae}(hp:Cl p h)
include hp
theorem HB:p.rules.xs.map Rul.er=AM.rules.xs:=by have:=congrArg (fun q:Prg=>q.rules.xs) hp.er;exact this
theorem HC:Ak p=[0,0,1]:=by
 refine Bl (PR ?_);rw[←IZ,HB hp,D4 hp];exact GN
end
end
section
open Go Go.RowKit Go.Proofs Go.Proofs.Tryz Go.Deep
def Aam(W:World):Ae:=fun b=>W.heap[b]?
theorem J8{W:World}{b o:Nat}{v:Value}(h:W.cell? ⟨b,o,none⟩=some v):(Aam W).cell b o=some v:=by
 unfold World.cell? at h;unfold Ae.cell Aam;split at h
 ·rename_i c t f hb;rw[hb];simpa using h
 ·cases h
section
variable {P:Program}{T:TypeId}
theorem Lm{H:Type}{ts:List TypeId}{ds:List (DataW H)}(hz:(DataW.weightsEach P ts ds).all (·≤reachBytes)=true)(j:Nat){t:TypeId}{d:DataW H}(ht:ts[j]?=some t)(hd:ds[j]?=some d):∀n∈d.weights P t,n≤reachBytes:=fun n hn=>by
 have:=Aff.1 hz n (DataW.weights_mem_each ht hd n hn);simpa using this
end
theorem ZT{s:ByteArray}(h:s.data.toList.length≤reachBytes):s.size≤140737488355328:=by
 have h2:reachBytes≤140737488355328:=by decide
 have h3:s.data.toList.length=s.size:=by simp
 omega
end
section
end
section
theorem QB{rs:List Rul}{r:Rul}{x:Ltl}(hr:r∈rs)(hx:x∈r.body.xs):(r.head.pred,x)∈AX rs:=by
 unfold AX;exact Af1.2 ⟨r,hr,AfE.2 ⟨x,hx,rfl⟩⟩
def D5(M:List Int)(P:Int→Prop)(f g:List Fct):Prop:=∀y:Fct,PF y→P (lv M y.pred)→lkF f (Ah y)=lkF g (Ah y)
theorem ZU{M:List Int}{P:Int→Prop}{f g:List Fct}(h:D5 M P f g){y:Fct}(hy:PF y)(hp:P (lv M y.pred)):isF f y=isF g y:=by unfold isF;rw[h y hy hp]
theorem ZV(x:Ltl):0≤ng x:=by unfold ng;split<;>omega
theorem T7{M:List Int}{P:Int→Prop}{f g:List Fct}(h:D5 M P f g):D5 M P g f:=fun y a b=>(h y a b).symm
theorem T8{p:Prg}{M:List Int}(hM:Sol (AX p.rules.xs) p.preds.xs.length M){r:Rul}(hr:r∈p.rules.xs){x:Ltl}(hx:x∈r.body.xs):lv M x.atom.pred+ng x≤lv M r.head.pred:=hM.sat _ (QB hr hx)
theorem O2{l:List Prd}{M:List Int}{st:Int}{y:Fct}(hy:PF y)(hl:lv M y.pred≠st):∀(ts:List (Stp×Fct)) (s:List Fct×Bool),FOk l s.1→(∀t∈ts,factFine l t.2=true)→(∀t∈ts,lv M t.2.pred=st)→lkF (TN l s ts).1 (Ah y)=lkF s.1 (Ah y)
 |[],s,_,_,_=>rfl
 |t::ts,s,hs,hf,ht=>by
  have hx:=hf t Ae7;have:=O2 hy hl ts (Kx l s t.2) (DW hs hx) (fun u hu=>hf u (Ae8 _ hu)) fun u hu=>ht u (Ae8 _ hu);refine this.trans ?_;show lkF (SH l s.1 t.2) (Ah y)=_;rw[FY hs,if_neg];intro e;have:=(hy.inj (By hs.len hx) e).1;exact hl (by rw[this];exact ht t Ae7)
theorem T9{l:List Prd}{y:Fct}:∀(ts:List (Stp×Fct)) (s:List Fct×Bool),y∈(TN l s ts).1→(∃z∈s.1,Ah z=Ah y)∨∃t∈ts,Ah t.2=Ah y
 |[],s,h=>.inl ⟨y,h,rfl⟩
 |t::ts,s,h=>by
  rcases T9 ts (Kx l s t.2) h with ⟨z,hz,e⟩|⟨u,hu,e⟩
  ·rcases IQ hz with hz|rfl|⟨y',hy',e',rfl⟩
   ·exact .inl ⟨z,hz,e⟩
   ·exact .inr ⟨t,Ae7,e⟩
   ·exact .inl ⟨y',hy',e⟩
  ·exact .inr ⟨u,Ae8 _ hu,e⟩
theorem Yw{l:List Prd}(h5:l.length≤5)(hp:∀p∈l,AE p=true):FOk l []:=⟨h5,hp,fun x hx=>by simp at hx,List.Pairwise.nil⟩
section
variable {p:Prg}{M:List Int}(rk:∀r∈p.rules.xs,ROk p.preds.xs r)(hM:Sol (AX p.rules.xs) p.preds.xs.length M)
theorem J9{s:Int}{n:Nat}{r:Rul}(hr:p.rules.xs[n]?=some r):ofQ p M s n=true↔lv M r.head.pred=s:=by
 unfold ofQ;rw[Ae3,hr,decide_eq_true_eq];rfl
theorem O3{f:List Fct}{s:Int}:∀t∈BM p.preds.xs f p.rules.xs (ofQ p M s),lv M t.2.pred=s:=fun t ht=>by
 obtain⟨n,r,hr,hq,hs,he⟩:=Dr.1 ht;rw[he];exact(J9 hr).1 hq
include rk hM
theorem Ln{f g:List Fct}{s:Int}(hu:A8 p.preds.xs f g=true)(hs:D5 M (· < s) f g){r:Rul}(hr:r∈p.rules.xs)(hl:lv M r.head.pred≤s){x:Vrs}(hx:KE x)(h:Bv f r x=true):Bv g r x=true:=by
 unfold Bv at *;rw[Aff] at *;intro t ht;have h1:=h t ht;unfold GK at h1 ⊢;rw[decide_eq_true_eq] at h1 ⊢;have hlv:=T8 hM hr ht;cases hn:t.neg
 ·rw[hn] at h1;have:=ZS hu (y:=groundF t.atom x) (by simpa using h1);rw[this];decide
 ·rw[hn] at h1;have hng:ng t=1:=by unfold ng;rw[hn];rfl
  have ao:=Bc (rk r hr).preds ((rk r hr).body t ht);have pf:=ao.pf (rk r hr).five hx 0;have e:=ZU hs (y:=groundF t.atom x) pf (show lv M t.atom.pred<s by omega);rw[←e];exact h1
theorem Lo{f g:List Fct}{s:Int}(hs:D5 M (·≤s) f g){r:Rul}(hr:r∈p.rules.xs)(hl:lv M r.head.pred≤s){x:Vrs}(hx:KE x):Bv f r x=Bv g r x∧CP p.preds.xs f r x=CP p.preds.xs g r x:=by
 have hlit:∀t∈r.body.xs,lkF f (Ah (groundF t.atom x))=lkF g (Ah (groundF t.atom x)):=fun t ht=>by
  have hlv:=T8 hM hr ht;have:=ZV t;have ao:=Bc (rk r hr).preds ((rk r hr).body t ht);exact hs _ (ao.pf (rk r hr).five hx 0) (show lv M t.atom.pred≤s by omega)
 constructor
 ·unfold Bv;rw[AgH,Aff,Aff];have key:∀t∈r.body.xs,GK f x t=GK g x t:=fun t ht=>by unfold GK isF;rw[hlit t ht]
  exact⟨fun h t ht=>(key t ht)▸h t ht,fun h t ht=>(key t ht).symm▸h t ht⟩
 ·unfold CP Jy;by_cases h0:0≤r.src
  ·rw[if_pos h0,if_pos h0,hlit _ (Jz ⟨h0,(rk r hr).src.2⟩)]
  ·rw[if_neg h0,if_neg h0]
theorem Rx{f g:List Fct}{s:Int}(hs:D5 M (·≤s) f g){r:Rul}(hr:r∈p.rules.xs)(hl:lv M r.head.pred≤s)(n:Int):∀x,x∈A6 f n r→x∈A6 g n r:=fun x hx=>by
 unfold A6 at *;obtain⟨v,hv,e⟩:=AfE.1 hx;obtain⟨h1,h2⟩:=AfN.1 hv;refine AfE.2 ⟨v,AfN.2 ⟨h1,?_⟩,e⟩;rw[←(Lo rk hM hs hr hl (G9.1 h1)).1];exact h2
theorem Ua{f g:List Fct}{s:Int}(hs:D5 M (·≤s) f g):∀t,t∈BM p.preds.xs f p.rules.xs (ofQ p M s)→t∈BM p.preds.xs g p.rules.xs (ofQ p M s):=fun t ht=>by
 obtain⟨n,r,hr,hq,hst,he⟩:=Dr.1 ht;have hrm:=Afk hr;have hl:=(J9 hr).1 hq;refine Dr.2 ⟨n,r,hr,hq,Rx rk hM hs hrm (Aho hl) n _ hst,?_⟩;rw[he];exact(Lo rk hM hs hrm (Aho hl) (Cn hst).2.1).2
theorem Ry{f g:List Fct}{s:Int}(okf:FOk p.preds.xs f)(okg:FOk p.preds.xs g)(hs:D5 M (·≤s) f g)(h:(B2 p M s f).2=false):(B2 p M s g).2=false:=by
 unfold B2 at *;rw[TO okf (Bj rk okf)] at h;rw[TO okg (Bj rk okg)];intro t ht;have ht':=Ua rk hM (T7 hs) t ht;have h1:=h t ht';have hfine:=Bj rk okf t ht';rw[A1] at h1 ⊢;intro z hz;obtain⟨v,k1,k2⟩:=h1 z hz;rw[Afl.1 hz] at k1 k2 ⊢;exact⟨v,by rw[←hs _ (By okf.len hfine) (Aho (O3 t ht'))];exact k1,k2⟩
def Aan(p:Prg)(f:List Fct)(y:Fct):Prop:=∃(n:Nat) (r:Rul) (x:Vrs),p.rules.xs[n]?=some r∧KE x∧L0 r x=true∧Bv f r x=true∧Ah (CP p.preds.xs f r x)=Ah y
structure MJ(p:Prg)(M:List Int)(k:Nat)(f:List Fct):Prop where
 fok:FOk p.preds.xs f
 still:∀s:Nat,s<k→(B2 p M s f).2=false
 lev:∀y∈f,lv M y.pred≤k
 told:∀y∈f,Aan p f y
theorem Yx{k:Nat}{f:List Fct}(j:MJ p M k f):MJ p M k (B2 p M k f).1:=by
 have tf:=Bj (q:=ofQ p M k) rk j.fok;have tl:=O3 (p:=p) (M:=M) (f:=f) (s:=k);have hu:A8 p.preds.xs f (B2 p M k f).1=true:=Dx j.fok tf;have okg:FOk p.preds.xs (B2 p M k f).1:=CW j.fok tf;have hoff:D5 M (·≠(k:Int)) f (B2 p M k f).1:=fun y hy hl=>(O2 hy hl _ (f,false) j.fok tf tl).symm;have hlt:D5 M (· < (k:Int)) f (B2 p M k f).1:=fun y hy hl=>hoff y hy (Int.ne_of_lt hl);have hold:∀y,Aan p f y→lv M y.pred≤k→PF y→Aan p (B2 p M k f).1 y:=fun y ⟨n,r,x,h1,h2,h3,h4,h5⟩ hl hy=>by
  have hrm:=Afk h1;have hp1:(CP p.preds.xs f r x).pred=y.pred:=((By j.fok.len (Et (rk r hrm) j.fok h2 h4)).inj hy h5).1;exact⟨n,r,x,h1,h2,h3,Ln rk hM hu hlt hrm (by rw[show r.head.pred=y.pred from hp1];exact hl) h2 h4,h5⟩
 have hmem:∀y∈(B2 p M k f).1,lv M y.pred≤k∧Aan p (B2 p M k f).1 y:=fun y hy=>by
  have hyf:=By okg.len (okg.fine y hy);rcases T9 _ (f,false) hy with ⟨z,hz,e⟩|⟨t,ht,e⟩
  ·have hzp:z.pred=y.pred:=((By j.fok.len (j.fok.fine z hz)).inj hyf e).1;have hl:=j.lev z hz;obtain⟨n,r,x,h1,h2,h3,h4,h5⟩:=hold z (j.told z hz) hl (By j.fok.len (j.fok.fine z hz));exact⟨hzp▸hl,n,r,x,h1,h2,h3,h4,h5.trans e⟩
  ·have htp:t.2.pred=y.pred:=((By j.fok.len (tf t ht)).inj hyf e).1;have hl:=tl t ht;obtain⟨n,r,hr,hq,hs,he⟩:=Dr.1 ht;unfold A6 at hs;obtain⟨v,hv,ev⟩:=AfE.1 hs;obtain⟨v1,v2⟩:=AfN.1 hv;rw[Afn] at v2;have hvv:t.1.vars=v:=by rw[←ev]
   rw[hvv] at he;obtain⟨n',r',x',h1,h2,h3,h4,h5⟩:=hold t.2 ⟨n,r,v,hr,G9.1 v1,v2.1,v2.2,by rw[he]⟩ (Aho hl) (By j.fok.len (tf t ht));exact⟨by rw[←htp];exact Aho hl,n',r',x',h1,h2,h3,h4,h5.trans e⟩
 refine⟨okg,fun s hs=>?_,fun y hy=>(hmem y hy).1,fun y hy=>(hmem y hy).2⟩;exact Ry rk hM j.fok okg (fun y hy hl=>hoff y hy (by omega)) (j.still s hs)
theorem Ms(h0:FOk p.preds.xs []):∀{k:Nat} {f:List Fct} {rs:List Int},GB p M k f rs→MJ p M k f
 |0,f,_,⟨h,_⟩=>by subst h;exact⟨h0,fun s hs=>by omega,fun y hy=>by simp at hy,fun y hy=>by simp at hy⟩
 |k+1,f,_,⟨f0,r0,n,a,b,_⟩=>by
  have j:=Ms h0 a;have j2:MJ p M k f:=b.inv (J:=MJ p M k) j fun g hg _=>Yx rk hM hg;refine⟨j2.fok,fun s hs=>?_,fun y hy=>by have:=j2.lev y hy;omega,j2.told⟩;rcases Afd.1 hs with h|rfl
  ·exact j2.still s h
  ·exact b.end_
end
end
section
def Oo(L:List Int):Nat:=(L.map Int.toNat).sum
theorem Ub:∀(L M:List Int),L.length=M.length→(∀x∈L,0≤x)→(∀x∈M,0≤x)→Oo (List.zipWith min L M)≤Oo L∧(Oo (List.zipWith min L M)=Oo L→∀(j:Nat) (h1:j<L.length) (h2:j<M.length),L[j]≤M[j])
 |[],_,_,_,_=>⟨by simp[Oo],fun _ j h1=>by simp at h1⟩
 |_::_,[],h,_,_=>by simp at h
 |a::L,b::M,h,hp,hp2=>by
  obtain⟨i1,i2⟩:=Ub L M (by simpa using h) (fun x hx=>hp x (Ae8 _ hx)) fun x hx=>hp2 x (Ae8 _ hx);have hb:=hp2 b Ae7;have ha:=hp a Ae7;have e1:Oo (List.zipWith min (a::L) (b::M))=(min a b).toNat+Oo (List.zipWith min L M):=by simp[Oo]
  have e2:Oo (a::L)=a.toNat+Oo L:=by simp[Oo]
  rw[e1,e2];refine⟨by omega,fun e j h1 h2=>?_⟩;cases j with
  |zero=>show a≤b;omega
  |succ j=>exact i2 (by omega) j (by simpa using h1) (by simpa using h2)
theorem We{cs:List (Int×Ltl)}{n:Nat}{M0:List Int}(h0:Sol cs n M0):∃L,DF cs n L:=by
 have hmin:∀k:Nat,∀L,Sol cs n L→Oo L=k→∃L,Sol cs n L∧∀M,Sol cs n M→Oo L≤Oo M:=by
  intro k;induction k using Nat.strongRecOn with
  |ind k ih=>
   intro L hL hk;by_cases hx:∃M,Sol cs n M∧Oo M<k
   ·obtain⟨M,hM,hlt⟩:=hx;exact ih _ hlt M hM rfl
   ·refine⟨L,hL,fun M hM=>?_⟩;rcases Af4 (Oo M) k with h|h
    ·exact absurd ⟨M,hM,h⟩ hx
    ·omega
 obtain⟨L,hL,hm⟩:=hmin _ M0 h0 rfl;refine⟨L,hL,fun M hM i=>?_⟩;have hlv:∀i,lv (List.zipWith min L M) i=min (lv L i) (lv M i):=fun i=>by
  simp only[lv,Ae3,List.getElem?_zipWith];by_cases hi:i.toNat<n
  ·rw[Ae4 (by rw[hL.len];exact hi),Ae4 (by rw[hM.len];exact hi)];rfl
  ·rw[Agj (by rw[hL.len];omega),Agj (by rw[hM.len];omega)];rfl
 have hS:Sol cs n (List.zipWith min L M):=by
  refine⟨by rw[List.length_zipWith,hL.len,hM.len,Nat.min_self],fun i=>?_,fun c hc=>?_⟩
  ·rw[hlv];have:=hL.pos i;have:=hM.pos i;omega
  ·have h1:=hL.sat c hc;have h2:=hM.sat c hc;unfold SK lst at *;rw[hlv,hlv];omega
 have hnn:∀K,Sol cs n K→∀x∈K,0≤x:=fun K hK x hx=>by
  obtain⟨j,hj,rfl⟩:=Afz hx;have:=hK.pos j;rw[Px hj] at this;exact this
 obtain⟨s1,s2⟩:=Ub L M (hL.len.trans hM.len.symm) (hnn L hL) (hnn M hM);have:=s2 (Nat.le_antisymm s1 (hm _ hS));by_cases hi:i.toNat<n
 ·simp only[lv,Ae3];rw[Ae4 (by rw[hL.len];exact hi),Ae4 (by rw[hM.len];exact hi)];exact this _ _ _
 ·simp only[lv,Ae3];rw[Agj (by rw[hL.len];omega),Agj (by rw[hM.len];omega)];exact Ahh _
theorem BC{p:Prg}(h:Ac p=0):DF (AX p.rules.xs) p.preds.xs.length (Ak p):=by
 obtain⟨_,_,_,M,hM⟩:=AB h;obtain⟨L,hL⟩:=We hM;rw[Bl hL];exact hL
theorem Wf{cs:List (Int×Ltl)}{n:Nat}{L:List Int}(hr:InR cs n)(h:DF cs n L){i:Int}(h0:0≤i)(h1:i<n):lv L i<n:=by
 obtain⟨M',hM',hlt⟩:=h.sol.small hr;exact Int.lt_of_le_of_lt (h.least M' hM' i) (hlt i h0 h1)
end
section
theorem Ea{p:Prg}(h:Ac p=0):FOk p.preds.xs []:=Yw (AB h).1 (Cd h)
theorem Yy{rs rs':List Rul}{n:Nat}{K:List Int}(hR:∀r,r∈rs'→r∈rs)(h:Sol (AX rs) n K):Sol (AX rs') n K:=⟨h.len,h.pos,fun c hc=>by
 unfold AX at hc;obtain⟨r,hr,hc⟩:=Af1.1 hc;obtain⟨x,hx,rfl⟩:=AfE.1 hc;exact h.sat _ (QB (hR r hr) hx)⟩
theorem Mt{p q:Prg}(hp:q.preds.xs=p.preds.xs)(hl:q.rules.xs.length≤8)(hR:∀r,r∈q.rules.xs→r∈p.rules.xs)(h:Ac p=0):Ac q=0:=by
 obtain⟨k1,k2,k3,M,hM⟩:=AB h;have k3':rulesErr p.preds.xs q.rules.xs=0:=Bn.2 fun r hr=>Bn.1 k3 r (hR r hr);unfold Ac at h ⊢;rw[hp];split at h
 ·cases h
 rw[if_neg (by omega)];split at h
 ·cases h
 rename_i g2;rw[if_neg g2];split at h
 ·cases h
 rename_i g3;rw[if_neg g3];split at h
 ·cases h
 rename_i g4;rw[if_neg g4];split at h
 ·cases h
 rename_i g5;rw[if_neg g5,if_neg (by rw[k3'];exact fun h=>h rfl),if_pos ⟨M,Yy hR hM⟩]
section
variable {l:List Prd}{N:List Bool}
end
structure Aa9(p q:Prg)(N:List Bool):Prop where
 preds:q.preds.xs=p.preds.xs
 rules:∀r,r∈q.rules.xs↔r∈p.rules.xs∧bv N r.head.pred=true
 cp:Ac p=0
 cq:Ac q=0
 closed:XS (AX p.rules.xs) N
section
variable {p q:Prg}{N:List Bool}(o:Aa9 p q N)
include o
end
end
end Go.TF
