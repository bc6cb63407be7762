/- Texts SpTxt2 SpChk SpTxt3 Str1 Base21 Base27 SlFuncs Txp1 Txp2 Base28 Txp3 Base29. -/
import Derived.Test.YtljkkojkfddpeaaGreatDoorU3
import Derived.Lib.LaidTab
import Derived.WideLaws
import Derived.Laws.Runes
import Derived.RecoverIn
set_option maxRecDepth 20000
set_option maxHeartbeats 16000000
set_option linter.unusedVariables false
set_option linter.unusedSimpArgs false
namespace Go.TF
open Go Go.RowKit Go.Proofs Go.Proofs.Tryz
section
def C3(t:Trm):Bs:=if t.var=true then [UInt8.ofNat (65+t.n).toNat] else dgL t.n.toNat
def L5(ts:List Trm):Bs:=if ts=[] then [] else [40]++(joinT [44] (ts.map C3)++[41])
def A0(l:List Prd)(a:Atm):Bs:=tx (Al l a.pred).name++L5 a.args.xs
def Gn(l:List Prd)(x:Ltl):Bs:=(if x.neg=true then [33] else [])++A0 l x.atom
def Dq(l:List Prd)(b:List Ltl):Bs:=if b=[] then [] else [32,58,45,32]++joinT [44,32] (b.map (Gn l))
def Nk(r:Rul):Bs:=if 0≤r.src then [35]++(dgL r.src.toNat++[43]) else []
def E9(l:List Prd)(r:Rul):Bs:=if (Al l r.head.pred).kind≠0 then [32,61,32]++(Nk r++dgL r.n.toNat) else []
def Dn(l:List Prd)(r:Rul):Bs:=(A0 l r.head++(E9 l r++Dq l r.body.xs))++[46]
def predW:Bs:=[112,114,101,100,32]
def Eu(x:Prd):Bs:=predW++(tx x.name++([32]++(dgL x.arity.toNat++([32]++dgL x.kind.toNat))))
def BI(p:Prg):List Bs:=p.preds.xs.map Eu++p.rules.xs.map (Dn p.preds.xs)
def Cz(p:Prg):Bs:=(BI p).flatMap (·++[10])
def K1(l:List Prd)(s:Bs):Option Nat:=l.findIdx? fun x=>decide (tx x.name=s)
def JC(w:Bs):Option Trm:=if 0≤Lib.index [65,66,67] w∧w.length=1 then some ⟨true,Lib.index [65,66,67] w⟩ else (Du w).map fun n=>⟨false,n⟩
def termsR:List Bs→Option (List Trm)
 |[]=>some []
 |w::r=>match JC w,termsR r with|some t,some ts=>some (t::ts)|_,_=>none
def mkA(p:Nat)(ts:List Trm):Atm:=⟨p,⟨none,0,ts⟩⟩
def Ev(l:List Prd)(s:Bs):Option Atm:=
 match K1 l (Lib.cut s [40]).1 with
 |none=>none
 |some k=>if (Lib.cut s [40]).2.2=false then some (mkA k []) else
  if Lib.hasSuffix (Lib.cut s [40]).2.1 [41]=false then none else (termsR (Lib.split (Lib.trimSuffix (Lib.cut s [40]).2.1 [41]) [44])).map (mkA k)
def SQ(l:List Prd)(s:Bs):Option Ltl:=(Ev l (Lib.trimPrefix s [33])).map fun a=>⟨Lib.hasPrefix s [33],a⟩
def litsR(l:List Prd):List Bs→Option (List Ltl)
 |[]=>some []
 |w::r=>match SQ l w,litsR l r with|some t,some ts=>some (t::ts)|_,_=>none
def Vr(s:Bs):Option (Int×Int):=
 if (Lib.cut s [43]).2.2=true then
  if Lib.hasPrefix (Lib.cut s [43]).1 [35]=false then none else
   match Du (Lib.trimPrefix (Lib.cut s [43]).1 [35]),Du (Lib.cut s [43]).2.1 with|some a,some b=>some (a,b)|_,_=>none
 else (Du s).map fun n=>(-1,n)
def mkR(h:Atm)(v:Int×Int)(b:List Ltl):Rul:=⟨h,v.1,v.2,⟨none,0,b⟩⟩
def hdR(h:Bs):Bs×Option (Int×Int):=((Lib.cut h [32,61,32]).1,if (Lib.cut h [32,61,32]).2.2=true then Vr (Lib.cut h [32,61,32]).2.1 else some (-1,0))
def Rf(l:List Prd)(s:Bs):Option Rul:=
 match (hdR (Lib.cut s [32,58,45,32]).1).2 with
 |none=>none
 |some v=>
  match Ev l (hdR (Lib.cut s [32,58,45,32]).1).1 with
  |none=>none
  |some h=>if (Lib.cut s [32,58,45,32]).2.2=true then (litsR l (Lib.split (Lib.cut s [32,58,45,32]).2.1 [44,32])).map (mkR h v) else some (mkR h v [])
abbrev St:=List Prd×List Rul
def OJ(s:Bs):Option Prd:=
 match Lib.split s [32] with
 |[n,a,k]=>match Du a,Du k with|some a,some k=>some ⟨⟨n.toArray⟩,a,k⟩|_,_=>none
 |_=>none
def Fa(p:St)(s:Bs):Option St:=
 if Lib.hasPrefix s predW=true∧Lib.hasSuffix s [46]=false then (OJ (Lib.trimPrefix s predW)).map fun x=>(p.1++[x],p.2)
 else if Lib.hasSuffix s [46]=false then none else (Rf p.1 (Lib.trimSuffix s [46])).map fun r=>(p.1,p.2++[r])
def Fc:List Bs→St→Option St
 |[],p=>some p
 |s::r,p=>match Fa p s with|none=>none|some q=>Fc r q
def OK(l:List Prd)(s:Bs):Int:=(List.range l.length).foldl (fun k i=>if tx (l.getD i default).name=s then (i:Int) else k) (-1)
def Fe(t:Bs):Trm:=if t.length=1∧65≤(t.getD 0 0).toNat then ⟨true,(t.getD 0 0).toNat-65⟩ else ⟨false,BP t⟩
def Nl:Nat→Bs→List Trm
 |0,_=>[]
 |f+1,s=>if (Lib.cut s [44]).2.2=true then Fe (Lib.cut s [44]).1::Nl f (Lib.cut s [44]).2.1
  else [Fe ((Lib.cut s [44]).1.take ((Lib.cut s [44]).1.length-1))]
def H0(l:List Prd)(s:Bs):Atm:=⟨OK l (Lib.cut s [40]).1,⟨none,0,if (Lib.cut s [40]).2.2=true then Nl (s.length+1) (Lib.cut s [40]).2.1 else []⟩⟩
def XX(l:List Prd)(t:Bs):Ltl:=if t.head?=some 33 then ⟨true,H0 l (t.drop 1)⟩ else ⟨false,H0 l t⟩
def Nn(l:List Prd):Nat→Bs→List Ltl
 |0,_=>[]
 |f+1,s=>if (Lib.cut s [44,32]).2.2=true then XX l (Lib.cut s [44,32]).1::Nn l f (Lib.cut s [44,32]).2.1 else [XX l (Lib.cut s [44,32]).1]
def Aai(s:Bs):Int×Int:=if (Lib.cut s [43]).2.2=true∧(Lib.cut s [43]).1≠[] then (BP ((Lib.cut s [43]).1.drop 1),BP (Lib.cut s [43]).2.1) else (-1,BP s)
def hdF(h:Bs):Bs×(Int×Int):=if (Lib.cut h [32,61,32]).2.2=true then ((Lib.cut h [32,61,32]).1,Aai (Lib.cut h [32,61,32]).2.1) else (h,(-1,0))
def OL(l:List Prd)(s:Bs):Rul:=
 mkR (H0 l (hdF (Lib.cut s [32,58,45,32]).1).1) (hdF (Lib.cut s [32,58,45,32]).1).2
  (if (Lib.cut s [32,58,45,32]).2.2=true then Nn l (s.length+1) (Lib.cut s [32,58,45,32]).2.1 else [])
def XY(more:Bs):Prd:=⟨⟨(Lib.cut more [32]).1.toArray⟩,BP (Lib.cut (Lib.cut more [32]).2.1 [32]).1,BP (Lib.cut (Lib.cut more [32]).2.1 [32]).2.1⟩
def D8(s:Bs):Bool:=(Lib.cut s [32]).2.2 && decide ((Lib.cut s [32]).1=[112,114,101,100]) && decide ((Lib.cut s [32]).2.1≠[]) && decide ((Lib.cut s [32]).2.1.head?≠some 58) && decide ((Lib.cut s [32]).2.1.head?≠some 61)
def Iw(p:St)(s:Bs):St:=if D8 s=true then (p.1++[XY (Lib.cut s [32]).2.1],p.2) else (p.1,p.2++[OL p.1 (s.take (s.length-1))])
def readF:Nat→Bs→St→St
 |0,_,p=>p
 |f+1,s,p=>if s=[] then p else readF f (Lib.cut s [10]).2.1 (Iw p (Lib.cut s [10]).1)
section
theorem XZ{n:Nat}(h:n<256):(UInt8.ofNat n).toNat=n:=by rw[UInt8.toNat_ofNat'];omega
theorem SR{ts:List Trm}(h:B9 ts=0){t:Trm}(ht:t∈ts):termOk t=true:=by
 unfold B9 at h;split at h
 ·rename_i h1;exact Aff.1 h1 t ht
 ·cases h
theorem Ew{t:Trm}(h:termOk t=true):∃c:UInt8,C3 t=[c]∧(if t.var=true then (c.toNat:Int)=65+t.n∧0≤t.n∧t.n<3 else (c.toNat:Int)=48+t.n∧0≤t.n∧t.n≤4):=by
 obtain⟨var,n⟩:=t;cases var with
 |true=>
  obtain⟨h0,h1⟩:0≤n∧n<3:=of_decide_eq_true h;refine⟨UInt8.ofNat (65+n).toNat,rfl,?_⟩;show((UInt8.ofNat (65+n).toNat).toNat:Int)=65+n∧_;exact⟨by rw[XZ (by omega)];omega,h0,h1⟩
 |false=>
  obtain⟨h0,h1⟩:0≤n∧n≤4:=of_decide_eq_true h;refine⟨UInt8.ofNat (48+n.toNat),?_,?_⟩
  ·show dgL n.toNat=_;unfold dgL;rw[if_pos (by omega)]
  show((UInt8.ofNat (48+n.toNat)).toNat:Int)=48+n∧_;exact⟨by rw[XZ (by omega)];omega,h0,h1⟩
theorem Ha{t:Trm}(h:termOk t=true){c:UInt8}(hc:c.toNat<48):c∉C3 t:=by
 obtain⟨d,hd,hh⟩:=Ew h;rw[hd];intro hm;rw[Afl] at hm;subst hm;split at hh<;>omega
theorem X0:∀c:Fin 256,Lib.index [65,66,67] [UInt8.ofNat c.val]=if 65≤c.val∧c.val≤67 then (c.val:Int)-65 else -1:=by decide +kernel
theorem X1:∀c:Fin 10,Du [UInt8.ofNat (48+c.val)]=some (c.val:Int):=by decide +kernel
theorem Vs:∀c:Fin 10,BP [UInt8.ofNat (48+c.val)]=(c.val:Int):=by decide +kernel
theorem ZE{c:UInt8}{n:Nat}(h:c.toNat=n):c=UInt8.ofNat n:=by subst h;simp
theorem Vu{t:Trm}(h:termOk t=true):JC (C3 t)=some t:=by
 obtain⟨c,hc,hh⟩:=Ew h;obtain⟨var,n⟩:=t;rw[hc];have hlt:=c.toNat_lt;have hi:Lib.index [65,66,67] [c]=if 65≤c.toNat∧c.toNat≤67 then (c.toNat:Int)-65 else -1:=by
  have:=X0 ⟨c.toNat,hlt⟩;simpa using this
 unfold JC;rw[hi];cases var with
 |true=>
  simp only[if_true] at hh;rw[if_pos (show 65≤c.toNat∧c.toNat≤67 by omega),if_pos (show 0≤(c.toNat:Int)-65∧[c].length=1 from⟨by omega,rfl⟩)];congr 2;omega
 |false=>
  simp only[Afy,if_false] at hh;rw[if_neg (show ¬(65≤c.toNat∧c.toNat≤67) by omega),if_neg (fun h=>absurd h.1 (by decide))];have:=X1 ⟨n.toNat,by omega⟩;have hc':c=UInt8.ofNat (48+n.toNat):=ZE (by omega);rw[hc'];simp only at this;rw[this];simp;omega
theorem PB{t:Trm}(h:termOk t=true):Fe (C3 t)=t:=by
 obtain⟨c,hc,hh⟩:=Ew h;obtain⟨var,n⟩:=t;rw[hc];unfold Fe;cases var with
 |true=>
  simp only[if_true] at hh;rw[if_pos ⟨rfl,by simp;omega⟩];simp;omega
 |false=>
  simp only[Afy,if_false] at hh;rw[if_neg (by simp;omega)];have:=Vs ⟨n.toNat,by omega⟩;have hc':c=UInt8.ofNat (48+n.toNat):=ZE (by omega);rw[hc'];simp only at this;rw[this];simp;omega
theorem No:∀{ts:List Trm},(∀t∈ts,termOk t=true)→termsR (ts.map C3)=some ts
 |[],_=>rfl
 |t::r,h=>by simp only[AfQ,termsR,Vu (h t (by simp)),No fun x hx=>h x (Ae8 _ hx)]
theorem IS{c:UInt8}{sep:Bs}(hs:c∉sep):∀{l:List Bs},(∀x∈l,c∉x)→c∉joinT sep l
 |[],_=>by simp[joinT]
 |[x],h=>h x (by simp)
 |x::y::r,h=>by
  rw[joinT];simp only[Afu,not_or];exact⟨h x (by simp),hs,IS hs fun z hz=>h z (Ae8 _ hz)⟩
theorem PC:∀{ts:List Trm} {f:Nat},ts≠[]→(∀t∈ts,termOk t=true)→ts.length≤f→Nl f (joinT [44] (ts.map C3)++[41])=ts
 |[],_,h,_,_=>absurd rfl h
 |_::_,0,_,_,h=>by simp at h
 |[t],f+1,_,h,_=>by
  have hn:(44:UInt8)∉C3 t++[41]:=by
   simp only[Afu,not_or];exact⟨Ha (h t (by simp)) (by decide),by decide⟩
  simp only[AfQ,AgT,joinT,Nl];rw[DU (Afl.2 rfl) hn,if_neg (by simp)];simp[PB (h t (by simp))]
 |t::u::r,f+1,_,h,hl=>by
  simp only[AfQ,joinT,Nl,Afe];rw[U0 (Ha (h t (by simp)) (by decide)),if_pos rfl,PB (h t (by simp))];simp only;rw[←AfQ (f:=C3),PC (by simp) (fun x hx=>h x (Ae8 _ hx)) (by simp at hl ⊢;omega)]
end
structure NOk(l:List Prd):Prop where
 name:∀x∈l,(tx x.name).all KZ=true∧tx x.name≠[]
 once:G8 l=false
section
variable {l:List Prd}(nk:NOk l)
include nk
theorem NOk.not{x:Prd}(hx:x∈l){c:UInt8}(hc:KZ c=false):c∉tx x.name:=fun hm=>by
 rw[(Aff.1 (nk.name x hx).1) c hm] at hc;cases hc
theorem NOk.inj{i j:Nat}(hi:i<l.length)(hj:j<i):l[j].name≠l[i].name:=fun e=>by
 have h:=nk.once;unfold G8 at h;rw[Agb] at h;refine h i (Af0.2 hi) ?_;unfold Nh;rw[AfG];refine⟨l[j],?_,?_⟩
 ·rw[AgU];exact⟨j,by rw[AfF,if_pos hj];simp⟩
 ·have:l.getD i default=l[i]:=by rw[Ae3,Ae4 hi];rfl
  rw[this,e];simp
theorem Np{p:Int}(h:0≤p∧p<l.length):K1 l (tx (Al l p).name)=some p.toNat:=by
 have hlt:p.toNat<l.length:=by omega
 have he:Al l p=l[p.toNat]:=by unfold Al;rw[Ae3,Ae4 hlt];rfl
 rw[he];unfold K1;rw[Agn];refine⟨hlt,by simp,fun j hj=>?_⟩;have:=nk.inj hlt hj;simp only[decide_eq_true_eq];intro e;exact this (Cb.1 e)
theorem K2{p:Int}(h:0≤p∧p<l.length):OK l (tx (Al l p).name)=p:=by
 have hlt:p.toNat<l.length:=by omega
 have he:Al l p=l[p.toNat]:=by unfold Al;rw[Ae3,Ae4 hlt];rfl
 have hne:∀j,j<l.length→(tx (l.getD j default).name=tx (Al l p).name↔j=p.toNat):=fun j hj=>by
  have hg:l.getD j default=l[j]:=by rw[Ae3,Ae4 hj];rfl
  rw[he,hg,Cb];refine⟨fun e=>?_,fun e=>by subst e;rfl⟩;rcases Ahg j p.toNat with h1|h1|h1
  ·exact absurd e (nk.inj hlt h1)
  ·exact h1
  ·exact absurd e.symm (nk.inj hj h1)
 have key:∀n,n≤l.length→(List.range n).foldl (fun k i=>if tx (l.getD i default).name=tx (Al l p).name then (i:Int) else k) (-1)=if p.toNat<n then p else -1:=by
  intro n;induction n with
  |zero=>intro _;simp
  |succ n ih=>
   intro hn;rw[AgW,Agq,ih (by omega)];simp only[Agk,Ah3];by_cases hp:n=p.toNat
   ·rw[if_pos ((hne n (by omega)).2 hp),if_pos (by omega)];omega
   ·rw[if_neg fun e=>hp ((hne n (by omega)).1 e)];by_cases h1:p.toNat<n
    ·rw[if_pos h1,if_pos (by omega)]
    ·rw[if_neg h1,if_neg (by omega)]
 unfold OK;rw[key _ (Afg _),if_pos hlt]
theorem PD{a:Atm}(ao:AOk l a):Lib.cut (A0 l a) [40]=if a.args.xs=[] then (tx (Al l a.pred).name,[],false) else (tx (Al l a.pred).name,joinT [44] (a.args.xs.map C3)++[41],true):=by
 have hn:(40:UInt8)∉tx (Al l a.pred).name:=nk.not (Ba ao.pred) (by decide);unfold A0 L5;split
 ·rw[Aft];exact DU (Afl.2 rfl) hn
 ·exact U0 hn
omit nk in
theorem AOk.termOk{a:Atm}(ao:AOk l a){t:Trm}(ht:t∈a.args.xs):termOk t=true:=SR ao.err ht
omit nk in
theorem Xs{a:Atm}(ao:AOk l a):mkA a.pred.toNat a.args.xs=a.er:=by
 have:=ao.pred;unfold mkA Atm.er Sl.er;congr 1;omega
theorem Hc{a:Atm}(ao:AOk l a):Ev l (A0 l a)=some a.er:=by
 unfold Ev;rw[PD nk ao];by_cases h:a.args.xs=[]
 ·rw[if_pos h];simp only[Np nk ao.pred,if_true];rw[←Xs ao,h]
 ·rw[if_neg h];simp only[Np nk ao.pred,LO,G3,Bool.true_eq_false,if_false];rw[GD (by simpa using h) (fun x hx=>?_),No fun t ht=>AOk.termOk ao ht]
  ·rw[Agf,Xs ao]
  ·obtain⟨t,ht,rfl⟩:=AfE.1 hx;exact Ha (AOk.termOk ao ht) (by decide)
theorem He{a:Atm}(ao:AOk l a):H0 l (A0 l a)=a.er:=by
 have hl:a.args.xs.length≤(A0 l a).length+1:=by
  unfold A0 L5;have hlen:∀{ts:List Trm},(∀t∈ts,TF.termOk t=true)→ts.length≤(joinT [44] (ts.map C3)).length:=by
   intro ts;induction ts with
   |nil=>intro _;simp
   |cons t r ih=>
    intro h;obtain⟨c,hc,_⟩:=Ew (h t (by simp));have:=ih fun x hx=>h x (Ae8 _ hx);cases r with
    |nil=>simp[joinT,hc]
    |cons u r=>simp[joinT,hc] at this ⊢;omega
  have:=hlen fun t ht=>AOk.termOk ao ht;split<;>simp_all<;>omega
 unfold H0;rw[PD nk ao];by_cases h:a.args.xs=[]
 ·rw[if_pos h];simp only[K2 nk ao.pred,Afy,if_false];rw[←h];rfl
 ·rw[if_neg h];simp only[K2 nk ao.pred,if_true];rw[PC h (fun t ht=>AOk.termOk ao ht) hl];rfl
theorem JD{a:Atm}(ao:AOk l a){c:UInt8}(hc:KZ c=false)(h1:c≠40∧c≠41∧c≠44)(h2:c.toNat<48):c∉A0 l a:=by
 unfold A0 L5;simp only[Afu,not_or];refine⟨nk.not (Ba ao.pred) hc,?_⟩;split
 ·simp
 ·simp only[Afu,not_or,Afl];exact⟨h1.1,IS (by simpa using h1.2.2) fun x hx=>by obtain⟨t,ht,rfl⟩:=AfE.1 hx;exact Ha (AOk.termOk ao ht) h2,h1.2.1⟩
theorem K3{a:Atm}(ao:AOk l a){c:UInt8}(hc:KZ c=false)(h2:53≤c.toNat)(h3:c.toNat<65):c∉A0 l a:=by
 unfold A0 L5;simp only[Afu,not_or];refine⟨nk.not (Ba ao.pred) hc,?_⟩;split
 ·simp
 ·simp only[Afu,not_or,Afl];refine⟨fun e=>by rw[e] at h2;exact absurd h2 (by decide),IS (fun e=>by rw[Afl] at e;rw[e] at h2;exact absurd h2 (by decide)) fun x hx=>?_,fun e=>by rw[e] at h2;exact absurd h2 (by decide)⟩;obtain⟨t,ht,rfl⟩:=AfE.1 hx;obtain⟨d,hd,hh⟩:=Ew (AOk.termOk ao ht);rw[hd,Afl];rintro rfl;split at hh<;>omega
theorem K4{a:Atm}(ao:AOk l a):∃c r,A0 l a=c::r∧KZ c=true:=by
 obtain⟨h1,h2⟩:=nk.name _ (Ba ao.pred);unfold A0;cases hn:tx (Al l a.pred).name with
 |nil=>exact absurd hn h2
 |cons c r=>rw[hn] at h1;exact⟨c,_,rfl,by simp only[Ag5,Afn] at h1;exact h1.1⟩
theorem X3{x:Ltl}(ao:AOk l x.atom):SQ l (Gn l x)=some x.er:=by
 obtain⟨c,r,hc,hl⟩:=K4 nk ao;unfold SQ Gn;cases hx:x.neg with
 |true=>
  simp only[if_true];rw[Ji,LP,Hc nk ao];simp[Ltl.er,hx]
 |false=>
  have hp:Lib.hasPrefix (A0 l x.atom) [33]=false:=by
   rw[hc];unfold Lib.hasPrefix;simp only[List.isPrefixOf,Ahy];rw[beq_eq_false_iff_ne];rintro rfl;cases hl
  simp only[Afy,if_false,AfC];unfold Lib.trimPrefix;rw[hp,if_neg (by simp),Hc nk ao];simp[Ltl.er,hx]
theorem SU{x:Ltl}(ao:AOk l x.atom):XX l (Gn l x)=x.er:=by
 obtain⟨c,r,hc,hl⟩:=K4 nk ao;unfold XX Gn;cases hx:x.neg with
 |true=>
  simp only[if_true,Ahm,List.head?_cons,AgK,AhM];rw[He nk ao];simp[Ltl.er,hx]
 |false=>
  simp only[Afy,if_false,AfC];rw[if_neg,He nk ao]
  ·simp[Ltl.er,hx]
  ·rw[hc];simp only[List.head?_cons,Option.some.injEq];rintro rfl;cases hl
theorem IT{x:Ltl}(ao:AOk l x.atom){c:UInt8}(hc:KZ c=false)(h1:c≠40∧c≠41∧c≠44)(h2:c.toNat<48)(h3:c≠33):c∉Gn l x:=by
 unfold Gn;simp only[Afu,not_or];refine⟨?_,JD nk ao hc h1 h2⟩;split
 ·simpa using h3
 ·simp
theorem PE:∀{b:List Ltl},(∀x∈b,AOk l x.atom)→litsR l (b.map (Gn l))=some (b.map Ltl.er)
 |[],_=>rfl
 |x::r,h=>by simp only[AfQ,litsR,X3 nk (h x (by simp)),PE fun y hy=>h y (Ae8 _ hy)]
theorem PG:∀{b:List Ltl} {f:Nat},b≠[]→(∀x∈b,AOk l x.atom)→b.length≤f→Nn l f (joinT [44,32] (b.map (Gn l)))=b.map Ltl.er
 |[],_,h,_,_=>absurd rfl h
 |_::_,0,_,_,h=>by simp at h
 |[x],f+1,_,h,_=>by
  simp only[AfQ,AgT,joinT,Nn];rw[DU (c:=32) (by simp) (IT nk (h x (by simp)) (by decide) (by decide) (by decide) (by decide)),if_neg (by simp)];rw[SU nk (h x (by simp))]
 |x::y::r,f+1,_,h,hl=>by
  simp only[AfQ,joinT,Nn];rw[Aau (IT nk (h x (by simp)) (by decide) (by decide) (by decide) (by decide)) (by decide),if_pos rfl,SU nk (h x (by simp))];simp only;rw[←AfQ (f:=Gn l),PG (by simp) (fun z hz=>h z (Ae8 _ hz)) (by simp at hl ⊢;omega),AfQ]
end
end
section
theorem Cd{p:Prg}(h:Ac p=0):∀x∈p.preds.xs,AE x=true:=by
 unfold Ac at h;split at h
 ·cases h
 split at h
 ·cases h
 split at h
 ·cases h
 split at h
 ·cases h
 split at h
 ·cases h
 rename_i h1 h2 h3 h4 h5;intro x hx;have a:CA x≠true:=fun e=>h4 (AfG.2 ⟨x,hx,e⟩);have b:badKind x≠true:=fun e=>h5 (AfG.2 ⟨x,hx,e⟩);simp only[CA,badKind,ne_eq,decide_eq_true_eq,not_or,Int.not_lt] at a b;simp only[AE,decide_eq_true_eq];omega
theorem BA{p:Prg}(h:Ac p=0):∀r∈p.rules.xs,ROk p.preds.xs r:=fun r hr=>Xq (AB h).1 (Cd h) (Bn.1 (AB h).2.2.1 r hr)
theorem Nq{p:Prg}(h:Ac p=0):(∀x∈p.preds.xs,isName x.name=true)∧G8 p.preds.xs=false:=by
 unfold Ac at h;split at h
 ·cases h
 split at h
 ·cases h
 split at h
 ·cases h
 rename_i h1 h2 h3;exact⟨by simpa using h2,by simpa using h3⟩
theorem SV{p:Prg}(h:Ac p=0):∀r∈p.rules.xs,0≤r.head.pred∧r.head.pred<p.preds.xs.length:=fun r hr=>(Bc (Cd h) (BA h r hr).head).pred
end
section
theorem JE{p:Prg}(h:Ac p=0):NOk p.preds.xs:=by
 obtain⟨h1,h2⟩:=Nq h;refine⟨fun x hx=>?_,h2⟩;have:=h1 x hx;unfold isName at this;simp only[Afn,decide_eq_true_eq] at this;exact⟨this.2,fun e=>by have:=BF x.name;rw[e] at this;simp at this;omega⟩
section
variable {l:List Prd}(nk:NOk l)
theorem JF{c:UInt8}(h:Kw c=false){n:Nat}(hn:n<100):c∉dgL n:=Zs hn h
section
variable {r:Rul}(ok:ROk l r)
include ok
theorem ROk.aa2:r.src.toNat<100:=by have:=ok.src;have:=ok.len;omega
theorem ROk.aa3:r.n.toNat<100:=by have:=ok.n;omega
theorem Vv{c:UInt8}(h:Kw c=false)(h1:c≠35)(h2:c≠43):c∉Nk r:=by
 unfold Nk;split
 ·simp only[Afu,not_or,Afl];exact⟨h1,JF h ok.aa2,h2⟩
 ·simp
theorem PH{c:UInt8}(h:Kw c=false)(h1:c≠35)(h2:c≠43)(h3:c∉([32,61,32]:Bs)):c∉E9 l r:=by
 unfold E9;split
 ·simp only[Afu,not_or];exact⟨h3,Vv ok h h1 h2,JF h ok.aa3⟩
 ·simp
theorem X4:Vr (Nk r++dgL r.n.toNat)=some (r.src,r.n):=by
 have h0:=ok.src;have h1:=ok.n;unfold Vr Nk;split
 ·rename_i hs;have e1:[35]++(dgL r.src.toNat++[43])++dgL r.n.toNat=([35]++dgL r.src.toNat)++([43]++dgL r.n.toNat):=by simp
  have hn:(43:UInt8)∉[35]++dgL r.src.toNat:=by
   simp only[Afu,not_or,Afl];exact⟨by decide,JF (by decide) ok.aa2⟩
  rw[e1,U0 hn,if_pos rfl];simp only;rw[LP,if_neg (by simp),Ji,M3 ok.aa2,M3 ok.aa3];simp only[Option.some.injEq,Prod.mk.injEq];omega
 ·rename_i hs;rw[AfC,DU (Afl.2 rfl) (JF (by decide) ok.aa3),if_neg (by simp),M3 ok.aa3];simp only[Agf,Option.some.injEq,Prod.mk.injEq];omega
theorem X5:Aai (Nk r++dgL r.n.toNat)=(r.src,r.n):=by
 have h0:=ok.src;have h1:=ok.n;unfold Aai Nk;split
 ·rename_i hs;have e1:[35]++(dgL r.src.toNat++[43])++dgL r.n.toNat=([35]++dgL r.src.toNat)++([43]++dgL r.n.toNat):=by simp
  have hn:(43:UInt8)∉[35]++dgL r.src.toNat:=by
   simp only[Afu,not_or,Afl];exact⟨by decide,JF (by decide) ok.aa2⟩
  rw[e1,U0 hn,if_pos (by simp)];simp only[Ahm,AgK,AhM];rw[Jj ok.aa2,Jj ok.aa3];simp only[Prod.mk.injEq];omega
 ·rename_i hs;rw[AfC,DU (Afl.2 rfl) (JF (by decide) ok.aa3),if_neg (by simp),Jj ok.aa3];simp only[Prod.mk.injEq];omega
include nk
theorem PI:Lib.cut (A0 l r.head++E9 l r) [32,61,32]=if (Al l r.head.pred).kind≠0 then (A0 l r.head,Nk r++dgL r.n.toNat,true) else (A0 l r.head,[],false):=by
 have ao:=Bc ok.preds ok.head;have hn:(61:UInt8)∉A0 l r.head:=K3 nk ao (by decide) (by decide) (by decide);unfold E9;split
 ·exact Aau hn (by decide)
 ·rw[Aft];exact DU (c:=61) (by simp) hn
theorem Xt:hdR (A0 l r.head++E9 l r)=(A0 l r.head,some (r.src,r.n)):=by
 unfold hdR;rw[PI nk ok];split
 ·rw[if_pos rfl,X4 ok]
 ·rename_i hk;have:=ok.plain (Afh.1 hk);rw[if_neg (by simp),this.1,this.2]
theorem Xu:hdF (A0 l r.head++E9 l r)=(A0 l r.head,(r.src,r.n)):=by
 unfold hdF;rw[PI nk ok];split
 ·rw[if_pos rfl,X5 ok]
 ·rename_i hk;have:=ok.plain (Afh.1 hk);rw[if_neg (by simp),this.1,this.2];have ht:E9 l r=[]:=by unfold E9;rw[if_neg hk]
  rw[ht,Aft]
theorem PJ:Lib.cut (A0 l r.head++(E9 l r++Dq l r.body.xs)) [32,58,45,32]=if r.body.xs=[] then (A0 l r.head++E9 l r,[],false) else (A0 l r.head++E9 l r,joinT [44,32] (r.body.xs.map (Gn l)),true):=by
 have ao:=Bc ok.preds ok.head;have hn:(58:UInt8)∉A0 l r.head++E9 l r:=by
  simp only[Afu,not_or];exact⟨K3 nk ao (by decide) (by decide) (by decide),PH ok (by decide) (by decide) (by decide) (by decide)⟩
 rw[←Afe];unfold Dq;split
 ·rw[Aft];exact DU (c:=58) (by simp) hn
 ·exact Aau hn (by decide)
theorem Vw:Rf l (A0 l r.head++(E9 l r++Dq l r.body.xs))=some r.er:=by
 have ao:=Bc ok.preds ok.head;have ab:=fun x hx=>Bc ok.preds (ok.body x hx);unfold Rf;rw[PJ nk ok];by_cases hb:r.body.xs=[]
 ·rw[if_pos hb];simp only[Xt nk ok,Hc nk ao,Afy,if_false];unfold mkR Rul.er;rw[hb];rfl
 ·rw[if_neg hb];simp only[Xt nk ok,Hc nk ao,if_true];rw[Jh (by decide) (by simpa using hb) fun x hx=>?_,PE nk ab]
  ·rfl
  ·obtain⟨y,hy,rfl⟩:=AfE.1 hx;exact IT nk (ab y hy) (by decide) (by decide) (by decide) (by decide)
theorem Vx:OL l (A0 l r.head++(E9 l r++Dq l r.body.xs))=r.er:=by
 have ao:=Bc ok.preds ok.head;have ab:=fun x hx=>Bc ok.preds (ok.body x hx);unfold OL;rw[PJ nk ok];by_cases hb:r.body.xs=[]
 ·rw[if_pos hb];simp only[Xu nk ok,He nk ao,Afy,if_false];unfold mkR Rul.er;rw[hb];rfl
 ·rw[if_neg hb];simp only[Xu nk ok,He nk ao,if_true];rw[PG nk hb ab ?_]
  ·rfl
  ·have:=ok.len;unfold Dq;rw[if_neg hb];simp;omega
theorem Vy(p:List Rul):Fa (l,p) (Dn l r)=some (l,p++[r.er]):=by
 unfold Fa Dn;rw[LO,if_neg (by simp),if_neg (by simp),G3,Vw nk ok];rfl
theorem SW(p:List Rul):Iw (l,p) (Dn l r)=(l,p++[r.er]):=by
 have ao:=Bc ok.preds ok.head;have hn:(32:UInt8)∉A0 l r.head:=JD nk ao (by decide) (by decide) (by decide);have hp:D8 (Dn l r)=false:=by
  unfold D8 Dn;by_cases hk:(Al l r.head.pred).kind≠0
  ·have e:(A0 l r.head++(E9 l r++Dq l r.body.xs))++[46]=A0 l r.head++([32]++(61::32::(Nk r++(dgL r.n.toNat++(Dq l r.body.xs++[46]))))):=by
    unfold E9;rw[if_pos hk];simp
   rw[e,U0 hn];simp
  ·have hv:E9 l r=[]:=by unfold E9;rw[if_neg hk]
   by_cases hb:r.body.xs=[]
   ·have e:(A0 l r.head++(E9 l r++Dq l r.body.xs))++[46]=A0 l r.head++[46]:=by
     unfold Dq;rw[hv,if_pos hb];simp
    rw[e,DU (Afl.2 rfl) (by simp only[Afu,not_or,Afl];exact⟨hn,by decide⟩)];simp
   ·have e:(A0 l r.head++(E9 l r++Dq l r.body.xs))++[46]=A0 l r.head++([32]++(58::45::32::(joinT [44,32] (r.body.xs.map (Gn l))++[46]))):=by
     unfold Dq;rw[hv,if_neg hb];simp
    rw[e,U0 hn];simp
 have ht:(Dn l r).take ((Dn l r).length-1)=A0 l r.head++(E9 l r++Dq l r.body.xs):=by
  have ha:∀X:Bs,(X++[46]).take ((X++[46]).length-1)=X:=fun X=>by simp
  exact ha _
 unfold Iw;rw[hp,if_neg (by simp),ht,Vx nk ok]
theorem Vz:(10:UInt8)∉Dn l r:=by
 have ao:=Bc ok.preds ok.head;have ab:=fun x hx=>Bc ok.preds (ok.body x hx);unfold Dn;simp only[Afu,not_or,Afl];refine⟨⟨JD nk ao (by decide) (by decide) (by decide),PH ok (by decide) (by decide) (by decide) (by decide),?_⟩,by decide⟩;unfold Dq;split
 ·simp
 ·simp only[Afu,not_or];refine⟨by decide,IS (by decide) fun x hx=>?_⟩;obtain⟨y,hy,rfl⟩:=AfE.1 hx;exact IT nk (ab y hy) (by decide) (by decide) (by decide) (by decide)
end
section
variable {x:Prd}(hx:x∈l)(hf:AE x=true)
include nk hx hf
theorem VA:OJ (tx x.name++([32]++(dgL x.arity.toNat++([32]++dgL x.kind.toNat))))=some x:=by
 unfold AE at hf;obtain⟨a0,a2,d0,d3⟩:=of_decide_eq_true hf;have e:tx x.name++([32]++(dgL x.arity.toNat++([32]++dgL x.kind.toNat)))=joinT [32] [tx x.name,dgL x.arity.toNat,dgL x.kind.toNat]:=rfl;unfold OJ;rw[e,GD (by simp) fun y hy=>?_]
 ·simp only[M3 (show x.arity.toNat<100 by omega),M3 (show x.kind.toNat<100 by omega),M2];obtain⟨n,a,k⟩:=x;simp only[Option.some.injEq,Prd.mk.injEq,true_and];simp only at a0 d0;omega
 ·simp only[Afq,Af8,or_false] at hy;rcases hy with rfl|rfl|rfl
  ·exact nk.not hx (by decide)
  ·exact JF (by decide) (by omega)
  ·exact JF (by decide) (by omega)
theorem PK{c:UInt8}(h1:KZ c=false)(h2:Kw c=false)(h3:c≠32):c∉Eu x:=by
 unfold AE at hf;obtain⟨a0,a2,d0,d3⟩:=of_decide_eq_true hf;unfold Eu;simp only[Afu,not_or,Afl];refine⟨?_,nk.not hx h1,h3,JF h2 (by omega),h3,JF h2 (by omega)⟩;unfold predW;simp only[Afq,Af8,or_false,not_or];refine⟨?_,?_,?_,?_,h3⟩<;>(rintro rfl;cases h1)
theorem VB(p:List Prd):Fa (p,[]) (Eu x)=some (p++[x],[]):=by
 unfold Fa;rw[Zo (PK nk hx hf (by decide) (by decide) (by decide))];unfold Eu;rw[LP,if_pos ⟨rfl,rfl⟩,Ji,VA nk hx hf];rfl
theorem SX(p:List Prd):Iw (p,[]) (Eu x)=(p++[x],[]):=by
 have hc:Lib.cut (Eu x) [32]=([112,114,101,100],tx x.name++([32]++(dgL x.arity.toNat++([32]++dgL x.kind.toNat))),true):=U0 (a:=[112,114,101,100]) (by decide);obtain⟨h1,h2⟩:=nk.name x hx;have hn:(32:UInt8)∉tx x.name:=nk.not hx (by decide);unfold AE at hf;obtain⟨a0,a2,d0,d3⟩:=of_decide_eq_true hf;obtain⟨c,r,hcr⟩:∃c r,tx x.name=c::r:=by
  cases hh:tx x.name with
  |nil=>exact absurd hh h2
  |cons c r=>exact⟨c,r,rfl⟩
 have hcl:KZ c=true:=by rw[hcr] at h1;simp only[Ag5,Afn] at h1;exact h1.1
 have hp:D8 (Eu x)=true:=by
  unfold D8;rw[hc];simp only[hcr];have n1:c≠58:=by rintro rfl;cases hcl
  have n2:c≠61:=by rintro rfl;cases hcl
  simp[n1,n2]
 unfold Iw;rw[hp,if_pos rfl,hc];simp only;unfold XY;rw[U0 hn];simp only;rw[U0 (JF (by decide) (by omega))];simp only;rw[Jj (by omega),Jj (by omega),M2];obtain⟨n,a,k⟩:=x;simp only[Prod.mk.injEq,and_true,List.append_cancel_left_eq,List.cons.injEq,Prd.mk.injEq,true_and];simp only at a0 d0;omega
end
end
def linesS:Nat→Bs→List Bs
 |0,_=>[]
 |f+1,s=>if s=[] then [] else if 0≤Lib.index s [10] then s.take ((Lib.index s [10]).toNat+1)::linesS f (s.drop ((Lib.index s [10]).toNat+1)) else [s]
theorem JG:∀{l:List Bs} {f:Nat},(∀x∈l,(10:UInt8)∉x)→l.length≤f→linesS f (l.flatMap (·++[10]))=l.map (·++[10])
 |[],0,_,_=>rfl
 |[],f+1,_,_=>by simp[linesS]
 |_::_,0,_,h=>by simp at h
 |x::r,f+1,h,hl=>by
  have hi:Lib.index (x++([10]++r.flatMap (·++[10]))) [10]=x.length:=FU (k:=0) rfl (h x (by simp)) fun j hj=>by omega
  have e:(x::r).flatMap (·++[10])=x++([10]++r.flatMap (·++[10])):=by simp[AfK]
  rw[e,linesS,if_neg (by simp),hi,if_pos (by omega)];have e1:(x++([10]++r.flatMap (·++[10]))).take ((x.length:Int).toNat+1)=x++[10]:=by
   rw[Afs,Ahq];simp[AfW (Nat.le_succ x.length)]
  have e2:(x++([10]++r.flatMap (·++[10]))).drop ((x.length:Int).toNat+1)=r.flatMap (·++[10]):=by
   rw[Afs,Ahr];simp
  rw[e1,e2,JG (fun y hy=>h y (Ae8 _ hy)) (by simp at hl;omega)];rfl
theorem K5:∀{l:List Bs} {f:Nat} {p:St},(∀x∈l,(10:UInt8)∉x)→l.length≤f→readF (f+1) (l.flatMap (·++[10])) p=l.foldl Iw p
 |[],f,p,_,_=>by simp[readF]
 |_::_,0,_,_,h=>by simp at h
 |x::r,f+1,p,h,hl=>by
  have e:(x::r).flatMap (·++[10])=x++([10]++r.flatMap (·++[10])):=by simp[AfK]
  rw[e,readF,if_neg (by simp),U0 (h x (by simp))];simp only;rw[K5 (fun y hy=>h y (Ae8 _ hy)) (by simp at hl;omega)];rfl
theorem H1:∀{l:List Bs},l.length≤(l.flatMap (·++[10])).length
 |[]=>Afg _
 |x::r=>by
  have:=H1 (l:=r);simp only[AfK,Ae2,Ae6,Afc];omega
def Rg(s:Bs):Option St:=Fc ((linesS s.length s).map fun l=>Lib.trimSuffix l [10]) ([],[])
def OM(s:Bs):St:=readF (s.length+1) s ([],[])
section
variable {p:Prg}(h:Ac p=0)
include h
theorem Nr:∀x∈BI p,(10:UInt8)∉x:=fun x hx=>by
 have nk:=JE h;rcases Afu.1 hx with hx|hx
 ·obtain⟨y,hy,rfl⟩:=AfE.1 hx;exact PK nk hy (Cd h y hy) (by decide) (by decide) (by decide)
 ·obtain⟨y,hy,rfl⟩:=AfE.1 hx;exact Vz nk (BA h y hy)
theorem JH:∀{rs:List Rul},(∀r∈rs,r∈p.rules.xs)→∀d,Fc (rs.map (Dn p.preds.xs)) (p.preds.xs,d)=some (p.preds.xs,d++rs.map Rul.er)
 |[],_,d=>by simp[Fc]
 |r::rs,hr,d=>by
  simp only[AfQ,Fc];rw[Vy (JE h) (BA h r (hr r (by simp)))];simp only;rw[JH (fun x hx=>hr x (Ae8 _ hx))];simp
theorem JI:∀{qs:List Prd},(∀x∈qs,x∈p.preds.xs)→∀d t,Fc (qs.map Eu++t) (d,[])=Fc t (d++qs,[])
 |[],_,d,t=>by simp
 |x::qs,hq,d,t=>by
  simp only[AfQ,AfH,Fc];rw[VB (JE h) (hq x (by simp)) (Cd h x (hq x (by simp)))];simp only;rw[JI (fun y hy=>hq y (Ae8 _ hy))];simp
theorem PL:Rg (Cz p)=some (p.preds.xs,p.rules.xs.map Rul.er):=by
 unfold Rg Cz;rw[JG (Nr h) H1,AgJ];have e:(BI p).map ((fun l=>Lib.trimSuffix l [10]) ∘ fun x=>x++[10])=BI p:=by
  conv=>rhs;rw[←List.map_id (BI p)]
  refine AgM fun x _=>?_;simp[G3]
 rw[e];unfold BI;rw[JI h (fun _ hx=>hx),AfC,JH h (fun _ hx=>hx),AfC]
theorem JJ:∀{rs:List Rul},(∀r∈rs,r∈p.rules.xs)→∀d,(rs.map (Dn p.preds.xs)).foldl Iw (p.preds.xs,d)=(p.preds.xs,d++rs.map Rul.er)
 |[],_,d=>by simp
 |r::rs,hr,d=>by
  simp only[AfQ,Agk];rw[SW (JE h) (BA h r (hr r (by simp))),JJ (fun x hx=>hr x (Ae8 _ hx))];simp
theorem JK:∀{qs:List Prd},(∀x∈qs,x∈p.preds.xs)→∀d,(qs.map Eu).foldl Iw (d,[])=(d++qs,[])
 |[],_,d=>by simp
 |x::qs,hq,d=>by
  simp only[AfQ,Agk];rw[SX (JE h) (hq x (by simp)) (Cd h x (hq x (by simp))),JK (fun y hy=>hq y (Ae8 _ hy))];simp
theorem VC:OM (Cz p)=(p.preds.xs,p.rules.xs.map Rul.er):=by
 unfold OM Cz;rw[K5 (Nr h) H1];unfold BI;rw[Agq,JK h (fun _ hx=>hx),AfC,JJ h (fun _ hx=>hx),AfC]
end
end
section
open Go Go.RowKit Go.Proofs Go.Proofs.Tryz Go.Shelf
structure Iq(h:Ae):Prop where
 len:∃m,h.cell 0 0=some (.int .i64 m)
 syn:∃te pe,h.cell 2 0=some (.iface te pe)
 rng:∃te pe,h.cell 3 0=some (.iface te pe)
 tab:∃T f,h 1=some (.cells (Lib.pow10Tab.map fun z=>Value.int .u64 z).toArray T f)
theorem Iq.le{h h':Ae}(V:Iq h)(hl:h.le h'):Iq h':=
 ⟨V.len.imp fun _ e=>hl.cell e,V.syn.imp fun _ ⟨b,e⟩=>⟨b,hl.cell e⟩,V.rng.imp fun _ ⟨b,e⟩=>⟨b,hl.cell e⟩,V.tab.imp fun _ ⟨f,e⟩=>⟨f,hl _ _ e⟩⟩
abbrev mk(l:Bs):ByteArray:=⟨l.toArray⟩
@[reducible] def sEn(s:ByteArray):List Value:=[.string s]
abbrev AaT(l:Sl ByteArray)(h:Ae):Prop:=l.Is 1 sEn h
theorem Ext.of{B:Aq}(hB:B.ok){w:World}(g:CZ B.w w):Ext B w B.h:=(Ab2 hB).grow g
theorem CZ.drewN(w:World)(n:Nat):CZ w (w.drewN n):=⟨rfl,rfl,rfl,Afg _,fun _ _=>rfl⟩
theorem Ad1(w:World)(e:TypeId)(s:ByteArray):CZ w (Lib.bytesWorld w e s):=⟨rfl,rfl,rfl,by rw[Lib.bytesWorld_size];omega,fun j hj=>Lib.bytesWorld_at_old w e s j hj⟩
theorem H2{B:Aq}(hB:B.ok){b o:Nat}{v:Value}(h:B.h.cell b o=some v):B.w.cell? ⟨b,o,none⟩=some v:=(Ab2 hB).cell h
theorem Xv:∀n:Fin 100,Lib.decDigits n.val=dgL n.val:=by decide +kernel
theorem H3(sep:Bs):∀l:List Bs,Lib.join l sep=joinT sep l
 |[]=>by simp[Lib.join,joinT,List.intercalate]
 |[x]=>by simp[Lib.join,joinT,List.intercalate]
 |x::y::r=>by
  have ih:=H3 sep (y::r);unfold Lib.join List.intercalate at ih ⊢;rw[joinT,←ih];simp[List.intersperse]
section
variable (B:Aq)(hB:B.ok)
include hB
theorem SY(s p:ByteArray):Fn prog 69 [.string s,.string p] B (fun v _=>v=.tuple #[.string (mk (Lib.trimPrefix (tx s) (tx p))),.bool (Lib.hasPrefix (tx s) (tx p))]):=
 (strings_CutPrefix s p B.w).mono (by rintro x w ⟨rfl,rfl⟩;exact⟨_,_,rfl,Ext.of hB (CZ.refl _),rfl⟩)
theorem Ns(s p:ByteArray)(hs:s.size≤140737488355328):Fn prog 72 [.string s,.string p] B (fun v _=>v=.tuple #[.string (mk (Lib.trimSuffix (tx s) (tx p))),.bool (Lib.hasSuffix (tx s) (tx p))]):=
 (strings_CutSuffix s p B.w (by omega)).mono (by rintro x w ⟨rfl,rfl⟩;exact⟨_,_,rfl,Ext.of hB (CZ.refl _),rfl⟩)
theorem Nt(s p:ByteArray)(hs:s.size≤140737488355328):Fn prog 38 [.string s,.string p] B (fun v _=>v=.bool (Lib.hasSuffix (tx s) (tx p))):=
 (strings_HasSuffix s p B.w (by omega)).mono (by rintro x w ⟨rfl,rfl⟩;exact⟨_,_,rfl,Ext.of hB (CZ.refl _),rfl⟩)
theorem K6(s p:ByteArray)(hs:s.size≤140737488355328):Fn prog 31 [.string s,.string p] B (fun v _=>v=.string (mk (Lib.trimSuffix (tx s) (tx p)))):=
 (strings_TrimSuffix s p B.w (by omega)).mono (by rintro x w ⟨rfl,rfl⟩;exact⟨_,_,rfl,Ext.of hB (CZ.refl _),rfl⟩)
theorem SZ(V:Iq B.h)(s p:ByteArray)(hs:s.size<4294967281):Fn prog 73 [.string s,.string p] B (fun v _=>v=.tuple #[.string (mk (Lib.cut (tx s) (tx p)).1),.string (mk (Lib.cut (tx s) (tx p)).2.1),.bool (Lib.cut (tx s) (tx p)).2.2]):=by
 obtain⟨m,hm⟩:=V.len;exact(strings_Cut s p m B.w hs (H2 hB hm)).mono (by rintro x w ⟨rfl,n,rfl⟩;exact⟨_,_,rfl,Ext.of hB (CZ.drewN _ n),rfl⟩)
theorem VD(V:Iq B.h)(s p:ByteArray)(hs:s.size<4294967281):Fn prog 86 [.string s,.string p] B (fun v _=>v=.int .i64 (Lib.index (tx s) (tx p))):=by
 obtain⟨m,hm⟩:=V.len;exact(strings_Index s p m B.w hs (H2 hB hm)).mono (by rintro x w ⟨rfl,rfl⟩;exact⟨_,_,rfl,Ext.of hB (CZ.refl _),rfl⟩)
theorem L6(V:Iq B.h)(s p:ByteArray)(hs:s.size<4294967281)(hp:1≤p.size):Fn prog 70 [.string s,.string p] B (fun v h=>∃l:Sl ByteArray,v=l.val∧AaT l h∧l.xs.map tx=Lib.split (tx s) (tx p)):=by
 obtain⟨m,hm⟩:=V.len;refine(strings_Split s p m B.w hs (H2 hB hm) hp).mono ?_;rintro x w ⟨rfl,rfl⟩;have hlen:=Lib.splitB_all p hp 0 _ s rfl;have hle:=Lib.countB_le p hp s.size s (Afg _);obtain⟨l,hl⟩:∃l,l=Lib.splitB p 0 (Lib.countB s p) s:=⟨_,rfl⟩;rw[←hl] at hlen ⊢;obtain⟨h',gl,he,I⟩:=((Ab2 hB).alloc (l.map Value.string) 9).settle;have hb:=he B.w.heap.size (by simp[box]);rw[World.alloc_heap_new] at hb;refine⟨_,h',rfl,I,⟨some ⟨B.w.heap.size,0,none⟩,Lib.countB s p+1,l⟩,by rw[Sl.val,hlen],⟨fun i y hy=>⟨rfl,fun j v hj=>?_⟩,by dsimp only;omega⟩,?_⟩
 ·have:j=0∧v=.string y:=by
   cases j with
   |zero=>simpa[sEn] using hj.symm
   |succ j=>simp[sEn] at hj
  obtain⟨rfl,rfl⟩:=this;unfold Ae.cell;simp only[Sl.blk,Sl.off,Aga,hb];simpa using hy
 ·dsimp only;rw[hl,Lib.splitB_data];rfl
theorem Nu(s:ByteArray)(c:UInt8):Fn prog 37 [.string s,.string ⟨#[c]⟩] B (fun v _=>v=.int .i64 ((tx s).count c)):=
 (strings_Count_one s c B.w).mono (by rintro x w ⟨rfl,rfl⟩;exact⟨_,_,rfl,Ext.of hB (CZ.refl _),rfl⟩)
theorem Rh(s:ByteArray)(c:Int):Fn prog 68 [.string s,.int .u8 c] B (fun v _=>v=.int .i64 (Lib.indexByte (tx s) c.toNat.toUInt8)):=
 (strings_IndexByte s c B.w).mono (by rintro x w ⟨rfl,rfl⟩;exact⟨_,_,rfl,Ext.of hB (CZ.refl _),rfl⟩)
theorem GL(n:Nat)(hn:n<100):Fn prog 24 [.int .i64 n] B (fun v _=>v=.string (mk (dgL n))):=by
 have:=Xv ⟨n,hn⟩;simp only at this;rw[←this];exact(strconv_Itoa_small n hn B.w).mono (by rintro x w ⟨rfl,rfl⟩;exact⟨_,_,rfl,Ext.of hB (CZ.refl _),rfl⟩)
theorem L7(V:Iq B.h)(s:ByteArray)(hs:s.size≤140737488355328):Fn prog 127 [.string s] B (fun v _=>(∃n,Du (tx s)=some n∧v=.tuple #[.int .i64 n,.nilIface])∨(Du (tx s)=none∧∃n te pe,v=.tuple #[.int .i64 n,.iface te pe])):=by
 obtain⟨t1,p1,h1⟩:=V.syn;obtain⟨t2,p2,h2⟩:=V.rng;obtain⟨ee,hee⟩:∃ee,Lib.atoiAll (tx s)=ee:=⟨_,rfl⟩;rcases ee with v|_|_
 ·have he:=hee;refine(strconv_Atoi_ok s (by omega) v he B.w).mono ?_;rintro x w ⟨rfl,hw⟩;refine⟨_,_,rfl,Ext.of hB ?_,.inl ⟨v,by unfold Du;rw[he],rfl⟩⟩;rcases hw with rfl|⟨t,rfl⟩
  ·exact CZ.refl _
  ·exact Ad1 _ _ _
 ·have he:=hee;refine(Any.strconv_Atoi_syntax laysC172 s (by omega) he _ B.w (H2 hB h1) (.inr ⟨_,_,rfl⟩)).mono ?_;rintro x w ⟨N,rfl,_,_,hw⟩;exact⟨_,_,rfl,Ext.of hB hw,.inr ⟨by unfold Du;rw[he],_,_,_,rfl⟩⟩
 ·have he:=hee;refine(strconv_Atoi_range s (by omega) he _ B.w (H2 hB h2) (.inr ⟨_,_,rfl⟩)).mono ?_;rintro x w ⟨N,rfl,_,_,hw⟩;exact⟨_,_,rfl,Ext.of hB hw,.inr ⟨by unfold Du;rw[he],_,_,_,rfl⟩⟩
theorem IU(l:Sl ByteArray)(hl:AaT l B.h)(hc:l.xs.length≤l.cap)(p:ByteArray)(hlen:(joinT (tx p) (l.xs.map tx)).length≤140737488355328):Fn prog 26 [l.val,.string p] B (fun v _=>v=.string (mk (joinT (tx p) (l.xs.map tx)))):=by
 cases hx:l.xs with
 |nil=>
  have:=strings_Join_none l.at_ l.cap p B.w;unfold Sl.val;rw[hx];exact this.mono (by rintro x w ⟨rfl,rfl⟩;exact⟨_,_,rfl,Ext.of hB (CZ.refl _),rfl⟩)
 |cons y r=>
  obtain⟨ha,hr⟩:=hl.el 0 y (by rw[hx];rfl);have hcell:∀j x,l.xs[j]?=some x→B.w.cell? ⟨l.blk,l.off+j,none⟩=some (.string x):=fun j x hj=>by
   have:=(hl.el j x hj).2 0 (.string x) rfl;exact H2 hB (by simpa using this)
  have hblk:l.blk<B.w.heap.size:=World.block_lt_of_cell? B.w ⟨l.blk,l.off+0,none⟩ (hcell 0 y (by rw[hx];rfl));have:=strings_Join l.blk l.off l.cap l.xs p B.w hcell hblk hl.small hc (by rw[H3];exact hlen);rw[H3] at this;unfold Sl.val;rw[ha,←hx];exact this.mono (by rintro x w ⟨rfl,hw⟩;exact⟨_,_,rfl,Ext.of hB hw,rfl⟩)
end
end
section
structure ApS where
 h:Ae
 o7:Option (Nat×Nat)
def pcA(T k n m:Nat)(v:Value)(xs x:List Value)(o7:Option (Nat×Nat)):SA:=match o7 with
 |none=>Ao T k v n xs
 |some y=>Ao T k (.slice (some ⟨y.1,0,none⟩) (n+m) y.2) (n+m) (xs++x)
structure JAp(B:Aq)(M:List SA)(T k n m:Nat)(v:Value)(xs x:List Value)(i7:Nat)(D:Nat→Bool)(s:ApS)(w:World):Prop where
 h7:s.o7.isSome=D i7
 inv:Inv B s.h (pcA T k n m v xs x s.o7::M) w
structure RAp(s s':ApS):Prop where
 h:s.h.le s'.h
 h7:∀y,s.o7=some y→s'.o7=some y
theorem RAp.pre:Pre RAp:=⟨fun _=>⟨Ae.le.refl _,fun _ h=>h⟩,fun _ _ _ h k=>⟨h.h.trans k.h,fun y e=>k.h7 y (h.h7 y e)⟩⟩
def ON(N:Nat)(u:Value)(s:ApS):Prop:=∃g c,u=.slice (some ⟨g,0,none⟩) N c∧s.o7=some (g,c)
theorem ON.mono{N:Nat}:Cj RAp (ON N):=fun _ _ _ r ⟨g,c,h1,h2⟩=>⟨g,c,h1,r.h7 _ h2⟩
def KnA(Φ:Sp)(u:Value)(s:ApS):Prop:=Φ u s.h
theorem KnA.mono{Φ:Sp}(hm:Bt Φ):Cj RAp (KnA Φ):=fun _ _ _ r h=>hm _ _ _ r.h h
section
variable {P:Program}{o:Oper}{e:Env}{B:Aq}{M:List SA}{T k n m:Nat}{v:Value}{xs x:List Value}{i7 i:Nat}{D:Nat→Bool}{s:ApS}{w:World}
theorem JAp.base(j:JAp B M T k n m v xs x i7 D s w):Inv B s.h M w:=j.inv.drop
theorem JAp.set(h:i7≠i):∀D s w,JAp B M T k n m v xs x i7 D s w→JAp B M T k n m v xs x i7 (AZ D i) s w:=fun D s w j=>⟨by rw[show AZ D i i7=D i7 by simp[AZ,h]];exact j.h7,j.inv⟩
theorem JAp.know{Φ:Sp}(j:JAp B M T k n m v xs x i7 D s w)(h:i7≠i)(hop:∀N,Inv B s.h N w→Op1 P o e w fun u w'=>∃h',s.h.le h'∧Inv B h' N w'∧Φ u h') :
  Op1 P o e w fun u w'=>∃s',RAp s s'∧JAp B M T k n m v xs x i7 (AZ D i) s' w'∧KnA Φ u s':=
 (hop _ j.inv).mono fun u w' ⟨h',hl,I,hu⟩=>⟨⟨h',s.o7⟩,⟨hl,fun _ e=>e⟩,⟨by rw[show AZ D i i7=D i7 by simp[AZ,h]];exact j.h7,I⟩,hu⟩
theorem JAp.app(j:JAp B M T k n m v xs x i7 D s w)(hD:D i7=false)(hop:Inv B s.h (Ao T k v n xs::M) w→Op1 P o e w fun u w'=>∃g c,u=.slice (some ⟨g,0,none⟩) (n+m) c∧Inv B s.h (Ao T k (.slice (some ⟨g,0,none⟩) (n+m) c) (n+m) (xs++x)::M) w') :
  Op1 P o e w fun u w'=>∃s',RAp s s'∧JAp B M T k n m v xs x i7 (AZ D i7) s' w'∧ON (n+m) u s':=by
 have h7:s.o7=none:=by have:=j.h7;rw[hD] at this;cases h:s.o7<;>simp_all
 have I:=j.inv;rw[h7] at I;exact(hop I).mono fun u w' ⟨g,c,e,I⟩=>⟨⟨s.h,some (g,c)⟩,⟨Ae.le.refl _,fun y e=>(by rw[h7] at e;cases e)⟩,⟨by simp[AZ],I⟩,g,c,e,rfl⟩
end
def EqV(v0:Value):Sp:=fun v _=>v=v0
theorem EqV.mono{v0:Value}:Bt (EqV v0):=fun _ _ _ _ h=>h
abbrev K7(Φ:Sp):=KnA Φ
theorem K7.mono{Φ:Sp}(hm:Bt Φ):Cj RAp (K7 Φ):=KnA.mono hm
end
section
section
variable {P:Program}{e:Env}{w:World}{t:TypeId}{pos:String}{af:Array Edge}{g:Option (Nat×Bool)}{d:Option Nat}
theorem AeE{x:Operand}{T T':TypeId}(hT:P.underlying T=some (.interface (P.methodsAt T)))(hx:ev e x=.nilIface):Y P ⟨d,.binOp .eql T x (.const .nilIface) T',t,pos,af,g⟩ e w (.bool true):=by
 have hy:ev e (.const .nilIface)=.nilIface:=rfl;simp only[Y,execOp,hx,hy,eqGuard_nil_constR];simp[run_eql_nil_nil w T hT]
theorem AeF{x:Operand}{T T' te:TypeId}{pe:Value}(hT:P.underlying T=some (.interface (P.methodsAt T)))(hx:ev e x=.iface te pe):Y P ⟨d,.binOp .eql T x (.const .nilIface) T',t,pos,af,g⟩ e w (.bool false):=by
 have hy:ev e (.const .nilIface)=.nilIface:=rfl;simp[Y,execOp,hx,hy,eqGuard,run_eql_held_nil w T te pe hT]
theorem Ado{x:Operand}{T T':TypeId}(hT:P.underlying T=some (.interface (P.methodsAt T)))(hx:ev e x=.nilIface):Y P ⟨d,.binOp .neq T x (.const .nilIface) T',t,pos,af,g⟩ e w (.bool false):=by
 have hy:ev e (.const .nilIface)=.nilIface:=rfl;simp only[Y,execOp,hx,hy,eqGuard_nil_constR];simp[run_neq_nil_nil w T hT]
theorem AeG{x:Operand}{T T' te:TypeId}{pe:Value}(hT:P.underlying T=some (.interface (P.methodsAt T)))(hx:ev e x=.iface te pe):Y P ⟨d,.binOp .neq T x (.const .nilIface) T',t,pos,af,g⟩ e w (.bool true):=by
 have hy:ev e (.const .nilIface)=.nilIface:=rfl;simp[Y,execOp,hx,hy,eqGuard,run_neq_held_nil w T te pe hT]
theorem AeS{x:Operand}{S T:TypeId}{k:IntKind}{n:Nat}(hS:(P.underlying S).isSome=true)(hT:Und P T .string)(hx:ev e x=.int k (n:Int))(hn:n<128):Y P ⟨d,.convert S T x,t,pos,af,g⟩ e w (.string ⟨#[UInt8.ofNat n]⟩):=by
 have h1:Utf8.encode (n:Int)=⟨#[UInt8.ofNat n]⟩:=by
  have hv:Utf8.valid (n:Int)=true:=by simp[Utf8.valid];omega
  unfold Utf8.encode;rw[hv];simp[hn]
 simp[Y,execOp,hx,run_convert_int_string w S T k n hS hT,h1]
theorem O.panic{X:PX}{x:Operand}{T:TypeId}{v:Value}{K:Value→World→Prop}(hx:ev e x=.iface T v)(k:X [{v:=.iface T v,recovered:=false}] w):DN P X ⟨d,.panic x,t,pos,af,g⟩ e w K:=by
 have:(execOp (ev e) ⟨d,.panic x,t,pos,af,g⟩).run P w=.halt (.panic (.iface T v)) w:=by
  simp[execOp,hx,Instr.panic]
 unfold DN;rw[this];exact k
end
theorem ZF{n:Int}(h0:0≤n)(h1:n<2147483648):IntKind.i32.wrap n=n:=by
 have h64:IntKind.i32.bits=32:=rfl;have hs:IntKind.i32.signed=true:=rfl;unfold IntKind.wrap;simp only[h64,hs,AgY,Nat.add_one_sub_one];simp only[show(2 ^ 32:Int)=4294967296 from rfl,show(2 ^ (32-1):Int)=2147483648 from rfl,ge_iff_le,decide_eq_true_eq];split<;>omega
theorem JAp.knowP{P:Program}{X:PX}{o:Oper}{e:Env}{B:Aq}{M:List SA}{T k n m:Nat}{v:Value}{xs x:List Value}{i7 i:Nat}{D:Nat→Bool}{s:ApS}{w:World}{Φ:Sp}(j:JAp B M T k n m v xs x i7 D s w)(h:i7≠i)(hop:∀N,N=pcA T k n m v xs x s.o7::M→Inv B s.h N w→DN P X o e w fun u w'=>∃h',s.h.le h'∧Inv B h' N w'∧Φ u h') :
  DN P X o e w fun u w'=>∃s',RAp s s'∧JAp B M T k n m v xs x i7 (AZ D i) s' w'∧KnA Φ u s':=
 (hop _ rfl j.inv).mono fun u w' ⟨h',hl,I,hu⟩=>⟨⟨h',s.o7⟩,⟨hl,fun _ e=>e⟩,⟨by rw[show AZ D i i7=D i7 by simp[AZ,h]];exact j.h7,I⟩,hu⟩
theorem Acb{P:Program}{X:PX}{e:Env}{w:World}{B:Aq}{h:Ae}{M:List SA}{t:TypeId}{pos:String}{af:Array Edge}{g:Option (Nat×Bool)}{C:List PanicEntry}{d:Option Nat}{f:FuncId}{args:Array Operand}{ts:Array TypeId}{vs:List Value}{Pan:Prop}{Post:Value→Ae→Prop}{K:Value→World→Prop}(I:Inv B h M w)(hf:BE P f)(hfn:FnP P f vs ⟨w,h⟩ C Pan Post)
  (ha:args.toList.map (ev e)=vs) (kx:∀w',CZ w w'→Pan→X C w') (k:∀v h' w',Inv B h' M w'→h.le h'→Post v h'→K v w'):DN P X ⟨d,.call {callee:=.value (.func f),args:=args,argTypes:=ts},t,pos,af,g⟩ e w K:=by
 have ha':args.map (ev e)=vs.toArray:=by rw[←ha];apply Array.ext';simp
 have:(execOp (ev e) ⟨d,.call {callee:=.value (.func f),args:=args,argTypes:=ts},t,pos,af,g⟩).run P w=.ok (.enter f vs.toArray) w:=by
  simp[execOp,resolve,ev,Deferred.ofValue,invoke,ha',hf]
 unfold DN;rw[this];refine Calls.mono hfn ?_;rintro x w' (⟨v,h',rfl,X,hp⟩|⟨ch,rfl,rfl,h2,h3⟩)
 ·exact k v h' w' (I.called X) X.ext hp
 ·exact kx w' h2 h3
theorem AeH{P:Program}{X:PX}{e:Env}{w:World}{t:TypeId}{pos:String}{af:Array Edge}{g:Option (Nat×Bool)}{d:Option Nat}{K:Value→World→Prop}{f:FuncId}{args:Array Operand}{ts:Array TypeId}{vs:List Value}{R:Ending→World→Prop}(hf:BE P f)(hc:Calls P f vs.toArray w R)
  (ha:args.toList.map (ev e)=vs) (k:∀ed w',R ed w'→(∃v,ed=.returned v∧K v w')∨∃ch,ed=.panicked ch∧X ch w'):DN P X ⟨d,.call {callee:=.value (.func f),args:=args,argTypes:=ts},t,pos,af,g⟩ e w K:=by
 have ha':args.map (ev e)=vs.toArray:=by rw[←ha];apply Array.ext';simp
 have:(execOp (ev e) ⟨d,.call {callee:=.value (.func f),args:=args,argTypes:=ts},t,pos,af,g⟩).run P w=.ok (.enter f vs.toArray) w:=by
  simp[execOp,resolve,ev,Deferred.ofValue,invoke,ha',hf]
 unfold DN;rw[this];refine Calls.mono hc ?_;rintro ed w' h;rcases k ed w' h with ⟨v,rfl,hk⟩|⟨ch,rfl,hk⟩
 ·exact hk
 ·exact hk
def Xw(P:Program)(fn:Func)(R:Ending→World→Prop):Exit→Env→World→Prop
 |.ret,e,w|.normal,e,w=>∃vs,RV P e w fn.results.toList vs∧R (.returned (tup vs)) w
 |.panic ch,_,w=>R (.panicked ch) w
 |_,_,_=>False
theorem Ady{P:Program}{f:FuncId}{fn:Func}{c:Code}{N:Nat}{args:List Value}{w:World}{R:Ending→World→Prop}(hf:P.funcs[f]?=some fn)(hb:fn.body=some c)(hN:fn.ntmps=N)(hs:AS N c=true)
  (hl:args.length≤N) (h:∀e,WP P N [] c (E e (Ky 0 args)) w (Xw P fn R)):Calls P f args.toArray w R:=by
 refine calls_of_wp hf hb ?_;subst hN;refine wp_mono (h _ hs {tmps:=args.toArray++Array.replicate (fn.ntmps-args.toArray.size) undef,defers:=[]} (by simp;omega) rfl (C9 (DQ args 0 fun j v hv=>?_)).symm) ?_
 ·have hj:=(Ae9.1 hv).1;have hg:args[j]=v:=(Ae9.1 hv).2;simp[env,Afp,Age,hj,hg]
 ·rintro x a' w' ⟨_,g2,g3⟩;cases x<;>simp only[Xw] at g3<;>first|exact g3.elim|skip
  ·obtain⟨vs,hv,hr⟩:=g3;exact⟨g2,_,A9 rfl hv,hr⟩
  ·obtain⟨vs,hv,hr⟩:=g3;exact⟨g2,_,A9 rfl hv,hr⟩
  ·exact⟨g2,g3⟩
theorem Di.keep{α β:Type}{el k el2 k2:Nat}{s:Sl α}{u:Sl β}{enc:α→List Value}{enc2:β→List Value}{h0 h1 h h':Ae}(o:Di el k s enc h1 h)(ou:Di el2 k2 u enc2 h0 h1)(kp:∀b x,h b=some x→h' b=some x∨u.at_=some ⟨b,0,none⟩):Di el k s enc h1 h':=by
 rcases o with o|⟨g,cur,q1,q2,q3,q4⟩
 ·exact .inl o
 ·refine .inr ⟨g,cur,q1,q2,?_,q4⟩;rcases kp g _ q3 with h3|h3
  ·exact h3
  ·exfalso;rcases ou with rfl|⟨g2,cur2,r1,_,r3,_⟩
   ·simp at h3
   ·rw[r1] at h3;injection h3 with h3;injection h3 with h3;subst h3;rw[r3] at q2;cases q2
theorem FC{w:World}{T k n c:Nat}{a:Option Addr}{xs:List Value}(h:w.ownsRow 0 T k (.slice a n c) n xs):n≤c:=by
 rcases h.2 with ⟨h1,h2⟩|⟨g,cap,cur,hv,_,_,hnc,_⟩
 ·omega
 ·injection hv with _ _ h3;omega
end
section
set_option maxRecDepth 10000
def Ex{α:Type}(P:Program)(f:FuncId)(fs cs:List Value)(h:Ae)(val:α→Value)(xs:List α)(p:α→Bool):Prop:=
 ∀B':Aq,B'.ok→h.le B'.h→∀x∈xs,Fn P f (fs++[val x]++cs) B' (fun v _=>v=.bool (p x))
def Hg{α:Type}(p:α→Bool)(xs:List α):Int:=match xs.findIdx? p with|some i=>(i:Int)|none=>-1
theorem F1{α:Type}{p:α→Bool}{xs:List α}(h:∀x∈xs,p x=false):Hg p xs=-1:=by
 have:xs.findIdx? p=none:=by rw[Ag2];intro x hx;simpa using h x hx
 simp[Hg,this]
theorem F2{α:Type}{p:α→Bool}{xs:List α}{k:Nat}(hk:k<xs.length)(h:∀j (hj:j<k),p (xs[j]'(by omega))=false)(hp:p xs[k]=true):Hg p xs=k:=by
 have:xs.findIdx? p=some k:=by
  rw[Agn];exact⟨hk,hp,fun j hj=>by simp[h j hj]⟩
 simp[Hg,this]
theorem JL{α:Type}(p:α→Bool)(xs:List α):decide (0≤Hg p xs)=xs.any p:=by
 unfold Hg;cases h:xs.findIdx? p with
 |none=>
  rw[Ag2] at h;have:xs.any p=false:=by rw[Agb];intro x hx;simp[h x hx]
  simp[this]
 |some i=>
  rw[Agn] at h;obtain⟨hi,hp,_⟩:=h;have:xs.any p=true:=AfG.2 ⟨_,Ae5 hi,hp⟩;simp[this]
theorem JM(B:Aq)(hB:B.ok)(l:Sl Trm)(hl:l.Is 2 Trm.enc B.h)(f:FuncId)(ent:BE prog f)(fs cs:List Value)(p:Trm→Bool)(hp:Ex prog f fs cs B.h Trm.val l.xs p) :
  Fn prog 226 [l.val,.func (.func f) fs.toArray cs.toArray] B (fun v _=>v=.int .i64 (Hg p l.xs)):=by
 refine Fo hB func226 rfl ntmps226 fun e I=>Sr<|Ai Ag<|Abh<|Abi<|Sr<|As0 Mv<|Ai (AbA Aid rfl)<|Ai Mv<|Abh<|WP.block ?_;refine Abx (σ:=Nat) (fun k=>[(0,l.val),(1,.func (.func f) fs.toArray cs.toArray),(7,.int .i64 l.xs.length),(8,.int .i64 k)]) (fun k w=>Inv B B.h [] w∧k≤l.xs.length∧∀j (hj:j<k) (hj':j<l.xs.length),p l.xs[j]=false) (fun k=>l.xs.length-k)
  ⟨0,⟨rfl,rfl,rfl,rfl,trivial⟩,I,Afa _,fun j hj=>(by omega)⟩ ?_
 rintro k e w ⟨I,hk,hn⟩;have hsm:=hl.small;refine Sr<|Ad (AbC rfl rfl)<|Abh<|Abi ?_;refine Abl rfl (fun h=>?_) (fun h=>?_)
 ·have hk':k<l.xs.length:=by omega
  have E1:=hl.at hk';refine Abk<|Abi<|WP.block<|Sr<|Ai Mv<|Ai Ag<|Abh<|Sr<|Af Mv<|As0 Mv<|Ai Mv<|Ap (Ix E1 Aid Aik rfl rfl)<|Ax (Abn BZ rfl (I.rd (E1.rd.part 0 2)) rfl rfl)<|Abj (Acd I ent rfl (hp ⟨w,B.h⟩ I.j6 (Ae.le.refl _) l.xs[k] (Ae5 hk')) rfl fun w I=>Abh ?_);refine AbG rfl (fun hb=>?_) (fun hb=>?_)
  ·refine Sr<|Ai Mv<|Ai Ag<|Abh<|Wr ?_;exact Rm (v:=.int .i64 _) rfl rfl I (by simp only[tup];rw[F2 hk' (fun j hj=>hn j hj (by omega)) hb])
  refine Abk<|Abg<|Ai (Dd rfl rfl)<|Ai Mv<|Abh ?_;exact⟨k+1,⟨⟨rfl,rfl,rfl,rfl,trivial⟩,I,by omega,fun j hj hj'=>by
   rcases Afd.1 hj with h'|h'
   ·exact hn j h' hj'
   ·subst h';exact hb⟩,by omega⟩
 refine Abz<|Sr<|Ai Ag<|Abh<|Wr ?_;exact Rm (v:=.int .i64 _) rfl rfl I (by simp only[tup];rw[F1];intro x hx;obtain⟨j,hj,rfl⟩:=Afz hx;exact hn j (by omega) hj)
theorem Hh(B:Aq)(hB:B.ok)(l:Sl Trm)(hl:l.Is 2 Trm.enc B.h)(f:FuncId)(ent:BE prog f)(fs cs:List Value)(p:Trm→Bool)(hp:Ex prog f fs cs B.h Trm.val l.xs p) :
  Fn prog 199 [l.val,.func (.func f) fs.toArray cs.toArray] B (fun v _=>v=.bool (l.xs.any p)):=by
 refine Fo hB func199 rfl ntmps199 fun e I=>Sr<|Ab Ag<|Abh<|Sr<|As0 Mv<|Af Mv<|Abj (Abm I call226 (JM _ I.j6 l hl f ent fs cs p hp) rfl fun w I=>Ad (AbZ rfl rfl)<|Ab Ag<|Abh<|Wr ?_);exact Rm (v:=.bool _) rfl rfl I (by simp only[tup];rw[JL])
theorem FD(B:Aq)(hB:B.ok)(l:Sl Prd)(hl:l.Is 3 Prd.enc B.h)(f:FuncId)(ent:BE prog f)(fs cs:List Value)(p:Prd→Bool)(hp:Ex prog f fs cs B.h Prd.val l.xs p) :
  Fn prog 114 [l.val,.func (.func f) fs.toArray cs.toArray] B (fun v _=>v=.int .i64 (Hg p l.xs)):=by
 refine Fo hB func114 rfl ntmps114 fun e I=>Sr<|Ai Ag<|Abh<|Abi<|Sr<|As0 Mv<|Ai (AbA Aia rfl)<|Ai Mv<|Abh<|WP.block ?_;refine Abx (σ:=Nat) (fun k=>[(0,l.val),(1,.func (.func f) fs.toArray cs.toArray),(7,.int .i64 l.xs.length),(8,.int .i64 k)]) (fun k w=>Inv B B.h [] w∧k≤l.xs.length∧∀j (hj:j<k) (hj':j<l.xs.length),p l.xs[j]=false) (fun k=>l.xs.length-k)
  ⟨0,⟨rfl,rfl,rfl,rfl,trivial⟩,I,Afa _,fun j hj=>(by omega)⟩ ?_
 rintro k e w ⟨I,hk,hn⟩;have hsm:=hl.small;refine Sr<|Ad (AbC rfl rfl)<|Abh<|Abi ?_;refine Abl rfl (fun h=>?_) (fun h=>?_)
 ·have hk':k<l.xs.length:=by omega
  have E1:=hl.at hk';refine Abk<|Abi<|WP.block<|Sr<|Ai Mv<|Ai Ag<|Abh<|Sr<|Af Mv<|As0 Mv<|Ai Mv<|Ap (Ix E1 Aia Aim rfl rfl)<|Ay (Abn KA rfl (I.rd (E1.rd.part 0 3)) rfl rfl)<|Abj (Acd I ent rfl (hp ⟨w,B.h⟩ I.j6 (Ae.le.refl _) l.xs[k] (Ae5 hk')) rfl fun w I=>Abh ?_);refine AbG rfl (fun hb=>?_) (fun hb=>?_)
  ·refine Sr<|Ai Mv<|Ai Ag<|Abh<|Wr ?_;exact Rm (v:=.int .i64 _) rfl rfl I (by simp only[tup];rw[F2 hk' (fun j hj=>hn j hj (by omega)) hb])
  refine Abk<|Abg<|Ai (Dd rfl rfl)<|Ai Mv<|Abh ?_;exact⟨k+1,⟨⟨rfl,rfl,rfl,rfl,trivial⟩,I,by omega,fun j hj hj'=>by
   rcases Afd.1 hj with h'|h'
   ·exact hn j h' hj'
   ·subst h';exact hb⟩,by omega⟩
 refine Abz<|Sr<|Ai Ag<|Abh<|Wr ?_;exact Rm (v:=.int .i64 _) rfl rfl I (by simp only[tup];rw[F1];intro x hx;obtain⟨j,hj,rfl⟩:=Afz hx;exact hn j (by omega) hj)
theorem DY(B:Aq)(hB:B.ok)(l:Sl Prd)(hl:l.Is 3 Prd.enc B.h)(f:FuncId)(ent:BE prog f)(fs cs:List Value)(p:Prd→Bool)(hp:Ex prog f fs cs B.h Prd.val l.xs p) :
  Fn prog 55 [l.val,.func (.func f) fs.toArray cs.toArray] B (fun v _=>v=.bool (l.xs.any p)):=by
 refine Fo hB func55 rfl ntmps55 fun e I=>Sr<|Ab Ag<|Abh<|Sr<|As0 Mv<|Af Mv<|Abj (Abm I call114 (FD _ I.j6 l hl f ent fs cs p hp) rfl fun w I=>Ad (AbZ rfl rfl)<|Ab Ag<|Abh<|Wr ?_);exact Rm (v:=.bool _) rfl rfl I (by simp only[tup];rw[JL])
theorem JN(B:Aq)(hB:B.ok)(l:Sl Fct)(hl:l.Is 4 Fct.enc B.h)(f:FuncId)(ent:BE prog f)(fs cs:List Value)(p:Fct→Bool)(hp:Ex prog f fs cs B.h Fct.val l.xs p) :
  Fn prog 184 [l.val,.func (.func f) fs.toArray cs.toArray] B (fun v _=>v=.int .i64 (Hg p l.xs)):=by
 refine Fo hB func184 rfl ntmps184 fun e I=>Sr<|Ai Ag<|Abh<|Abi<|Sr<|As0 Mv<|Ai (AbA Ah8 rfl)<|Ai Mv<|Abh<|WP.block ?_;refine Abx (σ:=Nat) (fun k=>[(0,l.val),(1,.func (.func f) fs.toArray cs.toArray),(7,.int .i64 l.xs.length),(8,.int .i64 k)]) (fun k w=>Inv B B.h [] w∧k≤l.xs.length∧∀j (hj:j<k) (hj':j<l.xs.length),p l.xs[j]=false) (fun k=>l.xs.length-k)
  ⟨0,⟨rfl,rfl,rfl,rfl,trivial⟩,I,Afa _,fun j hj=>(by omega)⟩ ?_
 rintro k e w ⟨I,hk,hn⟩;have hsm:=hl.small;refine Sr<|Ad (AbC rfl rfl)<|Abh<|Abi ?_;refine Abl rfl (fun h=>?_) (fun h=>?_)
 ·have hk':k<l.xs.length:=by omega
  have E1:=hl.at hk';refine Abk<|Abi<|WP.block<|Sr<|Ai Mv<|Ai Ag<|Abh<|Sr<|Af Mv<|As0 Mv<|Ai Mv<|Ap (Ix E1 Ah8 Aih rfl rfl)<|Az (Abn AH rfl (I.rd (E1.rd.part 0 4)) rfl rfl)<|Abj (Acd I ent rfl (hp ⟨w,B.h⟩ I.j6 (Ae.le.refl _) l.xs[k] (Ae5 hk')) rfl fun w I=>Abh ?_);refine AbG rfl (fun hb=>?_) (fun hb=>?_)
  ·refine Sr<|Ai Mv<|Ai Ag<|Abh<|Wr ?_;exact Rm (v:=.int .i64 _) rfl rfl I (by simp only[tup];rw[F2 hk' (fun j hj=>hn j hj (by omega)) hb])
  refine Abk<|Abg<|Ai (Dd rfl rfl)<|Ai Mv<|Abh ?_;exact⟨k+1,⟨⟨rfl,rfl,rfl,rfl,trivial⟩,I,by omega,fun j hj hj'=>by
   rcases Afd.1 hj with h'|h'
   ·exact hn j h' hj'
   ·subst h';exact hb⟩,by omega⟩
 refine Abz<|Sr<|Ai Ag<|Abh<|Wr ?_;exact Rm (v:=.int .i64 _) rfl rfl I (by simp only[tup];rw[F1];intro x hx;obtain⟨j,hj,rfl⟩:=Afz hx;exact hn j (by omega) hj)
end
section
abbrev brk:List PanicEntry:=[{v:=.iface 119 (.agg #[]),recovered:=false}]
theorem Cf(B:Aq)(hB:B.ok)(b:Bool):FnP prog 32 [.bool b] B brk (b=false) (fun v _=>b=true∧v=.tuple #[]):=by
 refine FnP.of func32 rfl ntmps32 (by kernel_rfl) (by simp) fun e=>?_;have I:=Ab2 hB;refine Sr<|Ab Mv<|Ab (Y.not rfl)<|Abh ?_;refine AbG rfl (fun h=>?_) (fun h=>?_)
 ·refine Aca _ (fun _ _ _ h=>h)<|Ab5 (v:=.agg #[]) (Y.build Zv zeroValue119 rfl rfl)<|Ab5 (v:=.iface _ _) (AeN underlying119 (by intro ms h;cases h) rfl)<|Bd.p (O.panic rfl ?_);exact⟨rfl,I.below,by simpa using h⟩
 refine Abk ?_;exact U1.fin (vs:=[]) rfl trivial I.j5 ⟨by simpa using h,rfl⟩
theorem K8(B:Aq)(hB:B.ok)(V:Iq B.h)(s:ByteArray)(hs:s.size≤140737488355328):FnP prog 71 [.string s] B brk (Du (tx s)=none) (fun v _=>∃n,Du (tx s)=some n∧v=.int .i64 n):=by
 cases hn:Du (tx s) with
 |some n=>
  have ha:Fn prog 127 [.string s] B (fun v _=>v=.tuple #[.int .i64 n,.nilIface]):=(L7 B hB V s hs).mono fun v h' _ hv=>by
   rcases hv with ⟨m,h1,h2⟩|⟨h1,_⟩
   ·rw[hn] at h1;cases h1;exact h2
   ·rw[hn] at h1;cases h1
  refine FnP.of func71 rfl ntmps71 (by kernel_rfl) (by simp) fun e=>?_;have I:=Ab2 hB;refine Sr<|Ai Ag<|Abh<|Sr<|At0 Mv<|Abj (Abm I call127 (ha) rfl fun w I=>Au Mv<|Ai (Y.extract rfl rfl)<|AbB (v:=.nilIface) (Y.extract rfl rfl)<|Ai Ag<|AbB (v:=_) Ag<|Abh<|Abi<|Aca _ (fun _ _ _ h=>h)<|Ab5 (v:=_) Mv<|Ab5 (v:=.bool true) (AeE AiF rfl)<|Bd.p (Ac0 I call32 (Cf _ I.j6 true) rfl (fun h=>by cases h) ?_));rintro _ h w I hle ⟨_,rfl⟩;refine Acf<|Sr<|Ai Mv<|Ai Ag<|Abh<|Wr ?_;exact U1.mk (vs:=[.int .i64 _]) rfl ⟨rfl,trivial⟩ I.j5 (⟨n,rfl,rfl⟩)
 |none=>
  have ha:Fn prog 127 [.string s] B (fun v _=>∃n te pe,v=.tuple #[.int .i64 n,.iface te pe]):=(L7 B hB V s hs).mono fun v h' _ hv=>by
   rcases hv with ⟨m,h1,h2⟩|⟨_,h1⟩
   ·rw[hn] at h1;cases h1
   ·exact h1
  refine FnP.of func71 rfl ntmps71 (by kernel_rfl) (by simp) fun e=>?_;have I:=Ab2 hB;refine Sr<|Ai Ag<|Abh<|Sr<|At0 Mv<|Abj (AbE I call127 (ha) rfl ?_);rintro _ h w I hle ⟨n,te,pe,rfl⟩;refine Au Mv<|Ai (Y.extract rfl rfl)<|AbB (v:=.iface _ _) (Y.extract rfl rfl)<|Ai Ag<|AbB (v:=_) Ag<|Abh<|Abi<|Aca _ (fun _ _ _ h=>h)<|Ab5 (v:=_) Mv<|Ab5 (v:=.bool false) (AeF AiF rfl)<|Bd.p (Ac0 I call32 (Cf _ I.j6 false) rfl (fun _=>rfl) ?_);rintro _ h w I hle ⟨h,_⟩;refine Acf ?_;cases h
theorem VE(B:Aq)(hB:B.ok)(t:Trm)(ht:termOk t=true):Fn prog 65 [t.val] B (fun v _=>v=.string (mk (C3 t))):=by
 have hb:0≤t.n∧t.n≤4:=by
  unfold termOk at ht;split at ht<;>(have:=of_decide_eq_true ht;omega)
 refine Fo hB func65 rfl ntmps65 fun e I=>Sr<|Abj (O.box (v:=.agg #[_,_]) I rfl rfl fun b1 w I=>At0 Ag<|Abh<|Abi<|Sr<|Ap (Abu AK rfl)<|Ab (Ld I Br 0 0 1 rfl rfl rfl)<|Abh ?_);refine AbG rfl (fun h1=>?_) (fun h1=>?_)
 ·have hv:t.var=true:=h1;obtain⟨c,hc⟩:∃c:Nat,65+t.n=c:=⟨(65+t.n).toNat,by omega⟩;have hT:C3 t=[UInt8.ofNat c]:=by unfold C3;rw[if_pos hv,hc];rfl
  refine Sr<|Ap (Abr AI rfl)<|Ai (Ld I An 0 1 1 rfl rfl rfl)<|Ai (Dd rfl rfl)<|AbB (v:=.int .i32 _) (AcV (by rw[Ait];rfl) underlying21 ((ZF (by omega) (by omega))) rfl)<|AbB (v:=.string ⟨#[UInt8.ofNat c]⟩) (AeS (by rw[underlying21];rfl) Ah9 (by rw[←hc];rfl) (by omega))<|At0 Ag<|Abh<|Wr ?_;exact Rm (v:=.string _) rfl rfl I (by rw[hT];rfl)
 ·have hv:t.var=false:=by simpa using h1
  obtain⟨c,hc⟩:∃c:Nat,t.n=c:=⟨t.n.toNat,by omega⟩;have hT:C3 t=dgL c:=by unfold C3;rw[if_neg (by rw[hv];decide),hc];rfl
  refine Abk<|Sr<|Ap (Abr AI rfl)<|Ai (Ld I An 0 1 1 rfl rfl rfl)<|Abj (Abm I call24 (hc▸GL _ I.j6 c (by omega)) rfl fun w I=>At0 Ag<|Abh<|Wr ?_);exact Rm (v:=.string _) rfl rfl I (by rw[hT];rfl)
theorem Nv{ts:List Trm}(h:∀t∈ts,termOk t=true):∀x∈(ts.map C3),x.length=1:=fun x hx=>by
 obtain⟨t,ht,rfl⟩:=AfE.1 hx;obtain⟨c,hc,_⟩:=Ew (h t ht);rw[hc];rfl
theorem IV{sep:Bs}{n:Nat}:∀{l:List Bs},(∀x∈l,x.length≤n)→(joinT sep l).length≤l.length*(n+sep.length)
 |[],_=>by simp[joinT]
 |[x],h=>by
  have:=h x (by simp);simp[joinT];omega
 |x::y::r,h=>by
  have ih:=IV (sep:=sep) (l:=y::r) fun z hz=>h z (Ae8 _ hz);have:=h x (by simp);rw[joinT];simp only[Ae2,Ae6,AfP,Ahi] at ih ⊢;omega
theorem Ar(a:Bs):(mk a).size=a.length:=(BF (mk a)).symm
theorem JO{l:List Prd}{a:Atm}(ao:AOk l a):(A0 l a).length≤(Al l a.pred).name.size+8:=by
 have hl:=ao.len;have hj:=IV (sep:=[44]) (n:=1) (l:=a.args.xs.map C3) fun x hx=>Nat.le_of_eq (Nv (fun t ht=>AOk.termOk ao ht) x hx);unfold A0 L5;rw[Ae2,BF];split
 ·simp
 ·simp only[Ae2,Ae6,Afc,Afw] at hj ⊢;omega
theorem Hj(B:Aq)(hB:B.ok)(l:Sl Prd)(hl:HQ l B.h)(a:Atm)(ha:a.In B.h)(ao:AOk l.xs a)(hnm:(Al l.xs a.pred).name.size≤140737488355328):Fn prog 25 [l.val,a.val] B (fun v _=>v=.string (mk (A0 l.xs a))):=by
 have h2:=ao.len;have Ep:=hl.el.el (Cs ao.pred.1 ao.pred.2);refine Fo hB func25 rfl ntmps25 fun e I=>Sr<|Abj (O.box (v:=.agg #[_,_]) I rfl rfl fun b3 w I=>At0 Ag<|Abh<|Sr<|As0 Mv<|Ap (Abu AW rfl)<|Ai (Ld I An 0 0 1 rfl rfl rfl)<|Ap (AbJ Ep Aia Aim rfl rfl ao.pred.1 rfl)<|Ap (Abu Dk rfl)<|At0 (Abn HW rfl (I.rd (Ep.rd.part 0 1)) rfl rfl)<|At0 Ag<|Abh<|Abi<|Sr<|Ap (Abr Bb rfl)<|As0 (Ld I CN 0 1 1 rfl rfl rfl)<|Ai (AbA Aid rfl)<|Ad (AbI rfl rfl)<|Abh ?_);refine Abl rfl (fun h2=>?_) (fun h2=>?_)
 ·have h0:a.args.xs=[]:=Agh.1 (by omega);refine Sr<|At0 Mv<|At0 Ag<|Abh<|Wr ?_;exact Rm (v:=.string _) rfl rfl I (by simp only[tup];unfold A0 L5;rw[if_pos h0,Aft])
 have h0:a.args.xs≠[]:=fun e=>h2 (by rw[e];rfl);refine Abk<|Sr<|As0 Ag<|Abh<|Abi<|Sr<|Ap (Abr Bb rfl)<|As0 (Ld I CN 0 1 1 rfl rfl rfl)<|Ai (AbA Aid rfl)<|Ai Mv<|Abh<|WP.block ?_;refine Abx (σ:=Nat×Option Addr×Nat×Ae) (fun s=>[(3,Pt b3),(5,.string (Al l.xs a.pred).name),(6,.slice s.2.1 s.1 s.2.2.1),(21,a.args.val),(22,.int .i64 a.args.xs.length),(23,.int .i64 s.1)])
  (fun s w=>Inv B s.2.2.2 [Ao 9 1 (.slice s.2.1 s.1 s.2.2.1) s.1 (((a.args.xs.take s.1).map fun t=>mk (C3 t)).flatMap sEn),box b3 a.enc 61] w∧s.1≤a.args.xs.length∧B.h.le s.2.2.2) (fun s=>a.args.xs.length-s.1)
  ⟨(0,none,0,B.h),⟨rfl,rfl,rfl,rfl,rfl,rfl,trivial⟩,I.l9 9 1,Afa _,Ae.le.refl _⟩ ?_
 rintro⟨k,q,c,hh⟩ e w ⟨I,hk,gl⟩;dsimp only at I hk gl ⊢;refine Sr<|Ad (AbC rfl rfl)<|Abh<|Abi ?_;refine Abl rfl (fun h6=>?_) (fun h6=>?_)
 ·have hk':k<a.args.xs.length:=by omega
  have E:=Sl.Is.at (Atm.In.le ha gl) hk';have ht:=AOk.termOk ao (Ae5 hk');obtain⟨t,hte⟩:∃t,a.args.xs[k]=t:=⟨_,rfl⟩;have hnx:a.args.xs.take (k+1)=a.args.xs.take k++[t]:=by rw[AfS,Ae4 hk',hte];rfl
  rw[hte] at E ht;refine Abk<|Abi<|WP.block<|Sr<|Ap (Ix E Aid Aik rfl rfl)<|Ax (Abn BZ rfl (I.rd (E.rd.part 0 2)) rfl rfl)<|Abj (O.alloc I Aig rfl fun b8 w I=>Abj (Sx I BZ 0 rfl rfl rfl rfl fun w I=>Abh<|Abg<|As0 Mv<|Ax (Ld I BZ 0 0 2 rfl rfl rfl)<|Abj (Abm I call65 (VE _ I.j6 t ht) rfl fun w I=>Abj (AbY (xs:=[mk (C3 t)]) (enc:=sEn) I Ais AiJ zeroValue9 rfl (Nb rfl) rfl rfl (by decide) (fun _=>rfl) fun b30 h30 w I le30 sl30=>Abj (Ab0 I Ais Aah 1 rfl rfl rfl (I.rd (sl30 0 _ rfl).2) rfl rfl (by decide) (by omega) (by omega) fun b31 c31 w I=>As0 Ag<|Abh<|Abg<|Ai (Dd rfl rfl)<|Ai Mv<|Abh ?_)))));refine⟨(k+1,some ⟨b31,0,none⟩,c31,h30),⟨⟨rfl,rfl,rfl,rfl,rfl,rfl,trivial⟩,?_,by dsimp only;omega,gl.trans le30⟩,by dsimp only;omega⟩;dsimp only;rw[hnx,AfM,Afm];exact I.drop
 obtain rfl:k=a.args.xs.length:=by omega
 rw[Afo] at I;have hcap:=FC (I.at 0 rfl);obtain⟨h10,s,le10,hv,hx,is,J⟩:=I.p8 (fun _=>rfl) (by simp);clear I;obtain⟨sa,sc,sx⟩:=s;dsimp only at hx;subst hx;have hv':=hv;unfold Sl.val at hv';dsimp only at hv';injection hv' with e1 e2 e3;subst e1;subst e3;have I:=J;have hlen:(a.args.xs.map fun t=>mk (C3 t)).map tx=a.args.xs.map C3:=by rw[AgJ];rfl
 have hj:=IV (sep:=[44]) (n:=1) (l:=a.args.xs.map C3) fun x hx=>Nat.le_of_eq (Nv (fun t ht=>AOk.termOk ao ht) x hx);simp only[Afw,Ae6,Afc] at hj;have hjo:=IU ⟨w,h10⟩ I.j6 ⟨sa,sc,a.args.xs.map fun t=>mk (C3 t)⟩ ⟨is,by simp;omega⟩ (by simpa using hcap) ⟨#[44]⟩ (by rw[hlen];show(joinT [44] _).length≤_;omega);rw[hlen] at hjo;unfold Sl.val at hjo;simp only[Afw] at hjo;have z1:((Al l.xs a.pred).name++⟨#[40]⟩:ByteArray).size=(Al l.xs a.pred).name.size+1:=by rw[Afb];rfl
 have z2:(mk (joinT (tx ⟨#[44]⟩) (a.args.xs.map C3))).size≤4:=by rw[Ar];show(joinT [44] _).length≤_;omega
 refine Abz<|Sr<|At0 Mv<|At0 (AbP rfl rfl (by show _+1≤_;omega))<|As0 Mv<|Abj (Abm I call26 (hjo) rfl fun w I=>At0 (AbP rfl rfl (by omega))<|At0 (AbP rfl rfl (by rw[Afb];show _+_+1≤_;omega))<|At0 Ag<|Abh<|Wr ?_);exact Rm (v:=.string _) rfl rfl I (by simp only[tup];unfold A0 L5;rw[if_neg h0];refine congrArg Value.string (Cb.1 ?_);rw[BD,BD,BD,Afe,Afe])
end
section
theorem Cw(s sep:Bs):(Lib.cut s sep).1.length≤s.length∧(Lib.cut s sep).2.1.length≤s.length:=by
 unfold Lib.cut;split
 ·simp only[Afj,AfD];omega
 ·simp
theorem K9{sep:Bs}:∀(k:Nat) (s:Bs),∀x∈Lib.splitK sep 0 k s,x.length≤s.length
 |0,s,x,hx=>by simp[Lib.splitK] at hx;subst hx;exact Afg _
 |k+1,s,x,hx=>by
  rw[Lib.splitK] at hx;split at hx
  ·simp at hx;subst hx;exact Afg _
  ·rcases Afq.1 hx with rfl|hx
   ·simp only[Afj];omega
   ·have:=K9 k _ x hx;simp only[AfD] at this;omega
theorem JP{s sep x:Bs}(hx:x∈Lib.split s sep):x.length≤s.length:=K9 _ _ x hx
theorem La{sep:Bs}:∀(k:Nat) (s:Bs),(Lib.splitK sep 0 k s).length≤k+1
 |0,s=>by simp[Lib.splitK]
 |k+1,s=>by
  rw[Lib.splitK];split
  ·simp
  ·have:=La (sep:=sep) k (s.drop ((Lib.index s sep).toNat+sep.length));simp only[Ae6];omega
theorem Nw(s sep:Bs):(Lib.split s sep).length≤s.length+2:=by
 have h1:=La (sep:=sep) (Lib.count s sep) s;have h2:=Lib.count_le s sep;unfold Lib.split;omega
theorem Ri{l:List Bs}{w:Bs}(hw:w∈l)(h:JC w=none):termsR l=none:=by
 induction l with
 |nil=>cases hw
 |cons x r ih=>
  rcases Afq.1 hw with rfl|hw
  ·simp[termsR,h]
  ·simp only[termsR,ih hw];cases JC x<;>rfl
theorem JQ{l:List Bs}{w:Bs}{ts:List Trm}{t:Trm}(hl:termsR l=some ts)(h:JC w=some t):termsR (l++[w])=some (ts++[t]):=by
 induction l generalizing ts with
 |nil=>simp[termsR] at hl;subst hl;simp[termsR,h]
 |cons x r ih=>
  simp only[termsR] at hl;cases hx:JC x with
  |none=>simp[hx] at hl
  |some y=>
   cases hr:termsR r with
   |none=>simp[hx,hr] at hl
   |some ys=>
    simp[hx,hr] at hl;subst hl;simp[termsR,hx,ih hr]
def Xx(p:Prop)(v0:Value):Sp:=fun v _=>p∧v=v0
theorem Xx.mono{p:Prop}{v0:Value}:Bt (Xx p v0):=fun _ _ _ _ h=>h
theorem B3(a b:ByteArray):(a.toList == b.toList)=decide (tx a=tx b):=by
 rw[Lib.toList_data,Lib.toList_data,AhT]
theorem VF(B:Aq)(hB:B.ok)(x:Prd)(b:Nat)(nm:ByteArray)(hb:Ci B.h b [.string nm]):Fn prog 130 [x.val,Pt b] B (fun v _=>v=.bool (decide (tx x.name=tx nm))):=by
 refine Fo hB func130 rfl ntmps130 fun e I=>Sr<|Abj (O.box (v:=.agg #[_,_,_]) I rfl rfl fun b2 w I=>Ab Ag<|Abh<|Sr<|Ap (Abu Dk rfl)<|At0 (Ld I HW 0 0 1 rfl rfl rfl)<|At0 (Abn HW rfl (I.rd hb.rd) rfl rfl)<|Ab (Ab6 rfl rfl)<|Ab Ag<|Abh<|Wr ?_);exact Rm (v:=.bool _) rfl rfl I (by simp only[tup];rw[B3])
theorem OO(B:Aq)(hB:B.ok)(V:Iq B.h)(l:Sl Prd)(hl:HQ l B.h)(s:ByteArray)(hs:s.size≤4096):FnP prog 74 [l.val,.string s] B brk (Ev l.xs (tx s)=none) (fun v h=>∃a:Atm,v=a.val∧Di 109 2 a.args Trm.enc B.h h∧a.args.xs.length≤4098∧Ev l.xs (tx s)=some a.er):=by
 have hcl:=Cw (tx s) [40];have htl:=BF s;obtain⟨c1,c2,c3,hc⟩:∃c1 c2 c3,Lib.cut (tx s) [40]=(c1,c2,c3):=⟨_,_,_,rfl⟩;have hR:Ev l.xs (tx s)=match K1 l.xs c1 with
   |none=>none
   |some k=>if c3=false then some (mkA k []) else if Lib.hasSuffix c2 [41]=false then none else (termsR (Lib.split (Lib.trimSuffix c2 [41]) [44])).map (mkA k):=by unfold Ev;rw[hc]<;>rfl
 have hcut:∀B':Aq,B'.ok→Iq B'.h→Fn prog 73 [.string s,.string ⟨#[40]⟩] B' (fun v _=>v=.tuple #[.string (mk c1),.string (mk c2),.bool c3]):=fun B' hB' V'=>
  (SZ B' hB' V' s ⟨#[40]⟩ (by omega)).mono fun v _ _ hv=>by rw[hv];show Value.tuple #[.string (mk (Lib.cut (tx s) [40]).1),.string (mk (Lib.cut (tx s) [40]).2.1),.bool (Lib.cut (tx s) [40]).2.2]=_;rw[hc]
 rw[hc] at hcl;dsimp only at hcl;have hts:=Lib.trimSuffix_le c2 [41];have hix:Hg (fun x:Prd=>decide (tx x.name=tx (mk c1))) l.xs=match K1 l.xs c1 with|some k=>(k:Int)|none=>-1:=rfl;refine FnP.of func74 rfl ntmps74 (by kernel_rfl) (by simp) fun e=>?_;have I:=Ab2 hB;refine Sr<|Abj (O.alloc I Ain rfl fun b4 w I=>Abh<|Sr<|At0 Mv<|Abj (Abm I call73 (hcut _ I.j6 V) rfl fun w I=>Av Mv<|At0 (Y.extract rfl rfl)<|At0 (Y.extract rfl rfl)<|Ab (Y.extract rfl rfl)<|Abj (O.alloc I zeroValue9 rfl fun b5 w I=>Abj (St0 I HW 0 rfl rfl rfl rfl fun w I=>At0 Ag<|Ab Ag<|Abh ?_))));obtain⟨h1,gl1,kb,I⟩:=I.z8;have V1:=V.le gl1;refine Sr<|As0 Mv<|Af (Acq rfl rfl)<|Abj (Abm I call114 (FD _ I.j6 l (hl.le gl1) 130 call130 [] [Pt b5] (fun x=>decide (tx x.name=tx (mk c1))) (fun B' hB' hl' x _=>VF B' hB' x b5 (mk c1) (kb.le hl'))) rfl fun w I=>AbB (v:=.agg #[.int .i64 _,.slice _ _ _]) (Y.build M4 Ain rfl rfl)<|Abj (O.alloc I Ain rfl fun b8 w I=>Abj (Sx I AP 0 rfl rfl rfl rfl fun w I=>Abh ?_)));cases hp:K1 l.xs c1 with
 |none=>
  have hn:Ev l.xs (tx s)=none:=by rw[hR,hp]
  rw[hp] at hix;refine Abi<|Aca _ (fun _ _ _ h=>h)<|Ab5 (v:=.pointer (some ⟨_,_,none⟩)) (Abu AW rfl)<|Ab5 (v:=.int .i64 _) (Ld I An 0 0 1 rfl rfl rfl)<|Ab5 (v:=.bool false) (Abt (AbZ rfl rfl) ((by rw[hix];decide)))<|Bd.p (Ac0 I call32 (Cf _ I.j6 false) rfl (fun _=>hn) ?_);rintro _ h w I hle ⟨hh,_⟩;refine Acf ?_;cases hh
 |some k=>
 rw[hp] at hix hR;dsimp only at hix hR;refine Abi<|Aca _ (fun _ _ _ h=>h)<|Ab5 (v:=.pointer (some ⟨_,_,none⟩)) (Abu AW rfl)<|Ab5 (v:=.int .i64 _) (Ld I An 0 0 1 rfl rfl rfl)<|Ab5 (v:=.bool true) (Abs (AbZ rfl rfl) ((by rw[hix];exact AfR k)))<|Bd.p (Ac0 I call32 (Cf _ I.j6 true) rfl (fun h=>by cases h) ?_);rintro _ h w I gl2 ⟨_,rfl⟩;refine Acf ?_;have gl2:=gl1.trans gl2;refine Abi<|Sr<|Ab Mv<|Ab (Y.not rfl)<|Abh ?_;refine AbG rfl (fun h4=>?_) (fun h4=>?_)
 ·have h3:c3=false:=by simpa using h4
  refine Sr<|Ax (Ld I AP 0 0 2 rfl rfl rfl)<|Abj (Sx I AP 1 rfl rfl rfl rfl fun w I=>Abh<|Wr ?_);exact U1.mk (vs:=[.agg #[_,_]]) rfl ⟨⟨_,_,_,_,_,rfl,AP,I.l5 1 rfl 0 2,rfl,rfl⟩,trivial⟩ I.j5 (⟨⟨k,⟨none,0,[]⟩⟩,by simp only[tup];rw[hix];rfl,.inl rfl,Afa _,by rw[hR,if_pos h3];rfl⟩)
 have h3:c3=true:=by simpa using h4
 rw[if_neg (by rw[h3];decide)] at hR;refine Abk<|Sr<|At0 Mv<|Abj (Abm I call72 (Ns _ I.j6 (mk c2) ⟨#[41]⟩ (by rw[Ar];omega)) rfl fun w I=>Au Mv<|At0 (Y.extract rfl rfl)<|Ab (Y.extract rfl rfl)<|At0 Ag<|Ab Ag<|Abh ?_);cases hsf:Lib.hasSuffix c2 [41] with
 |false=>
  have hn:Ev l.xs (tx s)=none:=by rw[hR,if_pos hsf]
  refine Abi<|Aca _ (fun _ _ _ h=>h)<|Ab5 (v:=.bool _) Mv<|Bd.p (Ac0 I call32 (Cf _ I.j6 false) rfl (fun _=>hn) ?_);rintro _ h w I hle ⟨hh,_⟩;refine Acf ?_;cases hh
 |true=>
 rw[if_neg (by rw[hsf];decide)] at hR;refine Abi<|Aca _ (fun _ _ _ h=>h)<|Ab5 (v:=.bool _) Mv<|Bd.p (Ac0 I call32 (Cf _ I.j6 true) rfl (fun h=>by cases h) ?_);rintro _ h w I gl3 ⟨_,rfl⟩;refine Acf ?_;have gl3:=gl2.trans gl3;obtain⟨c4,hc4⟩:∃c4,Lib.trimSuffix c2 [41]=c4:=⟨_,rfl⟩;rw[hc4] at hts hR;have hcs:mk (Lib.trimSuffix (tx (mk c2)) (tx ⟨#[41]⟩))=mk c4:=by rw[←hc4]
 rw[hcs];have V3:=V.le gl3;refine Abi<|Sr<|At0 Mv<|Abj (AbE I call70 (L6 _ I.j6 V3 (mk c4) ⟨#[44]⟩ (by rw[Ar];omega) (Afg 1)) rfl ?_);rintro _ h w I gl4 ⟨ws,rfl,iws,hws⟩;refine Ai (AbA Ais rfl)<|Ai Mv<|Abh ?_;have gl4:=gl3.trans gl4;have hws':ws.xs.map tx=Lib.split c4 [44]:=hws;rw[←hws'] at hR;have hwl:∀x∈ws.xs,x.size≤4096:=fun x hx=>by
  have:=JP (s:=c4) (sep:=[44]) (x:=tx x) (by rw[←hws'];exact Agp hx);rw[BF] at this;omega
 refine WP.block ?_;refine Abx (σ:=Nat×Option Addr×Nat×Ae×List Trm) (fun s=>[(4,Pt b4),(8,Pt b8),(37,ws.val),(38,.int .i64 ws.xs.length),(39,.int .i64 s.1)])
  (fun s w=>Inv B s.2.2.2.1 [Ao 109 2 (.slice s.2.1 s.1 s.2.2.1) s.1 (s.2.2.2.2.flatMap Trm.enc),box b8 [.int .i64 (k:Int),.slice s.2.1 s.1 s.2.2.1] 61,box b4 [.int .i64 0,.slice none 0 0] 61] w∧s.1≤ws.xs.length∧h.le s.2.2.2.1∧s.2.2.2.2.length=s.1∧termsR ((ws.xs.take s.1).map tx)=some s.2.2.2.2) (fun s=>ws.xs.length-s.1)
  ⟨(0,none,0,h,[]),⟨rfl,rfl,rfl,rfl,rfl,trivial⟩,by rw[hix] at I;exact I.l9 109 2,Afa _,Ae.le.refl _,rfl,rfl⟩ ?_
 rintro⟨i,q,c,hh,ts⟩ e w ⟨I,hi,gl,hlen,hts2⟩;dsimp only at I hi gl hlen hts2 ⊢;have hwsm:ws.xs.length≤4098:=by
  have h1:=Nw c4 [44];rw[←hws',Afw] at h1;omega
 refine Sr<|Ad (AbC rfl rfl)<|Abh<|Abi ?_;refine Abl rfl (fun h9=>?_) (fun h9=>?_)
 ·have hi':i<ws.xs.length:=by omega
  have E:=(iws.le gl).at hi';obtain⟨x,hx⟩:∃x,ws.xs[i]=x:=⟨_,rfl⟩;have hxm:x∈ws.xs:=hx▸Ae5 hi';have hxl:=hwl x hxm;have hnx:(ws.xs.take (i+1)).map tx=(ws.xs.take i).map tx++[tx x]:=by rw[AfS,Ae4 hi',hx];simp
  rw[hx] at E;have Vh:=V.le (gl4.trans gl);refine Abk<|Abi<|WP.block<|Sr<|Ap (Ix E Ais AiJ rfl rfl)<|At0 (Abn HW rfl (I.rd (E.rd.part 0 1)) rfl rfl)<|At0 Ag<|Abh<|Sr<|At0 Mv<|Abj (Abm I call86 (VD _ I.j6 Vh ⟨#[65,66,67]⟩ x (by show 3<_;omega)) rfl fun w I=>Ai Ag<|Abh ?_);obtain⟨ix,hix2⟩:∃ix,Lib.index (tx ⟨#[65,66,67]⟩) (tx x)=ix:=⟨_,rfl⟩;have hix3:Lib.index [65,66,67] (tx x)=ix:=hix2;rw[hix2];have hxt:=BF x;refine Abi ?_;refine Acc (σ:=Unit) (fun _=>[(4,Pt b4),(8,Pt b8),(10,.string x),(11,.int .i64 ix),(37,ws.val),(38,.int .i64 ws.xs.length),(39,.int .i64 i),(51,.bool (decide (0≤ix∧(tx x).length=1)))])
   (fun _ w=>Inv B hh [Ao 109 2 (.slice q i c) i (ts.flatMap Trm.enc),box b8 [.int .i64 (k:Int),.slice q i c] 61,box b4 [.int .i64 0,.slice none 0 0] 61] w) ?_ ?_
  ·by_cases h0:0≤ix
   ·by_cases h1:(tx x).length=1
    ·exact Abg<|Ai Mv<|AT (Abs (AbZ rfl rfl) (h0))<|Ab Mv<|Gt Mv<|Gi (AbF Ah9 rfl)<|GT (Abs (AbI rfl rfl) ((by omega)))<|Ab (Abo rfl rfl)<|Abh<|⟨(),⟨rfl,rfl,rfl,rfl,rfl,rfl,rfl,by rw[decide_eq_true (And.intro h0 h1)];rfl,trivial⟩,I⟩
    ·exact Abg<|Ai Mv<|AT (Abs (AbZ rfl rfl) (h0))<|Ab Mv<|Gt Mv<|Gi (AbF Ah9 rfl)<|GF (Abt (AbI rfl rfl) ((by omega)))<|Ab (Abo rfl rfl)<|Abh<|⟨(),⟨rfl,rfl,rfl,rfl,rfl,rfl,rfl,by rw[decide_eq_false (fun h:0≤ix∧(tx x).length=1=>h1 h.2)];rfl,trivial⟩,I⟩
   ·exact Abg<|Ai Mv<|AF (Abt (AbZ rfl rfl) (h0))<|Ab Mv<|Gg<|Gg<|Gg<|Ab (Abp rfl rfl)<|Abh<|⟨(),⟨rfl,rfl,rfl,rfl,rfl,rfl,rfl,by rw[decide_eq_false (fun h:0≤ix∧(tx x).length=1=>h0 h.1)];rfl,trivial⟩,I⟩
  rintro _ e w I;refine Abl rfl (fun h51=>?_) (fun h51=>?_)
  ·have htm:JC (tx x)=some ⟨true,ix⟩:=by unfold JC;rw[hix3,if_pos h51]
   refine Abg<|Ap (Abr Bb rfl)<|As0 (Ld I CN 1 1 1 rfl rfl rfl)<|Ai Mv<|AbB (v:=.agg #[.bool _,.int .i64 _]) (Y.build Fm Aig rfl rfl)<|Abj (AbY (xs:=[⟨true,ix⟩]) (enc:=Trm.enc) I Aid Aik Aig rfl (Nb rfl) rfl rfl (by decide) (fun _=>rfl) fun b56 h56 w I le56 sl56=>Abj (Ab0 I Aid Se 0 rfl rfl rfl (I.rd (sl56 0 _ rfl).2) rfl rfl (by decide) ((by omega)) (by omega) fun b57 c57 w I=>Ap (Abr Bb rfl)<|Abj (Ss0 I CN 1 rfl rfl rfl rfl fun w I=>Abh<|Abg<|Ai (Dd rfl rfl)<|Ai Mv<|Abh ?_)));refine⟨(i+1,some ⟨b57,0,none⟩,c57,h56,ts++[⟨true,ix⟩]),⟨⟨rfl,rfl,rfl,rfl,rfl,trivial⟩,?_,by dsimp only;omega,gl.trans le56,by simp[hlen],by dsimp only;rw[hnx];exact JQ hts2 htm⟩,by dsimp only;omega⟩;dsimp only;rw[Afm];exact I
  ·have htm:JC (tx x)=(Du (tx x)).map fun n=>⟨false,n⟩:=by unfold JC;rw[hix3,if_neg h51]
   obtain⟨n,hn⟩:∃n,(Du (tx x)).getD 0=n:=⟨_,rfl⟩;have hbad:Du (tx x)=none→Ev l.xs (tx s)=none:=fun h=>by
    rw[hR,Ri (Agp hxm) (by rw[htm,h];rfl)];rfl
   refine Ac7 _ (fun _ _ _ h=>h) AC RAp.pre ⟨hh,none⟩ (J:=JAp B [box b8 [.int .i64 (k:Int),.slice q i c] 61,box b4 [.int .i64 0,.slice none 0 0] 61] 109 2 i 1 (.slice q i c) (ts.flatMap Trm.enc) (Trm.enc ⟨false,n⟩) 6) ⟨rfl,I.drew⟩ 7 (by kernel_rfl)<|Ab7 (v:=.pointer (some ⟨_,_,none⟩)) (fun _=>Aa _) RAp.pre (JAp.set (by decide)) (fun _ s w us hl hj=>have I:=hj.base;have hl:=hl.h;Abr Bb rfl)<|Ab7 (v:=.slice _ _ _) (fun _=>Aa _) RAp.pre (JAp.set (by decide)) (fun _ s w us hl hj=>have I:=hj.base;have hl:=hl.h;Ld I CN 0 1 1 rfl rfl rfl)<|Ab7 (v:=.string _) (fun _=>Aa _) RAp.pre (JAp.set (by decide)) (fun _ s w us hl hj=>have I:=hj.base;have hl:=hl.h;Mv) ?_;refine Acw (Φ:=K7 (Xx (Du (tx x)=some n) (.int .i64 n))) (K7.mono Xx.mono) (fun _=>Aa _) (fun D' z w hDk hl hj=>?_) ?_
   ·refine FR.all fun us=>hj.knowP (by decide) fun N hN I=>?_;have hl:=hl.h;refine Ac0 I call71 (K8 _ I.j6 (Vh.le hl) x (by omega)) rfl (hbad) ?_;rintro _ h1 w I hl' ⟨m,hm,rfl⟩;exact⟨_,hl',I,by rw[hm] at hn;subst hn;exact⟨hm,rfl⟩⟩
   refine Acw (Φ:=K7 (EqV (.agg #[.bool false,.int .i64 n]))) (K7.mono EqV.mono) (fun _=>Aa _) (fun D' z w hDk hl hj=>?_) ?_
   ·intro u62 q62;obtain⟨_,rfl⟩:=q62 rfl;refine DN.of<|hj.know (by decide) fun N I=>?_;have hl:=hl.h;exact AcJ I (Y.build Fm Aig rfl rfl) (rfl)
   refine Acw (Φ:=KnA (LK 109 (Trm.enc ⟨false,n⟩) 1)) (KnA.mono LK.mono) (fun _=>Aa _) (fun D' z w hDk hl hj=>?_) ?_
   ·intro u62 q62 u63 q63;obtain rfl:u63=.agg #[.bool false,.int .i64 n]:=q63 rfl;exact DN.of<|hj.know (by decide) fun N I=>AcM (cs:=Trm.enc ⟨false,n⟩) I Aid Aik Aig (by decide) (by decide) rfl rfl (fun v h w I le sl=>⟨h,le,I,sl⟩)
   refine Acw (Φ:=ON (i+1)) ON.mono (fun _=>Aa _) (fun D' z w hDk hl hj=>?_) ?_
   ·intro u62 q62 u63 q63 u64 q64;obtain⟨bl,rfl,hbl⟩:=q64 rfl;refine DN.of<|hj.app hDk fun I=>?_;have kb:Ci z.h bl (Trm.enc ⟨false,n⟩):=⟨fun j v hv=>by simp[Ae.cell,hbl,hv]⟩;exact Ab0 I Aid Se 0 rfl rfl rfl (I.rd kb.rd) rfl rfl (by decide) (by omega) (by omega) fun g c w I=>⟨g,c,rfl,I⟩
   refine Adu fun D z w hD hl hj u62 q62 u63 q63 u64 q64 u65 q65=>?_;obtain⟨g,c2,rfl,h7⟩:=q65 rfl;have I:=hj.inv;rw[h7] at I;obtain⟨hn2,_⟩:=q62 rfl;refine Ab5 (v:=.pointer (some ⟨_,_,none⟩)) (Abr Bb rfl)<|AcN (Ss0 I CN 1 rfl rfl rfl rfl fun w I=>Acf<|Abg<|Ai (Dd rfl rfl)<|Ai Mv<|Abh ?_);refine⟨(i+1,some ⟨g,0,none⟩,c2,z.h,ts++[⟨false,n⟩]),⟨⟨rfl,rfl,rfl,rfl,rfl,trivial⟩,?_,by dsimp only;omega,gl.trans hl.h,by simp[hlen],by dsimp only;rw[hnx];exact JQ hts2 (by rw[htm,hn2];rfl)⟩,by dsimp only;omega⟩;dsimp only;rw[Afm,AfT];exact I
 obtain rfl:i=ws.xs.length:=by omega
 rw[Afo] at hts2;obtain⟨h10,sa,le10,hva,hxa,isa,I⟩:=I.y5 hlen.symm;have I:Inv B h10 [box b8 [.int .i64 (k:Int),sa.val] 61,box b4 [.int .i64 0,.slice none 0 0] 61] w:=by rw[hva];exact I
 refine Abz<|Sr<|Ax (Ld I AP 0 0 2 rfl rfl rfl)<|Abj (Sx I AP 1 rfl rfl rfl rfl fun w I=>Abh<|Wr ?_);exact U1.mk (vs:=[.agg #[_,_]]) rfl ⟨⟨_,_,_,_,_,rfl,AP,I.l5 1 rfl 0 2,rfl,rfl⟩,trivial⟩ I.j5 (⟨⟨k,sa⟩,rfl,isa.older (gl4.trans gl),by rw[hxa,hlen];exact hwsm,by rw[hR,hts2];unfold mkA Atm.er Sl.er;rw[hxa];rfl⟩)
end
section
structure AqS where
 h:Ae
 o7:Option (Nat×Nat×List Value)
def pcQ(T k n m:Nat)(v:Value)(xs:List Value)(o7:Option (Nat×Nat×List Value)):SA:=match o7 with
 |none=>Ao T k v n xs
 |some y=>Ao T k (.slice (some ⟨y.1,0,none⟩) (n+m) y.2.1) (n+m) (xs++y.2.2)
structure JAq(B:Aq)(M:List SA)(T k n m:Nat)(v:Value)(xs:List Value)(i7:Nat)(D:Nat→Bool)(s:AqS)(w:World):Prop where
 h7:s.o7.isSome=D i7
 inv:Inv B s.h (pcQ T k n m v xs s.o7::M) w
structure RAq(s s':AqS):Prop where
 h:s.h.le s'.h
 h7:∀y,s.o7=some y→s'.o7=some y
theorem RAq.pre:Pre RAq:=⟨fun _=>⟨Ae.le.refl _,fun _ h=>h⟩,fun _ _ _ h k=>⟨h.h.trans k.h,fun y e=>k.h7 y (h.h7 y e)⟩⟩
def X6(Ψ:List Value→Ae→Prop)(N:Nat)(u:Value)(s:AqS):Prop:=∃g c x,u=.slice (some ⟨g,0,none⟩) N c∧s.o7=some (g,c,x)∧Ψ x s.h
def VG(Ψ:List Value→Ae→Prop):Prop:=∀x h h',h.le h'→Ψ x h→Ψ x h'
theorem X6.mono{Ψ:List Value→Ae→Prop}(hm:VG Ψ){N:Nat}:Cj RAq (X6 Ψ N):=fun _ _ _ r ⟨g,c,x,h1,h2,h3⟩=>⟨g,c,x,h1,r.h7 _ h2,hm _ _ _ r.h h3⟩
def PM(Φ:Sp)(u:Value)(s:AqS):Prop:=Φ u s.h
theorem PM.mono{Φ:Sp}(hm:Bt Φ):Cj RAq (PM Φ):=fun _ _ _ r h=>hm _ _ _ r.h h
def Zb(el:TypeId)(Ψ:List Value→Ae→Prop):Sp:=fun u h=>∃cs,LK el cs 1 u h∧Ψ cs h
theorem Zb.mono{el:TypeId}{Ψ:List Value→Ae→Prop}(hm:VG Ψ):Bt (Zb el Ψ):=fun _ _ _ hl ⟨cs,h1,h2⟩=>⟨cs,LK.mono _ _ _ hl h1,hm _ _ _ hl h2⟩
section
variable {P:Program}{o:Oper}{e:Env}{B:Aq}{M:List SA}{T k n m:Nat}{v:Value}{xs:List Value}{i7 i:Nat}{D:Nat→Bool}{s:AqS}{w:World}
theorem JAq.base(j:JAq B M T k n m v xs i7 D s w):Inv B s.h M w:=j.inv.drop
theorem JAq.set(h:i7≠i):∀D s w,JAq B M T k n m v xs i7 D s w→JAq B M T k n m v xs i7 (AZ D i) s w:=fun D s w j=>⟨by rw[show AZ D i i7=D i7 by simp[AZ,h]];exact j.h7,j.inv⟩
theorem JAq.know{Φ:Sp}(j:JAq B M T k n m v xs i7 D s w)(h:i7≠i)(hop:∀N,Inv B s.h N w→Op1 P o e w fun u w'=>∃h',s.h.le h'∧Inv B h' N w'∧Φ u h') :
  Op1 P o e w fun u w'=>∃s',RAq s s'∧JAq B M T k n m v xs i7 (AZ D i) s' w'∧PM Φ u s':=
 (hop _ j.inv).mono fun u w' ⟨h',hl,I,hu⟩=>⟨⟨h',s.o7⟩,⟨hl,fun _ e=>e⟩,⟨by rw[show AZ D i i7=D i7 by simp[AZ,h]];exact j.h7,I⟩,hu⟩
theorem JAq.knowP{X:PX}{Φ:Sp}(j:JAq B M T k n m v xs i7 D s w)(h:i7≠i)(hop:∀N,N=pcQ T k n m v xs s.o7::M→Inv B s.h N w→DN P X o e w fun u w'=>∃h',s.h.le h'∧Inv B h' N w'∧Φ u h') :
  DN P X o e w fun u w'=>∃s',RAq s s'∧JAq B M T k n m v xs i7 (AZ D i) s' w'∧PM Φ u s':=
 (hop _ rfl j.inv).mono fun u w' ⟨h',hl,I,hu⟩=>⟨⟨h',s.o7⟩,⟨hl,fun _ e=>e⟩,⟨by rw[show AZ D i i7=D i7 by simp[AZ,h]];exact j.h7,I⟩,hu⟩
theorem JAq.app{Ψ:List Value→Ae→Prop}(j:JAq B M T k n m v xs i7 D s w)(hD:D i7=false)(hop:Inv B s.h (Ao T k v n xs::M) w→Op1 P o e w fun u w'=>∃g c x,u=.slice (some ⟨g,0,none⟩) (n+m) c∧Ψ x s.h∧Inv B s.h (Ao T k (.slice (some ⟨g,0,none⟩) (n+m) c) (n+m) (xs++x)::M) w') :
  Op1 P o e w fun u w'=>∃s',RAq s s'∧JAq B M T k n m v xs i7 (AZ D i7) s' w'∧X6 Ψ (n+m) u s':=by
 have h7:s.o7=none:=by have:=j.h7;rw[hD] at this;cases h:s.o7<;>simp_all
 have I:=j.inv;rw[h7] at I;exact(hop I).mono fun u w' ⟨g,c,x,e,hp,I⟩=>⟨⟨s.h,some (g,c,x)⟩,⟨Ae.le.refl _,fun y e=>(by rw[h7] at e;cases e)⟩,⟨by simp[AZ],I⟩,g,c,x,e,rfl,hp⟩
end
end
section
section
variable (B:Aq)(hB:B.ok)
include hB
theorem JR(s:ByteArray)(p:Bs){a:Bs}{b:Bool}(h1:Lib.trimPrefix (tx s) p=a)(h2:Lib.hasPrefix (tx s) p=b):Fn prog 69 [.string s,.string (mk p)] B (fun v _=>v=.tuple #[.string (mk a),.bool b]):=by
 subst h1;subst h2;exact SY B hB s (mk p)
theorem S0(s:ByteArray)(hs:s.size≤140737488355328)(p:Bs){a:Bs}{b:Bool}(h1:Lib.trimSuffix (tx s) p=a)(h2:Lib.hasSuffix (tx s) p=b):Fn prog 72 [.string s,.string (mk p)] B (fun v _=>v=.tuple #[.string (mk a),.bool b]):=by
 subst h1;subst h2;exact Ns B hB s (mk p) hs
theorem S1(s:ByteArray)(hs:s.size≤140737488355328)(p:Bs){b:Bool}(h2:Lib.hasSuffix (tx s) p=b):Fn prog 38 [.string s,.string (mk p)] B (fun v _=>v=.bool b):=by
 subst h2;exact Nt B hB s (mk p) hs
theorem S2(V:Iq B.h)(s:ByteArray)(hs:s.size<4294967281)(p:Bs){a b:Bs}{c:Bool}(h1:Lib.cut (tx s) p=(a,b,c)):Fn prog 73 [.string s,.string (mk p)] B (fun v _=>v=.tuple #[.string (mk a),.string (mk b),.bool c]):=by
 have:=SZ B hB V s (mk p) hs;rw[show tx (mk p)=p from rfl,h1] at this;exact this
end
abbrev linM(b:Nat)(q:Option Addr)(n c:Nat)(q2:Option Addr)(n2 c2:Nat)(ps:List Prd)(rs:List Rul)(M:List SA):List SA:=
 Ao 53 3 (.slice q n c) n (ps.flatMap Prd.enc)::Ao 64 5 (.slice q2 n2 c2) n2 (rs.flatMap Rul.enc)::box b [.slice q n c,.slice q2 n2 c2] 25::M
def Aay(B:Aq)(h:Ae)(M:List SA)(b:Nat)(q:Option Addr)(n c:Nat)(q2:Option Addr)(n2 c2:Nat)(ps:List Prd)(rs:List Rul)(s:Bs):Ending→World→Prop
 |.returned v,w'=>v=.tuple #[]∧∃h' q c q2 c2 ps' rs',h.le h'∧Inv B h' (linM b q ps'.length c q2 rs'.length c2 ps' rs' M) w'∧Fa (ps,rs.map Rul.er) s=some (ps',rs'.map Rul.er)∧(∀r∈rs',r.In h')∧(∀x∈ps',x.name.size≤4096)∧ps'.length≤ps.length+1∧rs'.length≤rs.length+1
 |.panicked ch,w'=>ch=brk∧(∃h',Inv B h' (box b [.slice q n c,.slice q2 n2 c2] 25::M) w')∧Fa (ps,rs.map Rul.er) s=none
 |_,_=>False
theorem Aa3{α:Type}{l:List α}(h:l.length=3):∃x y z,l=[x,y,z]:=by
 match l,h with
 |[x,y,z],_=>exact⟨x,y,z,rfl⟩
def Aaj(l:List Prd)(s:Bs)(h1:Ae):Sp:=fun u h=>∃a:Atm,u=a.val∧Di 109 2 a.args Trm.enc h1 h∧a.args.xs.length≤4098∧Ev l s=some a.er
theorem Aaj.mono{l:List Prd}{s:Bs}{h1:Ae}:Bt (Aaj l s h1):=fun _ _ _ hl ⟨a,e,o,n,r⟩=>⟨a,e,o.le hl,n,r⟩
def Zc(l:List Prd)(s:Bs)(h1:Ae)(cs:List Value)(h:Ae):Prop:=∃x:Ltl,cs=x.enc∧Di 109 2 x.atom.args Trm.enc h1 h∧x.atom.args.xs.length≤4098∧SQ l s=some x.er
theorem Zc.mono{l:List Prd}{s:Bs}{h1:Ae}:VG (Zc l s h1):=fun _ _ _ hl ⟨a,e,o,n,r⟩=>⟨a,e,o.le hl,n,r⟩
def Aak(l:List Prd)(s:Bs)(h1:Ae):Sp:=fun u h=>∃x:Ltl,u=x.val∧Di 109 2 x.atom.args Trm.enc h1 h∧x.atom.args.xs.length≤4098∧SQ l s=some x.er
theorem Aak.mono{l:List Prd}{s:Bs}{h1:Ae}:Bt (Aak l s h1):=fun _ _ _ hl ⟨a,e,o,n,r⟩=>⟨a,e,o.le hl,n,r⟩
theorem S3{l:List Prd}{ws:List Bs}{w:Bs}(hw:w∈ws)(h:SQ l w=none):litsR l ws=none:=by
 induction ws with
 |nil=>cases hw
 |cons x r ih=>
  rcases Afq.1 hw with rfl|hw
  ·simp[litsR,h]
  ·simp only[litsR,ih hw];cases SQ l x<;>rfl
theorem Rj{p:List Prd}{l:List Bs}{w:Bs}{ts:List Ltl}{t:Ltl}(hl:litsR p l=some ts)(h:SQ p w=some t):litsR p (l++[w])=some (ts++[t]):=by
 induction l generalizing ts with
 |nil=>simp[litsR] at hl;subst hl;simp[litsR,h]
 |cons x r ih=>
  simp only[litsR] at hl;cases hx:SQ p x with
  |none=>simp[hx] at hl
  |some y=>
   cases hr:litsR p r with
   |none=>simp[hx,hr] at hl
   |some ys=>
    simp[hx,hr] at hl;subst hl;simp[litsR,hx,ih hr]
theorem F3{a:Atm}{h0 h:Ae}(o:Di 109 2 a.args Trm.enc h0 h)(hl:a.args.xs.length≤4098):a.In h:=⟨o.in fun _=>rfl,by omega⟩
theorem ZG{B:Aq}{h:Ae}{M:List SA}{w:World}{b:Nat}{q q2:Option Addr}{c c2:Nat}{ps:List Prd}{rs:List Rul}(V:Iq h)(I:Inv B h (linM b q ps.length c q2 rs.length c2 ps rs M) w)(hps:ps.length≤4096)(hrs:rs.length≤4096)
  (hr:∀r∈rs,r.In h) (hnm:∀x∈ps,x.name.size≤4096) (hBh:B.h.le h) (s:ByteArray) (hs:s.size≤4096) :
  Calls prog 30 [Pt b,.string s].toArray w (Aay B h M b q ps.length c q2 rs.length c2 ps rs (tx s)):=by
 have htl:=BF s;obtain⟨rest,hrest⟩:∃x,Lib.trimPrefix (tx s) [112,114,101,100,32]=x:=⟨_,rfl⟩;obtain⟨pf,hpf⟩:∃x,Lib.hasPrefix (tx s) [112,114,101,100,32]=x:=⟨_,rfl⟩;obtain⟨sf,hsf⟩:∃x,Lib.hasSuffix (tx s) [46]=x:=⟨_,rfl⟩;obtain⟨s1,hs1⟩:∃x,Lib.trimSuffix (tx s) [46]=x:=⟨_,rfl⟩;have hL:Fa (ps,rs.map Rul.er) (tx s)=if pf=true∧sf=false then (OJ rest).map fun x=>(ps++[x],rs.map Rul.er)
   else if sf=false then none else (Rf ps s1).map fun r=>(ps,rs.map Rul.er++[r]):=by unfold Fa predW;rw[hpf,hsf,hrest,hs1]
 have hrl:rest.length≤s.size:=by have:=Lib.trimPrefix_le (tx s) [112,114,101,100,32];rw[hrest] at this;omega
 have hsl:s1.length≤s.size:=by have:=Lib.trimSuffix_le (tx s) [46];rw[hs1] at this;omega
 refine Ady (args:=[Pt b,.string s]) func30 rfl ntmps30 (by kernel_rfl) (by simp) fun e=>Abi<|Sr<|At0 Mv<|Abj (Abm I call69 (JR _ I.j6 s [112,114,101,100,32] hrest hpf) rfl fun w I=>Au Mv<|At0 (Y.extract rfl rfl)<|Ab (Y.extract rfl rfl)<|At0 Ag<|Ab Ag<|Abh<|Abi ?_);refine Acc (σ:=Unit) (fun _=>[(0,Pt b),(1,.string s),(4,.string (mk rest)),(30,.bool (pf && !sf))])
  (fun _ w=>Inv B h (linM b q ps.length c q2 rs.length c2 ps rs M) w) ?_ ?_
 ·cases pf with
  |false=>
   exact Abg<|Ab Mv<|AF (Y.b Mv (rfl))<|Gg<|Gg<|Gg<|Ab (Abp rfl rfl)<|Abh<|⟨(),⟨rfl,rfl,rfl,rfl,trivial⟩,I⟩
  |true=>
   exact Abg<|Ab Mv<|AT (Y.b Mv (rfl))<|Gt Mv<|Ab8 rfl (Abm I call38 (S1 _ I.j6 s (by omega) [46] hsf) rfl fun w I=>Gb (Y.not rfl)<|Ab (Abo rfl rfl)<|Abh<|⟨(),⟨rfl,rfl,rfl,rfl,trivial⟩,I⟩)
 rintro _ e w I;refine AbG rfl (fun h30=>?_) (fun h30=>?_)
 ·have h30':pf=true∧sf=false:=by simpa using h30
  rw[if_pos h30'] at hL;refine Sr<|At0 Mv<|Abj (AbE I call70 (L6 _ I.j6 V (mk rest) ⟨#[32]⟩ (by rw[Ar];omega) (Afg 1)) rfl ?_);rintro _ h1 w I gl1 ⟨ws,rfl,iws,hws⟩;refine As0 Ag<|Abh ?_;have hws':ws.xs.map tx=Lib.split rest [32]:=hws;have V1:=V.le gl1;by_cases h3:ws.xs.length=3
  ·obtain⟨x0,x1,x2,hx⟩:=Aa3 h3;have hR:OJ rest=match Du (tx x1),Du (tx x2) with|some a,some k=>some ⟨⟨(tx x0).toArray⟩,a,k⟩|_,_=>none:=by
    unfold OJ;rw[←hws',hx]<;>rfl
   have hwl:∀x∈ws.xs,x.size≤4096:=fun x hx=>by
    have:=JP (s:=rest) (sep:=[32]) (x:=tx x) (by rw[←hws'];exact Agp hx);rw[BF] at this;omega
   have hz0:=hwl x0 (by rw[hx];simp);have hz1:=hwl x1 (by rw[hx];simp);have hz2:=hwl x2 (by rw[hx];simp);refine Abi<|Aca _ (fun _ _ _ h=>h)<|Ab5 (v:=.slice _ _ _) Mv<|Ab5 (v:=.int .i64 _) (AbA Ais rfl)<|Ab5 (v:=.bool true) (Abs (AbI rfl rfl) ((by omega)))<|Bd.p (Acb I call32 (Cf _ I.j6 true) rfl (fun w' g p=>by cases p) ?_);rintro _ h2 w I gl2 ⟨_,rfl⟩;refine Acf ?_;have E0:=(iws.le gl2).el.el (i:=0) (x:=x0) (by rw[hx];rfl);have E1:=(iws.le gl2).el.el (i:=1) (x:=x1) (by rw[hx];rfl);have E2:=(iws.le gl2).el.el (i:=2) (x:=x2) (by rw[hx];rfl);have V2:=V1.le gl2;obtain⟨na,hna⟩:∃n,(Du (tx x1)).getD 0=n:=⟨_,rfl⟩;obtain⟨nk,hnk⟩:∃n,(Du (tx x2)).getD 0=n:=⟨_,rfl⟩;have bad1:Du (tx x1)=none→Fa (ps,rs.map Rul.er) (tx s)=none:=fun hh=>by rw[hL,hR,hh];rfl
   have bad2:Du (tx x2)=none→Fa (ps,rs.map Rul.er) (tx s)=none:=fun hh=>by rw[hL,hR,hh];cases Du (tx x1)<;>rfl
   refine Abi<|Ac7 _ (fun _ _ _ h=>h) AC RAp.pre ⟨h2,none⟩ (J:=JAp B (Ao 64 5 (.slice q2 rs.length c2) rs.length (rs.flatMap Rul.enc)::box b [.slice q ps.length c,.slice q2 rs.length c2] 25::M) 53 3 ps.length 1 (.slice q ps.length c) (ps.flatMap Prd.enc) (Prd.enc ⟨x0,na,nk⟩) 18) ⟨rfl,I.drew⟩ 19 (by kernel_rfl)<|Ab7 (v:=.pointer (some ⟨_,_,none⟩)) (fun _=>Aa _) RAp.pre (JAp.set (by decide)) (fun _ s w us hl hj=>have I:=hj.base;have hl:=hl.h;Mv)<|Ab7 (v:=.pointer (some ⟨_,_,none⟩)) (fun _=>Aa _) RAp.pre (JAp.set (by decide)) (fun _ s w us hl hj=>have I:=hj.base;have hl:=hl.h;Mv)<|Ab7 (v:=.pointer (some ⟨_,_,none⟩)) (fun _=>Aa _) RAp.pre (JAp.set (by decide)) (fun _ s w us hl hj=>have I:=hj.base;have hl:=hl.h;Ab4 rfl)<|Ab7 (v:=.pointer (some ⟨_,_,none⟩)) (fun _=>Aa _) RAp.pre (JAp.set (by decide)) (fun _ s w us hl hj=>have I:=hj.base;have hl:=hl.h;Abu At rfl)<|Ab7 (v:=.slice _ _ _) (fun _=>Aa _) RAp.pre (JAp.set (by decide)) (fun _ s w us hl hj=>have I:=hj.base;have hl:=hl.h;Ld I A7 1 0 1 rfl rfl rfl)<|Ab7 (v:=.slice _ _ _) (fun _=>Aa _) RAp.pre (JAp.set (by decide)) (fun _ s w us hl hj=>have I:=hj.base;have hl:=hl.h;Mv)<|Ab7 (v:=.pointer (some ⟨_,_,none⟩)) (fun _=>Aa _) RAp.pre (JAp.set (by decide)) (fun _ s w us hl hj=>have I:=hj.base;have hl:=hl.h;AbJ E0 Ais AiJ rfl rfl (by decide) rfl)<|Ab7 (v:=.string _) (fun _=>Aa _) RAp.pre (JAp.set (by decide)) (fun _ s w us hl hj=>have I:=hj.base;have hl:=hl.h;Abn HW rfl (I.rd ((E0.rd.part 0 1).le hl)) rfl rfl)<|Ab7 (v:=.slice _ _ _) (fun _=>Aa _) RAp.pre (JAp.set (by decide)) (fun _ s w us hl hj=>have I:=hj.base;have hl:=hl.h;Mv)<|Ab7 (v:=.pointer (some ⟨_,_,none⟩)) (fun _=>Aa _) RAp.pre (JAp.set (by decide)) (fun _ s w us hl hj=>have I:=hj.base;have hl:=hl.h;AbJ E1 Ais AiJ rfl rfl (by decide) rfl)<|Ab7 (v:=.string _) (fun _=>Aa _) RAp.pre (JAp.set (by decide)) (fun _ s w us hl hj=>have I:=hj.base;have hl:=hl.h;Abn HW rfl (I.rd ((E1.rd.part 0 1).le hl)) rfl rfl) ?_;refine Acw (Φ:=K7 (Xx (Du (tx x1)=some na) (.int .i64 na))) (K7.mono Xx.mono) (fun _=>Aa _) (fun D' z w hDk hl hj=>?_) ?_
   ·refine FR.all fun us=>hj.knowP (by decide) fun N hN I=>?_;have hl:=hl.h;refine Acb I call71 (K8 _ I.j6 (V2.le hl) x1 (by omega)) rfl (fun w' g p=>⟨rfl,⟨_,by subst hN;exact(I.grow g).drop.drop⟩,bad1 p⟩) ?_;rintro _ h1 w I hl' ⟨m,hm,rfl⟩;exact⟨_,hl',I,by rw[hm] at hna;subst hna;exact⟨hm,rfl⟩⟩
   refine Ab7 (v:=.slice _ _ _) (fun _=>Aa _) RAp.pre (JAp.set (by decide)) (fun _ s w us hl hj=>have I:=hj.base;have hl:=hl.h;Mv)<|Ab7 (v:=.pointer (some ⟨_,_,none⟩)) (fun _=>Aa _) RAp.pre (JAp.set (by decide)) (fun _ s w us hl hj=>have I:=hj.base;have hl:=hl.h;AbJ E2 Ais AiJ rfl rfl (by decide) rfl)<|Ab7 (v:=.string _) (fun _=>Aa _) RAp.pre (JAp.set (by decide)) (fun _ s w us hl hj=>have I:=hj.base;have hl:=hl.h;Abn HW rfl (I.rd ((E2.rd.part 0 1).le hl)) rfl rfl) ?_;refine Acw (Φ:=K7 (Xx (Du (tx x2)=some nk) (.int .i64 nk))) (K7.mono Xx.mono) (fun _=>Aa _) (fun D' z w hDk hl hj=>?_) ?_
   ·intro u48 q48;refine hj.knowP (by decide) fun N hN I=>?_;have hl:=hl.h;refine Acb I call71 (K8 _ I.j6 (V2.le hl) x2 (by omega)) rfl (fun w' g p=>⟨rfl,⟨_,by subst hN;exact(I.grow g).drop.drop⟩,bad2 p⟩) ?_;rintro _ h1 w I hl' ⟨m,hm,rfl⟩;exact⟨_,hl',I,by rw[hm] at hnk;subst hnk;exact⟨hm,rfl⟩⟩
   refine Acw (Φ:=K7 (EqV (.agg #[.string x0,.int .i64 na,.int .i64 nk]))) (K7.mono EqV.mono) (fun _=>Aa _) (fun D' z w hDk hl hj=>?_) ?_
   ·intro u48 q48 u52 q52;obtain⟨_,rfl⟩:=q48 rfl;obtain⟨_,rfl⟩:=q52 rfl;refine DN.of<|hj.know (by decide) fun N I=>?_;have hl:=hl.h;exact AcJ I (Y.build Sa AiB rfl rfl) (rfl)
   refine Acw (Φ:=KnA (LK 53 (Prd.enc ⟨x0,na,nk⟩) 1)) (KnA.mono LK.mono) (fun _=>Aa _) (fun D' z w hDk hl hj=>?_) ?_
   ·intro u48 q48 u52 q52 u53 q53;obtain rfl:u53=.agg #[.string x0,.int .i64 na,.int .i64 nk]:=q53 rfl;exact DN.of<|hj.know (by decide) fun N I=>AcM (cs:=Prd.enc ⟨x0,na,nk⟩) I Aia Aim AiB (by decide) (by decide) rfl rfl (fun v h w I le sl=>⟨h,le,I,sl⟩)
   refine Acw (Φ:=ON (ps.length+1)) ON.mono (fun _=>Aa _) (fun D' z w hDk hl hj=>?_) ?_
   ·intro u48 q48 u52 q52 u53 q53 u54 q54;obtain⟨bl,rfl,hbl⟩:=q54 rfl;refine DN.of<|hj.app hDk fun I=>?_;have kb:Ci z.h bl (Prd.enc ⟨x0,na,nk⟩):=⟨fun j v hv=>by simp[Ae.cell,hbl,hv]⟩;exact Ab0 I Aia Vg 0 rfl rfl rfl (I.rd kb.rd) rfl rfl (by decide) (by omega) (by omega) fun g c w I=>⟨g,c,rfl,I⟩
   refine Adu fun D z w hD hl hj u48 q48 u52 q52 u53 q53 u54 q54 u55 q55=>?_;obtain⟨g,c3,rfl,h7⟩:=q55 rfl;have I:=hj.inv;rw[h7] at I;obtain⟨hn1,_⟩:=q48 rfl;obtain⟨hn2,_⟩:=q52 rfl;refine Ab5 (v:=.pointer (some ⟨_,_,none⟩)) (Ab4 rfl)<|Ab5 (v:=.pointer (some ⟨_,_,none⟩)) (Abu At rfl)<|AcN (Ss0 I A7 2 rfl rfl rfl rfl fun w I=>Acf<|Acv ?_);exact⟨[],trivial,rfl,z.h,some ⟨g,0,none⟩,c3,q2,c2,ps++[⟨x0,na,nk⟩],rs,(gl1.trans gl2).trans hl.h,by unfold linM;rw[Ae2,Afm,AfT];exact I,by rw[hL,hR,hn1,hn2];simp only[M2];rfl,fun r hm=>(hr r hm).le ((gl1.trans gl2).trans hl.h),fun x hm=>by
    rcases Afu.1 hm with hm|hm
    ·exact hnm x hm
    ·rw[Afl] at hm;subst hm;exact hz0,by simp,by omega⟩
  ·have bad0:Fa (ps,rs.map Rul.er) (tx s)=none:=by
    rw[hL];unfold OJ;rw[←hws'];split
    ·rename_i n a k he;exact absurd (by have:=congrArg List.length he;simpa using this) h3
    ·rfl
   refine Abi<|Aca _ (fun _ _ _ h=>h)<|Ab5 (v:=.slice _ _ _) Mv<|Ab5 (v:=.int .i64 _) (AbA Ais rfl)<|Ab5 (v:=.bool false) (Abt (AbI rfl rfl) ((by omega)))<|Bd.p (Acb I call32 (Cf _ I.j6 false) rfl (fun w' g _=>⟨rfl,⟨_,(I.grow g).drop.drop⟩,bad0⟩) ?_);rintro _ h2 w I gl2 ⟨hh,_⟩;refine Acf ?_;cases hh
 have h30':¬(pf=true∧sf=false):=fun hh=>by rw[hh.1,hh.2] at h30;simp at h30
 rw[if_neg h30'] at hL;refine Abk<|Sr<|At0 Mv<|Abj (Abm I call72 (S0 _ I.j6 s (by omega) [46] hs1 hsf) rfl fun w I=>Au Mv<|At0 (Y.extract rfl rfl)<|Ab (Y.extract rfl rfl)<|At0 Ag<|Ab Ag<|Abh ?_);cases sf with
 |false=>
  have bad:Fa (ps,rs.map Rul.er) (tx s)=none:=by rw[hL,if_pos rfl]
  refine Abi<|Aca _ (fun _ _ _ h=>h)<|Ab5 (v:=.bool _) Mv<|Bd.p (Acb I call32 (Cf _ I.j6 false) rfl (fun w' g _=>⟨rfl,⟨_,(I.grow g).drop.drop⟩,bad⟩) ?_);rintro _ h2 w I gl2 ⟨hh,_⟩;refine Acf ?_;cases hh
 |true=>
 rw[if_neg (by decide)] at hL;refine Abi<|Aca _ (fun _ _ _ h=>h)<|Ab5 (v:=.bool _) Mv<|Bd.p (Acb I call32 (Cf _ I.j6 true) rfl (fun w' g p=>by cases p) ?_);rintro _ h1 w I gl1 ⟨_,rfl⟩;refine Acf ?_;have V1:=V.le gl1;have hcl1:=Cw s1 [32,58,45,32];obtain⟨hd,bd,has,hcut⟩:∃x y z,Lib.cut s1 [32,58,45,32]=(x,y,z):=⟨_,_,_,rfl⟩;have hcl2:=Cw hd [32,61,32];obtain⟨hd1,va,isv,hcut2⟩:∃x y z,Lib.cut hd [32,61,32]=(x,y,z):=⟨_,_,_,rfl⟩;rw[hcut] at hcl1;rw[hcut2] at hcl2;dsimp only at hcl1 hcl2;have hH:hdR hd=(hd1,if isv=true then Vr va else some (-1,0)):=by unfold hdR;rw[hcut2]
 have hR:Rf ps s1=match (if isv=true then Vr va else some (-1,0)) with
   |none=>none
   |some v=>match Ev ps hd1 with
    |none=>none
    |some a=>if has=true then (litsR ps (Lib.split bd [44,32])).map (mkR a v) else some (mkR a v []):=by
  unfold Rf;rw[hcut];simp only[hH]<;>rfl
 have badV:(if isv=true then Vr va else some (-1,0))=none→Fa (ps,rs.map Rul.er) (tx s)=none:=fun hh=>by rw[hL,hR,hh];rfl
 refine Sr<|At0 Mv<|Abj (Abm I call73 (S2 _ I.j6 V1 (mk s1) (by rw[Ar];omega) [32,58,45,32] hcut) rfl fun w I=>Av Mv<|At0 (Y.extract rfl rfl)<|At0 (Y.extract rfl rfl)<|Ab (Y.extract rfl rfl)<|At0 Ag<|At0 Ag<|Ab Ag<|Abh<|Sr<|AbB (v:=.agg #[.int .i64 _,.slice _ _ _,.int .i64 _,.int .i64 _,.slice _ _ _]) (Y.build LQ Aip rfl rfl)<|Abj (O.alloc I Aip rfl fun b11 w I=>Abj (Ab3 (v:=.agg #[_,_,_,_,_]) I C0 0 rfl rfl rfl rfl rfl rfl (Nb rfl) rfl fun w I=>Abh<|Sr<|At0 Mv<|Abj (Abm I call73 (S2 _ I.j6 V1 (mk hd) (by rw[Ar];omega) [32,61,32] hcut2) rfl fun w I=>Av Mv<|At0 (Y.extract rfl rfl)<|At0 (Y.extract rfl rfl)<|Ab (Y.extract rfl rfl)<|At0 Ag<|At0 Ag<|Ab Ag<|Abh<|Abi<|Sr<|Ab Mv<|Abh ?_))));refine Ack (σ:=(Int×Int)×Ae) (fun _=>[(0,Pt b),(8,.string (mk hd1)),(9,.string (mk bd)),(10,.bool has),(11,Pt b11)])
  (fun s w=>Inv B s.2 (box b11 [.int .i64 0,.slice none 0 0,.int .i64 s.1.1,.int .i64 s.1.2,.slice none 0 0] 64::linM b q ps.length c q2 rs.length c2 ps rs M) w∧(if isv=true then Vr va else some (-1,0))=some s.1∧h1.le s.2) ?_ ?_
 ·refine AbG rfl (fun h10=>?_) (fun h10=>?_)
  ·have h10':isv=true:=h10;have hcl3:=Cw va [43];obtain⟨f0,n0,pl,hcut3⟩:∃x y z,Lib.cut va [43]=(x,y,z):=⟨_,_,_,rfl⟩;rw[hcut3] at hcl3;dsimp only at hcl3;have hV:Vr va=if pl=true then if Lib.hasPrefix f0 [35]=false then none else (match Du (Lib.trimPrefix f0 [35]),Du n0 with|some a,some b=>some (a,b)|_,_=>none) else (Du va).map fun n=>(-1,n):=by unfold Vr;rw[hcut3]<;>rfl
   rw[if_pos h10'] at badV;refine Sr<|At0 Mv<|Abj (Abm I call73 (S2 _ I.j6 V1 (mk va) (by rw[Ar];omega) [43] hcut3) rfl fun w I=>Av Mv<|At0 (Y.extract rfl rfl)<|At0 (Y.extract rfl rfl)<|Ab (Y.extract rfl rfl)<|At0 Ag<|At0 Ag<|Ab Ag<|Abh<|Sr<|Ab Mv<|Abh ?_);refine AbG rfl (fun h12=>?_) (fun h12=>?_)
   ·have h12':pl=true:=h12;rw[if_pos h12'] at hV;have hfl:=Lib.trimPrefix_le f0 [35];obtain⟨f1,hf1⟩:∃x,Lib.trimPrefix f0 [35]=x:=⟨_,rfl⟩;obtain⟨hf,hhf⟩:∃x,Lib.hasPrefix f0 [35]=x:=⟨_,rfl⟩;rw[hf1] at hfl hV;rw[hhf] at hV;refine Sr<|At0 Mv<|Abj (Abm I call69 (JR _ I.j6 (mk f0) [35] hf1 hhf) rfl fun w I=>Au Mv<|At0 (Y.extract rfl rfl)<|Ab (Y.extract rfl rfl)<|At0 Ag<|Ab Ag<|Abh ?_);cases hf with
    |false=>
     have bad:=badV (by rw[hV,if_pos rfl]);refine Abi<|Aca _ (fun _ _ _ h=>h)<|Ab5 (v:=.bool _) Mv<|Bd.p (Acb I call32 (Cf _ I.j6 false) rfl (fun w' g _=>⟨rfl,⟨_,(I.grow g).drop.drop.drop⟩,bad⟩) ?_);rintro _ h2 w I gl2 ⟨hh,_⟩;refine Acf ?_;cases hh
    |true=>
    rw[if_neg (by decide)] at hV;refine Abi<|Aca _ (fun _ _ _ h=>h)<|Ab5 (v:=.bool _) Mv<|Bd.p (Acb I call32 (Cf _ I.j6 true) rfl (fun w' g p=>by cases p) ?_);rintro _ h2 w I gl2 ⟨_,rfl⟩;refine Acf<|Aca _ (fun _ _ _ h=>h)<|Ab5 (v:=.string _) Mv<|Bd.p (Acb I call71 (K8 _ I.j6 (V1.le gl2) (mk f1) (by rw[Ar];omega)) rfl (fun w' g p=>⟨rfl,⟨_,(I.grow g).drop.drop.drop⟩,badV (by rw[hV];rw[show Du f1=none from p])⟩) ?_);rintro _ h3 w I gl3 ⟨m1,hm1,rfl⟩;refine Ab5 (v:=.string _) Mv<|Bd.p (Acb I call71 (K8 _ I.j6 (V1.le (gl2.trans gl3)) (mk n0) (by rw[Ar];omega)) rfl (fun w' g p=>⟨rfl,⟨_,(I.grow g).drop.drop.drop⟩,badV (by rw[hV];rw[show Du n0=none from p];cases Du f1<;>rfl)⟩) ?_);rintro _ h4 w I gl4 ⟨m2,hm2,rfl⟩;exact Ab5 (v:=.pointer (some ⟨_,_,none⟩)) (Abr AV rfl)<|AcN (Si I An 0 rfl rfl rfl rfl fun w I=>Ab5 (v:=.pointer (some ⟨_,_,none⟩)) (Abr BJ rfl)<|AcN (Si I An 0 rfl rfl rfl rfl fun w I=>Acf<|⟨((m1,m2),h4),⟨rfl,rfl,rfl,rfl,rfl,trivial⟩,I,by rw[if_pos h10',hV];rw[show Du f1=some m1 from hm1,show Du n0=some m2 from hm2],(gl2.trans gl3).trans gl4⟩))
   ·have h12':¬pl=true:=by rw[h12];decide
    rw[if_neg h12'] at hV;refine Aca _ (fun _ _ _ h=>h)<|Ab5 (v:=.string _) Mv<|Bd.p (Acb I call71 (K8 _ I.j6 V1 (mk va) (by rw[Ar];omega)) rfl (fun w' g p=>⟨rfl,⟨_,(I.grow g).drop.drop.drop⟩,badV (by rw[hV];rw[show Du va=none from p];rfl)⟩) ?_);rintro _ h3 w I gl3 ⟨m1,hm1,rfl⟩;refine Ab5 (v:=.pointer (some ⟨_,_,none⟩)) (Abr BJ rfl)<|AcN (Si I An 0 rfl rfl rfl rfl fun w I=>Acf ?_);exact⟨((-1,m1),h3),⟨rfl,rfl,rfl,rfl,rfl,trivial⟩,I,by rw[if_pos h10',hV];rw[show Du va=some m1 from hm1];rfl,gl3⟩
  ·have h10':¬isv=true:=by rw[h10];decide
   refine Abk ?_;exact⟨((-1,0),h1),⟨rfl,rfl,rfl,rfl,rfl,trivial⟩,I,by rw[if_neg h10'],Ae.le.refl _⟩
 rintro⟨v,h5⟩ e w ⟨I,hv,gl5⟩;dsimp only at I hv gl5 ⊢;rw[hv] at hR;dsimp only at hR;obtain⟨h6,sp,le6,hvp,hxp,osp,J⟩:=(I.front 1 rfl).y5 rfl;clear I;have I:Inv B h6 (box b11 [.int .i64 0,.slice none 0 0,.int .i64 v.1,.int .i64 v.2,.slice none 0 0] 64::Ao 64 5 (.slice q2 rs.length c2) rs.length (rs.flatMap Rul.enc)::box b [sp.val,.slice q2 rs.length c2] 25::M) w:=by rw[hvp];exact J
 have isp:HQ sp h6:=⟨osp.in (fun _=>rfl),by rw[hxp];omega⟩;have V6:=V1.le (gl5.trans le6);have hbx:∀{h':Ae} {w':World},Inv B h' (box b [sp.val,.slice q2 rs.length c2] 25::M) w'→∃h',Inv B h' (box b [.slice q ps.length c,.slice q2 rs.length c2] 25::M) w':=fun J=>by rw[hvp] at J;exact⟨_,J⟩
 refine Abi<|Aca _ (fun _ _ _ h=>h)<|Ab5 (v:=.pointer (some ⟨_,_,none⟩)) Mv<|Ab5 (v:=.pointer (some ⟨_,_,none⟩)) (Ab4 rfl)<|Ab5 (v:=.pointer (some ⟨_,_,none⟩)) (Abu At rfl)<|Ab5 (v:=.slice _ _ _) (Ld I A7 2 0 1 rfl rfl rfl)<|Ab5 (v:=.string _) Mv<|Bd.p (Acb I call74 (OO _ I.j6 V6 sp isp (mk hd1) (by rw[Ar];omega)) rfl (fun w' g p=>⟨rfl,hbx (I.grow g).drop.drop,by rw[hxp] at p;rw[hL,hR,show Ev ps hd1=none from p];rfl⟩) ?_);rintro _ h7 w I gl7 ⟨a1,rfl,oa1,la1,ra1⟩;refine Ab5 (v:=.pointer (some ⟨_,_,none⟩)) (Abu Bw rfl)<|AcN (Sx I AP 0 rfl rfl rfl rfl fun w I=>Acf ?_);rw[hxp] at ra1;rw[show Ev ps hd1=some a1.er from ra1] at hR;dsimp only at hR;have V7:=V6.le gl7;refine Abi<|Sr<|At0 Mv<|Abj (AbE I call70 (L6 _ I.j6 V7 (mk bd) ⟨#[44,32]⟩ (by rw[Ar];omega) (by decide)) rfl ?_);rintro _ h8 w I gl8 ⟨ws,rfl,iws,hws⟩;refine Ai (AbA Ais rfl)<|Ai Mv<|Abh ?_;have hws':ws.xs.map tx=Lib.split bd [44,32]:=hws;have hwl:∀x∈ws.xs,x.size≤4096:=fun x hx=>by
  have:=JP (s:=bd) (sep:=[44,32]) (x:=tx x) (by rw[←hws'];exact Agp hx);rw[BF] at this;omega
 have hwsm:ws.xs.length≤4098:=by
  have h1:=Nw bd [44,32];rw[←hws',Afw] at h1;omega
 have V8:=V7.le gl8;have isp8:=isp.le (gl7.trans gl8);refine Ack (σ:=Option Addr×Nat×Nat×Ae×List Ltl) (fun _=>[(0,Pt b),(11,Pt b11)])
  (fun s w=>Inv B s.2.2.2.1 (Ao 68 3 (.slice s.1 s.2.1 s.2.2.1) s.2.1 (s.2.2.2.2.flatMap Ltl.enc)::box b11 [.int .i64 a1.pred,a1.args.val,.int .i64 v.1,.int .i64 v.2,.slice s.1 s.2.1 s.2.2.1] 64::Ao 64 5 (.slice q2 rs.length c2) rs.length (rs.flatMap Rul.enc)::box b [sp.val,.slice q2 rs.length c2] 25::M) w∧h8.le s.2.2.2.1∧s.2.2.2.2.length=s.2.1∧s.2.1≤4098∧
   (∀x∈s.2.2.2.2,Di 109 2 x.atom.args Trm.enc h7 s.2.2.2.1∧x.atom.args.xs.length≤4098)∧(if has=true then (litsR ps (Lib.split bd [44,32])).map (mkR a1.er v) else some (mkR a1.er v []))=some (mkR a1.er v (s.2.2.2.2.map Ltl.er))) ?_ ?_
 ·cases has with
  |false=>
   refine WP.block ?_;refine Abx (σ:=Unit) (fun _=>[(0,Pt b),(10,.bool false),(11,Pt b11),(110,ws.val),(111,.int .i64 ws.xs.length),(112,.int .i64 0)])
    (fun _ w=>Inv B h8 (box b11 [.int .i64 a1.pred,a1.args.val,.int .i64 v.1,.int .i64 v.2,.slice none 0 0] 64::Ao 64 5 (.slice q2 rs.length c2) rs.length (rs.flatMap Rul.enc)::box b [sp.val,.slice q2 rs.length c2] 25::M) w) (fun _=>0)
    ⟨(),⟨rfl,rfl,rfl,rfl,rfl,rfl,trivial⟩,I⟩ ?_
   rintro _ e w I;refine Sr<|Ad (AbC rfl rfl)<|Abh<|Abi ?_;refine Abl rfl (fun h19=>?_) (fun h19=>?_)
   ·have E:=iws.at (i:=0) (by omega);exact Abk<|Abi<|WP.block<|Sr<|Ap (Ix E Ais AiJ rfl rfl)<|At0 (Abn HW rfl (I.rd (E.rd.part 0 1)) rfl rfl)<|At0 Ag<|Abh<|Abi<|Sr<|Ab Mv<|Ab (Y.not rfl)<|Abh<|Abw rfl<|Abz<|⟨(none,0,0,h8,[]),⟨rfl,rfl,trivial⟩,I.l9 68 3,Ae.le.refl _,rfl,Afa _,fun x hx=>(by cases hx),by rw[if_neg (by decide)];rfl⟩
   ·exact Abz<|⟨(none,0,0,h8,[]),⟨rfl,rfl,trivial⟩,I.l9 68 3,Ae.le.refl _,rfl,Afa _,fun x hx=>(by cases hx),by rw[if_neg (by decide)];rfl⟩
  |true=>
   rw[if_pos rfl] at hR;refine WP.block ?_;refine Abx (σ:=Nat×Option Addr×Nat×Ae×List Ltl) (fun s=>[(0,Pt b),(10,.bool true),(11,Pt b11),(110,ws.val),(111,.int .i64 ws.xs.length),(112,.int .i64 s.1)])
    (fun s w=>Inv B s.2.2.2.1 (Ao 68 3 (.slice s.2.1 s.1 s.2.2.1) s.1 (s.2.2.2.2.flatMap Ltl.enc)::box b11 [.int .i64 a1.pred,a1.args.val,.int .i64 v.1,.int .i64 v.2,.slice s.2.1 s.1 s.2.2.1] 64::Ao 64 5 (.slice q2 rs.length c2) rs.length (rs.flatMap Rul.enc)::box b [sp.val,.slice q2 rs.length c2] 25::M) w∧s.1≤ws.xs.length∧h8.le s.2.2.2.1∧s.2.2.2.2.length=s.1∧
     (∀x∈s.2.2.2.2,Di 109 2 x.atom.args Trm.enc h7 s.2.2.2.1∧x.atom.args.xs.length≤4098)∧litsR ps ((ws.xs.take s.1).map tx)=some (s.2.2.2.2.map Ltl.er)) (fun s=>ws.xs.length-s.1)
    ⟨(0,none,0,h8,[]),⟨rfl,rfl,rfl,rfl,rfl,rfl,trivial⟩,I.l9 68 3,Afa _,Ae.le.refl _,rfl,fun x hx=>(by cases hx),rfl⟩ ?_
   rintro⟨k,q3,c3,hh,ls⟩ e w ⟨I,hk,gl,hlen,hown,hls⟩;dsimp only at I hk gl hlen hown hls ⊢;refine Sr<|Ad (AbC rfl rfl)<|Abh<|Abi ?_;refine Abl rfl (fun h19=>?_) (fun h19=>?_)
   ·have hk':k<ws.xs.length:=by omega
    have E:=(iws.le gl).at hk';obtain⟨x,hx⟩:∃x,ws.xs[k]=x:=⟨_,rfl⟩;have hxm:x∈ws.xs:=hx▸Ae5 hk';have hxl:=hwl x hxm;have hxt:=BF x;have hnx:(ws.xs.take (k+1)).map tx=(ws.xs.take k).map tx++[tx x]:=by rw[AfS,Ae4 hk',hx];simp
    rw[hx] at E;have htr:=Lib.trimPrefix_le (tx x) [33];obtain⟨tr,htr2⟩:∃y,Lib.trimPrefix (tx x) [33]=y:=⟨_,rfl⟩;obtain⟨ng,hng⟩:∃y,Lib.hasPrefix (tx x) [33]=y:=⟨_,rfl⟩;rw[htr2] at htr;have hlit:SQ ps (tx x)=(Ev ps tr).map fun a=>⟨ng,a⟩:=by unfold SQ;rw[htr2,hng]
    have badL:Ev ps tr=none→Fa (ps,rs.map Rul.er) (tx s)=none:=fun hp=>by
     rw[hL,hR,←hws',S3 (Agp hxm) (by rw[hlit,hp];rfl)];rfl
    refine Abk<|Abi<|WP.block<|Sr<|Ap (Ix E Ais AiJ rfl rfl)<|At0 (Abn HW rfl (I.rd (E.rd.part 0 1)) rfl rfl)<|At0 Ag<|Abh<|Abi<|Sr<|Ab Mv<|Ab (Y.not rfl)<|Abh<|Abq rfl<|Abk<|Sr<|At0 Mv<|Abj (Abm I call69 (JR _ I.j6 x [33] htr2 hng) rfl fun w I=>Au Mv<|At0 (Y.extract rfl rfl)<|Ab (Y.extract rfl rfl)<|At0 Ag<|Ab Ag<|Abh<|Ac7 _ (fun _ _ _ h=>h) AC RAq.pre ⟨hh,none⟩ (J:=JAq B (box b11 [.int .i64 a1.pred,a1.args.val,.int .i64 v.1,.int .i64 v.2,.slice q3 k c3] 64::Ao 64 5 (.slice q2 rs.length c2) rs.length (rs.flatMap Rul.enc)::box b [sp.val,.slice q2 rs.length c2] 25::M) 68 3 k 1 (.slice q3 k c3) (ls.flatMap Ltl.enc) 11) ⟨rfl,I.drew⟩ 12 (by kernel_rfl)<|Ab7 (v:=.pointer (some ⟨_,_,none⟩)) (fun _=>Aa _) RAq.pre (JAq.set (by decide)) (fun _ s w us hl hj=>have I:=hj.base;have hl:=hl.h;Abr AG rfl)<|Ab7 (v:=.slice _ _ _) (fun _=>Aa _) RAq.pre (JAq.set (by decide)) (fun _ s w us hl hj=>have I:=hj.base;have hl:=hl.h;Ld I Bi 0 4 1 rfl rfl rfl)<|Ab7 (v:=.bool _) (fun _=>Aa _) RAq.pre (JAq.set (by decide)) (fun _ s w us hl hj=>have I:=hj.base;have hl:=hl.h;Mv)<|Ab7 (v:=.pointer (some ⟨_,_,none⟩)) (fun _=>Aa _) RAq.pre (JAq.set (by decide)) (fun _ s w us hl hj=>have I:=hj.base;have hl:=hl.h;Mv)<|Ab7 (v:=.pointer (some ⟨_,_,none⟩)) (fun _=>Aa _) RAq.pre (JAq.set (by decide)) (fun _ s w us hl hj=>have I:=hj.base;have hl:=hl.h;Ab4 rfl)<|Ab7 (v:=.pointer (some ⟨_,_,none⟩)) (fun _=>Aa _) RAq.pre (JAq.set (by decide)) (fun _ s w us hl hj=>have I:=hj.base;have hl:=hl.h;Abu At rfl)<|Ab7 (v:=.slice _ _ _) (fun _=>Aa _) RAq.pre (JAq.set (by decide)) (fun _ s w us hl hj=>have I:=hj.base;have hl:=hl.h;Ld I A7 2 0 1 rfl rfl rfl)<|Ab7 (v:=.string _) (fun _=>Aa _) RAq.pre (JAq.set (by decide)) (fun _ s w us hl hj=>have I:=hj.base;have hl:=hl.h;Mv) ?_);refine Acw (Φ:=PM (Aaj sp.xs tr h7)) (PM.mono Aaj.mono) (fun _=>Aa _) (fun D' z w hDk hl hj=>?_) ?_
    ·refine FR.all fun us=>hj.knowP (by decide) fun N hN I=>?_;have hl:=hl.h;refine Acb I call74 (OO _ I.j6 (V8.le (gl.trans hl)) sp (isp8.le (gl.trans hl)) (mk tr) (by rw[Ar];omega)) rfl (fun w' g p=>⟨rfl,by subst hN;exact hbx (I.grow g).drop.drop.drop,badL (by rw[hxp] at p;exact p)⟩) ?_;rintro _ h1 w I hl' ⟨a,rfl,oa,la,ra⟩;exact⟨_,hl',I,⟨a,rfl,oa.older (gl8.trans (gl.trans hl)),la,ra⟩⟩
    refine Acw (Φ:=PM (Aak sp.xs (tx x) h7)) (PM.mono Aak.mono) (fun _=>Aa _) (fun D' z w hDk hl hj=>?_) ?_
    ·intro u131 q131;obtain⟨a,rfl,oa,la,ra⟩:=q131 rfl;refine DN.of<|hj.know (by decide) fun N I=>?_;have hl:=hl.h;exact AcJ I (Y.build Vd Aiu rfl rfl) (⟨⟨ng,a⟩,rfl,oa,la,by rw[hxp] at ra ⊢;rw[hlit,ra];rfl⟩)
    refine Acw (Φ:=PM (Zb 68 (Zc sp.xs (tx x) h7))) (PM.mono (Zb.mono Zc.mono)) (fun _=>Aa _) (fun D' z w hDk hl hj=>?_) ?_
    ·intro u131 q131 u132 q132;obtain⟨y,rfl,oy,ly,ry⟩:=q132 rfl;exact DN.of<|hj.know (by decide) fun N I=>AcM (cs:=y.enc) I Aib Ail Aiu (by decide) (by decide) rfl rfl (fun v h w I le sl=>⟨h,le,I,y.enc,sl,y,rfl,oy.le le,ly,ry⟩)
    refine Acw (Φ:=X6 (Zc sp.xs (tx x) h7) (k+1)) (X6.mono Zc.mono) (fun _=>Aa _) (fun D' z w hDk hl hj=>?_) ?_
    ·intro u131 q131 u132 q132 u133 q133;obtain⟨cs,⟨bl,rfl,hbl⟩,y,rfl,oy,ly,ry⟩:=q133 rfl;refine DN.of<|hj.app hDk fun I=>?_;have kb:Ci z.h bl y.enc:=⟨fun j v hv=>by simp[Ae.cell,hbl,hv]⟩;exact Ab0 I Aib ZA 0 rfl rfl rfl (I.rd kb.rd) rfl rfl (by decide) (by omega) (by omega) fun g c w I=>⟨g,c,y.enc,rfl,⟨y,rfl,oy,ly,ry⟩,I⟩
    refine Adu fun D z w hD hl hj u131 q131 u132 q132 u133 q133 u134 q134=>?_;obtain⟨g,c4,cs,rfl,h7',y,rfl,oy,ly,ry⟩:=q134 rfl;have I:=hj.inv;rw[h7'] at I;refine Ab5 (v:=.pointer (some ⟨_,_,none⟩)) (Abr AG rfl)<|AcN (Ss0 I Bi 1 rfl rfl rfl rfl fun w I=>Acf<|Abg<|Ai (Dd rfl rfl)<|Ai Mv<|Abh ?_);rw[hxp] at ry;refine⟨(k+1,some ⟨g,0,none⟩,c4,z.h,ls++[y]),⟨⟨rfl,rfl,rfl,rfl,rfl,rfl,trivial⟩,?_,by dsimp only;omega,gl.trans hl.h,by simp[hlen],fun x hx=>?_,by dsimp only;rw[hnx,AfM];exact Rj hls ry⟩,by dsimp only;omega⟩
    ·dsimp only;rw[Afm,AfT];exact I
    ·rcases Afu.1 hx with hx|hx
     ·exact⟨(hown x hx).1.le hl.h,(hown x hx).2⟩
     ·rw[Afl] at hx;subst hx;exact⟨oy,ly⟩
   obtain rfl:k=ws.xs.length:=by omega
   rw[Afo] at hls;refine Abz ?_;exact⟨(q3,_,c3,hh,ls),⟨rfl,rfl,trivial⟩,I,gl,hlen,hwsm,hown,by rw[if_pos rfl,←hws',hls];rfl⟩
 rintro⟨q3,n3,c3,hh,ls⟩ e w ⟨I,gl,hlen,hn3,hown,hmk⟩;dsimp only at I gl hlen hn3 hown hmk ⊢;rw[hmk] at hR;obtain⟨h9,sb,le9,hvb,hxb,osb,J⟩:=I.y5 hlen.symm;clear I;have gl9:=gl.trans le9;have osp9:=osp.le ((gl7.trans gl8).trans gl9);have I:Inv B h9 (box b11 [.int .i64 a1.pred,a1.args.val,.int .i64 v.1,.int .i64 v.2,sb.val] 64::Ao 64 5 (.slice q2 rs.length c2) rs.length (rs.flatMap Rul.enc)::box b [sp.val,.slice q2 rs.length c2] 25::M) w:=by rw[hvb];exact J
 obtain⟨h10,K,mono10,keep10⟩:=I.x9 osp9 ((hBh.trans gl1).trans gl5);clear I J;have gl10:h.le h10:=mono10 h (((((gl1.trans gl5).trans le6).trans gl7).trans gl8).trans gl9) (gl1.trans gl5);have oa10:=((oa1.le (gl8.trans gl9)).keep osp keep10);have ob10:=((osb.older ((gl7.trans gl8).trans gl)).keep osp keep10);have ol10:∀x∈ls,Di 109 2 x.atom.args Trm.enc h6 h10:=fun x hx=>(((hown x hx).1.le le9).older gl7).keep osp keep10;obtain⟨r,hrd⟩:∃r:Rul,r=⟨a1,v.1,v.2,sb⟩:=⟨_,rfl⟩;have hrin:r.In h10:=by
  subst hrd;exact⟨F3 oa10 la1,⟨ob10.in fun _=>rfl,by show sb.xs.length≤_;rw[hxb];omega⟩,fun x hx=>F3 (ol10 x (by rw[←hxb];exact hx)) (hown x (by rw[←hxb];exact hx)).2⟩
 have hrer:r.er=mkR a1.er v (ls.map Ltl.er):=by subst hrd;unfold Rul.er mkR;rw[hxb]
 have I:Inv B h10 (Ao 64 5 (.slice q2 rs.length c2) rs.length (rs.flatMap Rul.enc)::Ao 53 3 (.slice q ps.length c) ps.length (ps.flatMap Prd.enc)::box b11 r.enc 64::box b [.slice q ps.length c,.slice q2 rs.length c2] 25::M) w:=by
  have J:=K.front 2 rfl;rw[hvp,hxp] at J;subst hrd;exact J
 clear K;refine Ab9 AC RAp.pre ⟨h10,none⟩ (J:=JAp B (Ao 53 3 (.slice q ps.length c) ps.length (ps.flatMap Prd.enc)::box b11 r.enc 64::box b [.slice q ps.length c,.slice q2 rs.length c2] 25::M) 64 5 rs.length 1 (.slice q2 rs.length c2) (rs.flatMap Rul.enc) r.enc 7) ⟨rfl,I.drew⟩ 8 (by kernel_rfl)<|Aby (v:=.pointer (some ⟨_,_,none⟩)) (fun _=>Aa _) RAp.pre (JAp.set (by decide)) (fun _ s w us hl hj=>have I:=hj.base;have hl:=hl.h;Mv)<|Aby (v:=.pointer (some ⟨_,_,none⟩)) (fun _=>Aa _) RAp.pre (JAp.set (by decide)) (fun _ s w us hl hj=>have I:=hj.base;have hl:=hl.h;Mv)<|Aby (v:=.pointer (some ⟨_,_,none⟩)) (fun _=>Aa _) RAp.pre (JAp.set (by decide)) (fun _ s w us hl hj=>have I:=hj.base;have hl:=hl.h;Ab4 rfl)<|Aby (v:=.pointer (some ⟨_,_,none⟩)) (fun _=>Aa _) RAp.pre (JAp.set (by decide)) (fun _ s w us hl hj=>have I:=hj.base;have hl:=hl.h;Abr AU rfl)<|Aby (v:=.slice _ _ _) (fun _=>Aa _) RAp.pre (JAp.set (by decide)) (fun _ s w us hl hj=>have I:=hj.base;have hl:=hl.h;Ld I Cc 2 1 1 rfl rfl rfl)<|Aby (v:=.agg #[_,_,_,_,_]) (fun _=>Aa _) RAp.pre (JAp.set (by decide)) (fun _ s w us hl hj=>have I:=hj.base;have hl:=hl.h;Ld I C0 1 0 5 rfl rfl rfl) ?_;refine AbT (Φ:=KnA (LK 64 r.enc 1)) (KnA.mono LK.mono) (fun _=>Aa _) (fun D' z w hDk hl hj=>FR.all fun us=>?_) ?_
 ·exact hj.know (by decide) fun N I=>AcM (cs:=r.enc) I Aic Aiv Aip (by decide) (by decide) rfl rfl (fun v h w I le sl=>⟨h,le,I,sl⟩)
 refine AbT (Φ:=ON (rs.length+1)) ON.mono (fun _=>Aa _) (fun D' z w hDk hl hj=>?_) ?_
 ·intro u143 q143;obtain⟨bl,rfl,hbl⟩:=q143 rfl;refine hj.app hDk fun I=>?_;have kb:Ci z.h bl r.enc:=⟨fun j v hv=>by simp[Ae.cell,hbl,hv]⟩;exact Ab0 I Aic OC 0 rfl rfl rfl (I.rd kb.rd) rfl rfl (by decide) (by omega) (by omega) fun g c w I=>⟨g,c,rfl,I⟩
 refine Acl fun D z w hD hl hj u143 q143 u144 q144=>?_;obtain⟨g,c4,rfl,h7'⟩:=q144 rfl;have I:=hj.inv;rw[h7'] at I;refine Ap (Ab4 rfl)<|Ap (Abr AU rfl)<|Abj (Ss0 I Cc 3 rfl rfl rfl rfl fun w I=>Abh ?_);have I:Inv B z.h (linM b q ps.length c (some ⟨g,0,none⟩) (rs.length+1) c4 ps (rs++[r]) M) w:=by
  have J:=((I.front 1 rfl).weak (List.Sublist.cons_cons _ (List.Sublist.cons_cons _ (Af3 _ _))));unfold linM;rw[Afm,AfT];exact J
 exact⟨[],trivial,rfl,z.h,q,c,some ⟨g,0,none⟩,c4,ps,rs++[r],gl10.trans hl.h,by rw[Ae2];exact I,by rw[hL,hR,AfM,←hrer];rfl,fun y hy=>by
  rcases Afu.1 hy with hy|hy
  ·exact(hr y hy).le (gl10.trans hl.h)
  ·rw[Afl] at hy;subst hy;exact hrin.le hl.h,hnm,by omega,by simp⟩
end
section
def Aa4(P:Program)(X:PX)(o:Oper)(e:Env)(w:World)(K:Value→World→Prop):Prop:=
 DN P X o e w K∨∃l f tmps assign body w',(execOp (ev e) o).run P w=.ok (.round l f tmps assign body) w'∧RoundIn Fence.wide 0 P l f tmps assign body w' fun|.returned v,w''=>K v w''|.panicked ch,w''=>X ch w''|_,_=>False
def Gq(P:Program)(X:PX)(full:Array Oper):List Oper→Env→World→(Env→World→Prop)→Prop
 |[],e,w,K=>K e w
 |o::rest,e,w,K=>if runs full e o then Aa4 P X o e w (fun v w'=>Gq P X full rest (CQ e o.dst v) w' K) else Gq P X full rest (CQ e o.dst undef) w K
theorem GA{P:Program}{X:PX}{F:Fence}{o:Oper}{a:Act}{w:World}{next:Act→World→Prop}{Q:Exit→Act→World→Prop}(hfn:∀f,F.fn f)(hdep:F.depth=none)(hal:∀f args w R,Calls P f args w R→CallsIn F (0-1) P f args w R)
  (hnd:∀c,o.op≠.defer c) (hX:∀ch w',X ch w'→Q (.panic ch) a w') (h:DN P X o (env a) w fun v w'=>next (a.put o.dst v) w'):o.wpIn F 0 P a w next Q:=by
 refine⟨fun f _=>hfn f,?_⟩;rw[Oper.semAt_eq _ _ _ hnd,BU];unfold DN at h;generalize (execOp (ev (env a)) o).run P w=r at *;cases r with
 |ok n w'=>
  cases n<;>simp only at h<;>first|exact h.elim|exact h|skip;refine⟨(fun hd=>by rw[hdep] at hd;cases hd),(hal _ _ _ _ h).mono fun e w'' he=>?_⟩;cases e<;>first|exact he|exact hX _ _ he|exact he.elim
 |halt x w'=>cases x<;>simp only at h<;>first|exact h.elim|exact hX _ _ h
theorem Adf{P:Program}{X:PX}{ops:Array Oper}{Q:Exit→Act→World→Prop}{N:Nat}{D:List Deferred}(hX:∀a ch w',a.tmps.size=N→a.defers=D→X ch w'→Q (.panic ch) a w')(hds:C8 N ops.toList=true)(hnd:EM ops.toList=true):∀(n k:Nat) (a:Act) (w:World) (K:Env→World→Prop),
  k+n=ops.size→a.tmps.size=N→a.defers=D→(∀a' w',a'.tmps.size=N→a'.defers=D→K (env a') w'→Q .normal a' w')→Gq P X ops (ops.toList.drop k) (env a) w K→wpOpsIn Fence.wide 0 P ops Q (List.range' k n) a w
 |0,k,a,w,K,hk,hs,hd,hK,h=>by
  rw[AfV (by simp;omega)] at h;exact hK _ _ hs hd h
 |n+1,k,a,w,K,hk,hs,hd,hK,h=>by
  obtain⟨o,ho,hdr⟩:=G2 hk;have hmem:o∈ops.toList:=by have:=Af6 ho;simpa using this
  have hdo:o.dst.all (· < N)=true:=(Aff.1 hds) o hmem;have hno:∀c,o.op≠.defer c:=fun c e=>by have:=(Aff.1 hnd) o hmem;simp[e] at this
  have hput:∀v,env (a.put o.dst v)=CQ (env a) o.dst v:=fun v=>Cg a o.dst v (by rw[hs];exact hdo);rw[hdr] at h;simp only[Ahp,wpOpsIn,ho,BX];simp only[Gq] at h;split
  ·rename_i hr;rw[if_pos hr] at h;have step:∀v w',Gq P X ops (ops.toList.drop (k+1)) (CQ (env a) o.dst v) w' K→wpOpsIn Fence.wide 0 P ops Q (List.range' (k+1) n) (a.put o.dst v) w':=fun v w' hh=>
    Adf hX hds hnd n (k+1) _ _ K (by omega) (by rw[Bm,hs]) (by rw[AY,hd]) hK (by rw[hput];exact hh)
   rcases h with h|⟨l,f,tmps,assign,body,w',hrun,hround⟩
   ·exact GA (fun _=>trivial) rfl (fun _ _ _ _ h=>Eg _ h) hno (fun ch w'=>hX a ch w' hs hd) (h.mono step)
   ·refine⟨fun _ _=>trivial,?_⟩;rw[Oper.semAt_eq _ _ _ hno,BU,hrun];refine⟨(fun hd=>by cases hd),hround.mono fun e w'' he=>?_⟩;cases e<;>first|exact step _ _ he|exact hX a _ _ hs hd he|exact he.elim
  ·rename_i hr;rw[if_neg hr] at h;exact⟨fun _ _=>trivial,Adf hX hds hnd n (k+1) _ _ K (by omega) (by rw[Bm,hs]) (by rw[AY,hd]) hK (by rw[hput];exact h)⟩
theorem Aeg{P:Program}{N:Nat}{D:List Deferred}{e:Env}{w:World}{Q:Exit→Env→World→Prop}{id:Nat}{ops:Array Oper}(X:PX)(hX:∀e ch w',X ch w'→Q (.panic ch) e w')(hnd:EM ops.toList=true)
  (h:Gq P X ops ops.toList e w (fun e' w'=>Q .normal e' w')):WP P N D (.region id ops false) e w Q:=by
 intro hs a h1 h2 h3;subst h3;refine(wpIn_wide (n:=0)).1 (wpIn_region ?_);rw[Ag0];exact Adf (fun a ch w' g1 g2 g3=>⟨g1,g2,hX _ _ _ g3⟩) hs hnd _ 0 a w _ (by omega) h1 h2 (fun _ _ g1 g2 g3=>⟨g1,g2,g3⟩) h
section
variable {P:Program}{X:PX}{full:Array Oper}{rest:List Oper}{e:Env}{w:World}{K:Env→World→Prop}
theorem AeI(h:K e w):Gq P X full [] e w K:=h
theorem Gq.p{d:Option Nat}{op:Op}{t:TypeId}{pos:String}{af:Array Edge}(h:DN P X ⟨d,op,t,pos,af,none⟩ e w (fun v w'=>Gq P X full rest (CQ e d v) w' K)) :
  Gq P X full (⟨d,op,t,pos,af,none⟩::rest) e w K:=by simp only[Gq,runs,if_true];exact .inl h
theorem AeT{d:Option Nat}{op:Op}{t:TypeId}{pos:String}{af:Array Edge}(h:Op1 P ⟨d,op,t,pos,af,none⟩ e w (fun v w'=>Gq P X full rest (CQ e d v) w' K)) :
  Gq P X full (⟨d,op,t,pos,af,none⟩::rest) e w K:=Gq.p (.of h)
theorem Aeh{d:Nat}{op:Op}{t:TypeId}{pos:String}{af:Array Edge}{v:Value}(hy:Y P ⟨some d,op,t,pos,af,none⟩ e w v)(h:Gq P X full rest (upd e d v) w K) :
  Gq P X full (⟨some d,op,t,pos,af,none⟩::rest) e w K:=AeT (by unfold Op1;rw[hy];exact h)
theorem Gq.yield{d:Option Nat}{x:Operand}{l:Nat}{args:Array Operand}{ts:Array TypeId}{vs:List Value}{t:TypeId}{pos:String}{af:Array Edge}{R:Ending→World→Prop}(hx:ev e x=.func (.yield l) #[] #[])(ha:args.toList.map (ev e)=vs)
  (hy:YieldAt Fence.wide 0 P l vs.toArray w R) (k:∀ed w',R ed w'→(∃v,ed=.returned v∧Gq P X full rest (CQ e d v) w' K)∨∃ch,ed=.panicked ch∧X ch w') :
  Gq P X full (⟨d,.call {callee:=.value x,args:=args,argTypes:=ts},t,pos,af,none⟩::rest) e w K:=by
 have ha':args.map (ev e)=vs.toArray:=by rw[←ha];apply Array.ext';simp
 obtain⟨fn,tmps,assign,body,hrun,hR⟩:=hy;simp only[Gq,runs,if_true];refine .inr ⟨l,fn,tmps,assign,body,w,?_,hR.mono fun ed w' hh=>?_⟩
 ·simp only[execOp,resolve,hx,Deferred.ofValue];simp[invoke,ha',hrun]
 ·rcases k ed w' hh with ⟨v,rfl,hk⟩|⟨ch,rfl,hk⟩
  ·exact hk
  ·exact hk
end
def Lb(P:Program)(l:Nat)(R:Ending→World→Prop):Exit→Act→World→Prop
 |.panic ch,a,w=>a.defers=[]∧R (.panicked ch) w
 |x,a,w=>roundPost P l R x a w
theorem Iy{P:Program}{l:Nat}{f:FuncId}{tmps:Array Value}{assign body:Code}{w:World}{R:Ending→World→Prop}(hf:∃fn,P.funcs[f]?=some fn)
  (h:assign.wpIn (Fence.wide.inRound l) 0 P (Exit.then (fun a₁ w₁=>∃w₂,(Instr.beginRound l).run P w₁=.ok () w₂∧body.wpIn (Fence.wide.inRound l) 0 P (Lb P l R) a₁ w₂) (fun _ _ _=>False))
   {tmps:=tmps,defers:=[]} w) :
  RoundIn Fence.wide 0 P l f tmps assign body w R:=by
 have hF:Fence.wide.fn f:=trivial;refine⟨hF,fun c cs hr=>?_⟩;let b:Frame:={(default:Frame) with fn:=f,kind:=.normal,roundOf:=some l}
 have hb0:Frame.round l f tmps assign body .normal=b.atR {tmps:=tmps,defers:=[]} [.code assign,.beginRound,.code body]:=by
  simp[Frame.round,Frame.atR,b]
 have hr':(Fence.wide.inRound l).room ((c::cs).length+1+0):=hr;have hF':(Fence.wide.inRound l).fn b.fn:=hF;obtain⟨e,a₁,w₁,hq,harr⟩:=h b [.beginRound,.code body] (c::cs) rfl hF' hr';rw[←hb0] at harr;cases e with
 |normal=>
  obtain⟨w₂,hbr,hbody⟩:=hq;have s1:StepsIn (Machine.fenced P (Fence.wide.inRound l)) P (lone (b.atR a₁ [.beginRound,.code body]) (c::cs) w₁) (lone (b.atR a₁ [.code body]) (c::cs) w₂):=
   .one (fenced_calm (fr:=b.atR a₁ [.beginRound,.code body]) hF' hr' rfl) (stepR_beginRound rfl hbr)
  obtain⟨e₂,a₂,w₃,hq₂,harr₂⟩:=hbody b [] (c::cs) rfl hF' hr';cases e₂ with
  |normal=>
   obtain⟨v,w₄,hend,hR⟩:=hq₂;exact⟨.returned v,w₄,hR,(StepsIn.trans harr s1).trans (StepsIn.trans harr₂ (.one (fenced_calm (fr:=b.atR a₂ []) hF' hr' rfl) (stepR_round_end rfl rfl hend)))⟩
  |ret=>
   obtain⟨v,w₄,hend,hR⟩:=hq₂;obtain⟨k₁,hs⟩:=harr₂.2 rfl;exact⟨.returned v,w₄,hR,(StepsIn.trans harr s1).trans (StepsIn.trans hs (.one (fenced_calm (fr:=b.atR a₂ (.code .ret::k₁)) hF' hr' rfl) (stepR_round_ret rfl rfl hend)))⟩
  |exit id=>
   obtain⟨v,w₄,hend,hR⟩:=hq₂;obtain⟨k₁,hk,hs⟩:=harr₂.2 rfl rfl;exact⟨.returned v,w₄,hR,(StepsIn.trans harr s1).trans (StepsIn.trans hs (.one (fenced_calm (fr:=b.atR a₂ (.code (.exit id)::k₁)) hF' hr' rfl) (stepR_round_exit rfl rfl hk hend)))⟩
  |goto t=>
   obtain⟨v,w₄,hend,hR⟩:=hq₂;obtain⟨k₁,hk,hs⟩:=harr₂.2 rfl rfl;exact⟨.returned v,w₄,hR,(StepsIn.trans harr s1).trans (StepsIn.trans hs (.one (fenced_calm (fr:=b.atR a₂ (.code (.goto t)::k₁)) hF' hr' rfl) (stepR_round_goto rfl rfl hk hend)))⟩
  |panic chain=>
   obtain⟨hd,hR⟩:=hq₂;obtain⟨todo,hs⟩:=harr₂;have hleave:({b.atR a₂ todo with mode:=.panicking chain}:Frame).leaving P w₃ (.panicked chain):=⟨rfl,hd,hf⟩;exact⟨.panicked chain,w₃,hR,(StepsIn.trans harr s1).trans (StepsIn.trans hs (.one (fenced_leaving (fr:={b.atR a₂ todo with mode:=.panicking chain}) hF' hr' hleave) (step_leave_panicked hleave)))⟩
  |outgrown=>exact hq₂.elim
 |exit id=>exact hq.elim
 |goto t=>exact hq.elim
 |ret=>exact hq.elim
 |panic chain=>exact hq.elim
 |outgrown=>exact hq.elim
theorem Ad2{P:Program}{N l:Nat}{e:Env}{w:World}{Q:Exit→Env→World→Prop}{id:Nat}{ops:Array Oper}(X:PX)(hX:∀e ch w',X ch w'→Q (.panic ch) e w')(h:Bd P X ops ops.toList e w (fun e' w'=>Q .normal e' w'))(hnd:EM ops.toList=true:=by kernel_rfl):WPI P N l (.region id ops false) e w Q:=by
 intro hs a h1 h2 h3;subst h3;refine wpIn_region ?_;rw[Ag0];have key:∀(n k:Nat) (a:Act) (w:World),k+n=ops.size→a.tmps.size=N→a.defers=[]→Bd P X ops (ops.toList.drop k) (env a) w (fun e' w'=>Q .normal e' w')→
   wpOpsIn (Fence.wide.inRound l) 0 P ops (fun x a' w'=>a'.tmps.size=N∧a'.defers=[]∧Q x (env a') w') (List.range' k n) a w:=by
  intro n;induction n with
  |zero=>
   intro k a w hk hs1 hd h;rw[AfV (by simp;omega)] at h;exact⟨hs1,hd,h⟩
  |succ n ih=>
   intro k a w hk hs1 hd h;obtain⟨o,ho,hdr⟩:=G2 hk;have hmem:o∈ops.toList:=by have:=Af6 ho;simpa using this
   have hdo:o.dst.all (· < N)=true:=(Aff.1 hs) o hmem;have hno:∀c,o.op≠.defer c:=fun c e=>by have:=(Aff.1 hnd) o hmem;simp[e] at this
   have hput:∀v,env (a.put o.dst v)=CQ (env a) o.dst v:=fun v=>Cg a o.dst v (by rw[hs1];exact hdo);rw[hdr] at h;simp only[Ahp,wpOpsIn,ho,BX];simp only[Bd] at h;have step:∀v w',Bd P X ops (ops.toList.drop (k+1)) (CQ (env a) o.dst v) w' (fun e' w'=>Q .normal e' w')→wpOpsIn (Fence.wide.inRound l) 0 P ops (fun x a' w'=>a'.tmps.size=N∧a'.defers=[]∧Q x (env a') w') (List.range' (k+1) n) (a.put o.dst v) w':=fun v w' hh=>
    ih (k+1) _ _ (by omega) (by rw[Bm,hs1]) (by rw[AY,hd]) (by rw[hput];exact hh)
   split
   ·rename_i hr;rw[if_pos hr] at h;exact GA (fun _=>trivial) rfl (fun _ _ _ _ h=>(Eg _ h).inRound l) hno (fun ch w' hx=>⟨hs1,hd,hX _ _ _ hx⟩) (h.mono step)
   ·rename_i hr;rw[if_neg hr] at h;exact⟨fun _ _=>trivial,step _ _ h⟩
 exact key _ 0 a w (by omega) h1 h2 h
def wpF(P:Program)(f:FuncId)(c:Code)(Q:Exit→Act→World→Prop)(a:Act)(w:World):Prop:=
 ∀(b:Frame) (k:List Item) (cs:List Frame),b.roundOf=none→b.fn=f→∃e a' w',Q e a' w'∧ArrivesIn (Machine.fenced P Fence.wide) P (lone (b.atR a (.code c::k)) cs w) b k cs e a' w'
section
variable {P:Program}{f:FuncId}{Q:Exit→Act→World→Prop}{a:Act}{w:World}
theorem ZH{c:Code}(h:c.wpIn Fence.wide 0 P Q a w):wpF P f c Q a w:=fun b k cs hr _=>h b k cs hr trivial (room_wide _)
theorem PN{c:Code}{Q':Exit→Act→World→Prop}(h:wpF P f c Q a w)(hq:∀x a w,Q x a w→Q' x a w):wpF P f c Q' a w:=fun b k cs hr hf=>
 let ⟨e,a',w',q,r⟩:=h b k cs hr hf;⟨e,a',w',hq _ _ _ q,r⟩
theorem X7{x y:Code}(h:wpF P f x (Exit.then (wpF P f y Q) Q) a w):wpF P f (.seq x y) Q a w:=by
 intro b k cs hr hf;have i0:(lone (b.atR a (.code (.seq x y)::k)) cs w).fenced P Fence.wide:=fenced_wide _ _;obtain⟨e,a₁,w₁,hq,harr⟩:=h b (.code y::k) cs hr hf;cases e with
 |normal=>
  obtain⟨e₂,a₂,w₂,hq₂,harr₂⟩:=hq b k cs hr hf;exact⟨e₂,a₂,w₂,hq₂,.of_steps (.head i0 stepR_seq harr) harr₂⟩
 |exit id=>exact⟨_,a₁,w₁,hq,.of_steps (.one i0 stepR_seq) (.pass (x:=.code y) rfl (fun _ _=>.inl (by simp)) harr)⟩
 |goto l=>exact⟨_,a₁,w₁,hq,.of_steps (.one i0 stepR_seq) (.pass (x:=.code y) rfl (fun _ _=>.inl (by simp)) harr)⟩
 |ret=>exact⟨_,a₁,w₁,hq,.of_steps (.one i0 stepR_seq) (.pass (x:=.code y) rfl (fun _ _=>.inl (by simp)) harr)⟩
 |panic ch=>exact⟨_,a₁,w₁,hq,.of_steps (.one i0 stepR_seq) (.pass (x:=.code y) rfl (fun _ _=>.inl (by simp)) harr)⟩
 |outgrown=>exact⟨_,a₁,w₁,hq,.of_steps (.one i0 stepR_seq) (.pass (x:=.code y) rfl (fun _ _=>.inl (by simp)) harr)⟩
theorem S4{id:Nat}{c:Code}(h:wpF P f c (Exit.inBlock id Q) a w):wpF P f (.block id c) Q a w:=by
 intro b k cs hro hb;have h0:(lone (b.atR a (.code (.block id c)::k)) cs w).fenced P Fence.wide:=fenced_wide _ _;obtain⟨e,a₁,w₁,hq,harr⟩:=h b (.inBlock id::k) cs hro hb;cases e with
 |normal=>exact⟨.normal,a₁,w₁,hq,.head h0 stepR_block (StepsIn.trans harr (.one (fenced_wide _ _) stepR_inBlock))⟩
 |exit id'=>
  by_cases hid:id'=id
  ·simp only[Exit.inBlock,hid,if_true] at hq;exact⟨.normal,a₁,w₁,hq,.head h0 stepR_block (harr.1 k (by simp[exitTo,hid]))⟩
  ·simp only[Exit.inBlock,hid,if_false] at hq;have this:(id == id')=false:=by simp;exact fun h=>hid h.symm
   have hx:exitTo id' (.inBlock id::k)=exitTo id' k:=by simp[exitTo,this]
   exact⟨.exit id',a₁,w₁,hq,fun k' hk=>.head h0 stepR_block (harr.1 k' (by rw[hx];exact hk)),
    fun hr' hk=>let ⟨k₁,h1,h2⟩:=harr.2 hr' (by rw[hx];exact hk);⟨k₁,h1,.head h0 stepR_block h2⟩⟩
 |goto l=>
  have hx:gotoIn l (.inBlock id::k)=gotoIn l k:=by simp[gotoIn]
  exact⟨_,a₁,w₁,hq,fun k' hk=>.head h0 stepR_block (harr.1 k' (by rw[hx];exact hk)),
   fun hr' hk=>let ⟨k₁,h1,h2⟩:=harr.2 hr' (by rw[hx];exact hk);⟨k₁,h1,.head h0 stepR_block h2⟩⟩
 |ret=>exact⟨_,a₁,w₁,hq,.of_steps (.one h0 stepR_block) harr⟩
 |panic ch=>exact⟨_,a₁,w₁,hq,.of_steps (.one h0 stepR_block) harr⟩
 |outgrown=>exact⟨_,a₁,w₁,hq,.of_steps (.one h0 stepR_block) harr⟩
theorem VH{c:Operand}{x y:Code}{t:Bool}(hc:a.eval c=.bool t)(h:wpF P f (if t then x else y) Q a w):wpF P f (.cond c x y) Q a w:=
 fun b k cs hr hf=>let ⟨e,a',w',q,r⟩:=h b k cs hr hf;⟨e,a',w',q,.of_steps (.one (fenced_wide _ _) (stepR_cond hc)) r⟩
theorem L8{g:Operand}{ps:Array Tmp}{assign body:Code}
  (h:∃(l:Nat) (mark:List Deferred) (w₁:World) (d:Deferred) (w₁':World) (f':FuncId) (args:Array Value) (w₂:World),
   (Instr.enterLoop f a.tmps ps assign body none).run P w=.ok (l,mark) w₁∧
   (resolve a.eval (rangeCall g l) 0).run P w₁=.ok d w₁'∧
   (invoke d.target d.args).run P w₁'=.ok (.enter f' args) w₂∧
   CallsIn Fence.wide 0 P f' args w₂ (fun|.returned _,w₃=>∃w₄,(Instr.endLoop l).run P w₃=.ok none w₄∧Q .normal {a with defers:=mark++a.defers} w₄|.panicked ch,w₃=>Q (.panic ch) {a with defers:=mark++a.defers} w₃|.outgrown,_=>False)) :
  wpF P f (.rangeFunc g ps assign body) Q a w:=by
 intro b k cs hro hb;obtain⟨l,mark,w₁,d,w₁',f',args,w₂,he,hres,hinv,hF,hcall⟩:=h;rw[←hro,←hb] at he;have h0:(lone (b.atR a (.code (.rangeFunc g ps assign body)::k)) cs w).fenced P Fence.wide:=fenced_wide _ _;have henter:=stepR_rangeFunc (P:=P) (b:=b) (a:=a) (k:=k) (cs:=cs) (w:=w) he hres hinv;obtain⟨e,w₃,fr,hR,hsteps,hfn,hleave⟩:=hcall (b.atR {a with defers:=mark++a.defers} (.inRangeFunc l::k)::cs) (room_wide _);cases e with
 |outgrown=>exact hR.elim
 |returned v=>
  have hl:(lone fr (b.atR {a with defers:=mark++a.defers} (.inRangeFunc l::k)::cs) w₃).fenced P Fence.wide:=fenced_wide _ _;obtain⟨w₄,hend,hj⟩:=hR;refine⟨.normal,_,w₄,hj,.head h0 henter (StepsIn.trans hsteps (.head hl ?_ (.one (fenced_wide _ _) (stepR_endRangeFunc (k:=k) hend))))⟩;rw[←finish_atR_inRangeFunc l v];exact step_leave_returned hleave
 |panicked chain=>
  have hl:(lone fr (b.atR {a with defers:=mark++a.defers} (.inRangeFunc l::k)::cs) w₃).fenced P Fence.wide:=fenced_wide _ _;refine⟨.panic chain,_,w₃,hR,.inRangeFunc l::k,.head h0 henter (StepsIn.trans hsteps (.one hl ?_))⟩;rw[←Frame.raise_atR];exact step_leave_panicked hleave
end
def WPF(P:Program)(f:FuncId)(N:Nat)(D:List Deferred)(c:Code)(e:Env)(w:World)(Q:Exit→Env→World→List Deferred→Prop):Prop:=
 AS N c=true→∀a:Act,a.tmps.size=N→a.defers=D→env a=e→wpF P f c (fun x a' w'=>a'.tmps.size=N∧Q x (env a') w' a'.defers) a w
section
variable {P:Program}{f:FuncId}{N:Nat}{D:List Deferred}{e:Env}{w:World}{Q:Exit→Env→World→List Deferred→Prop}
theorem Adp{c:Code}(h:WPD P N D c e w Q):WPF P f N D c e w Q:=fun hs a h1 h2 h3=>ZH (wpIn_wide.2 (h hs a h1 h2 h3))
theorem WPF.of{c:Code}(h:WP P N D c e w (fun x e' w'=>Q x e' w' D)):WPF P f N D c e w Q:=Adp (WPD.of h)
theorem AbQ{x y:Code}(h:WPF P f N D x e w (Kz (fun e' w' D'=>WPF P f N D' y e' w' Q) Q)):WPF P f N D (.seq x y) e w Q:=by
 intro hs a h1 h2 h3;simp only[AS,Afn] at hs;refine X7 (PN (h hs.1 a h1 h2 h3) ?_);rintro x a' w' ⟨g1,g3⟩;cases x<;>simp only[Kz] at g3<;>first|exact⟨g1,g3⟩|exact g3 hs.2 a' g1 rfl rfl
theorem WPF.block{id:Nat}{c:Code}(h:WPF P f N D c e w (MZ id Q)):WPF P f N D (.block id c) e w Q:=by
 intro hs a h1 h2 h3;refine S4 (PN (h hs a h1 h2 h3) ?_);rintro x a' w' ⟨g1,g3⟩;cases x<;>simp only[MZ] at g3<;>simp only[Exit.inBlock]<;>first|exact⟨g1,g3⟩|(split at g3<;>rename_i hi<;>simp only[hi,if_true,if_false]<;>exact⟨g1,g3⟩)
theorem AdH{c:Operand}{x y:Code}{b:Bool}(hc:ev e c=.bool b)(ht:b=true→WPF P f N D x e w Q)(hf:b=false→WPF P f N D y e w Q):WPF P f N D (.cond c x y) e w Q:=by
 intro hs a h1 h2 h3;simp only[AS,Afn] at hs;have he:a.eval c=.bool b:=by rw[BU,h3];exact hc
 refine VH he ?_;cases b
 ·exact hf rfl hs.2 a h1 h2 h3
 ·exact ht rfl hs.1 a h1 h2 h3
theorem Adq{c:Operand}{x y:Code}{p:Prop}[Decidable p](hc:ev e c=.bool (decide p))(ht:p→WPF P f N D x e w Q)(hf:¬p→WPF P f N D y e w Q):WPF P f N D (.cond c x y) e w Q:=
 AdH hc (fun h=>ht (of_decide_eq_true h)) (fun h=>hf (of_decide_eq_false h))
theorem AcX(h:Q .normal e w D):WPF P f N D .skip e w Q:=Adp (Ac5 h)
theorem AcO(h:Q .ret e w D):WPF P f N D .ret e w Q:=Adp (Adl h)
theorem AbS{id:Nat}{ops:Array Oper}(h:Ops P ops ops.toList e w (fun e' w'=>Q .normal e' w' D)):WPF P f N D (.region id ops false) e w Q:=WPF.of (Abg h)
theorem AdI{id:Nat}{d1:Nat}{op1 op2:Op}{t1 t2:TypeId}{p1 p2:String}{a1 a2:Array Edge}{v:Value}{dd:Deferred}(hy:Y P ⟨some d1,op1,t1,p1,a1,none⟩ e w v)
  (hd:(execOp (ev (upd e d1 v)) ⟨none,op2,t2,p2,a2,none⟩).run P w=.ok (.defer dd) w) (h:Q .normal (upd e d1 v) w (dd::D)):WPF P f N D (.region id #[⟨some d1,op1,t1,p1,a1,none⟩,⟨none,op2,t2,p2,a2,none⟩] false) e w Q:=by
 refine Adp fun hs a h1 h2 h3=>?_;subst h3;refine wp_region_list ?_;have hd1:d1<N:=by
  have:=hs;simp[AS,C8] at this;exact this
 have hput:env (a.put (some d1) v)=upd (env a) d1 v:=Cg a (some d1) v (by rw[h1];simpa using hd1);simp only[wpList,BX,runs,if_true];refine .inl ?_;unfold Oper.wp;rw[BU];unfold Y at hy;rw[hy,Oper.upon_value];refine .inl ?_;rw[BU,hput,hd,Oper.upon_defer];refine⟨by rw[Bm];show(a.put (some d1) v).tmps.size=N;rw[Bm,h1],?_⟩;have e1:env (({a.put (some d1) v with defers:=dd::(a.put (some d1) v).defers}:Act).put none undef)=upd (env a) d1 v:=hput;have e2:(({a.put (some d1) v with defers:=dd::(a.put (some d1) v).defers}:Act).put none undef).defers=dd::D:=by
  show dd::(a.put (some d1) v).defers=_;rw[AY,h2]
 rw[e1,e2];exact h
end
def Bo(P:Program)(X:Env→PX)(full:Array Oper):List Oper→Env→World→(Env→World→Prop)→Prop
 |[],e,w,K=>K e w
 |o::rest,e,w,K=>if runs full e o then DN P (X e) o e w (fun v w'=>Bo P X full rest (CQ e o.dst v) w' K) else Bo P X full rest (CQ e o.dst undef) w K
theorem Adg{P:Program}{X:Env→PX}{full:Array Oper}{Q:Exit→Act→World→Prop}{N:Nat}{D:List Deferred}(hX:∀a ch w',a.tmps.size=N→a.defers=D→X (env a) ch w'→Q (.panic ch) a w'):∀(l:List Oper) (a:Act) (w:World) (K:Env→World→Prop),
  C8 N l=true→a.tmps.size=N→a.defers=D→(∀a' w',a'.tmps.size=N→a'.defers=D→K (env a') w'→Q .normal a' w')→Bo P X full l (env a) w K→wpList P full Q l a w
 |[],a,w,K,_,hs,hd,hK,h=>by simp only[Bo] at h;exact hK _ _ hs hd h
 |o::rest,a,w,K,hds,hs,hd,hK,h=>by
  simp only[C8,Ag5,Afn] at hds;have hput:∀v,env (a.put o.dst v)=CQ (env a) o.dst v:=fun v=>Cg a o.dst v (by rw[hs];exact hds.1);simp only[wpList,BX];simp only[Bo] at h;split
  ·rename_i hr;rw[if_pos hr] at h;refine .inl (HX (fun ch w'=>hX a ch w' hs hd) (h.mono fun v w' hh=>?_));rw[←hput] at hh;exact Adg hX rest _ _ K hds.2 (by rw[Bm,hs]) (by rw[AY,hd]) hK hh
  ·rename_i hr;rw[if_neg hr] at h;rw[←hput] at h;exact Adg hX rest _ _ K hds.2 (by rw[Bm,hs]) (by rw[AY,hd]) hK h
theorem Aei{P:Program}{N:Nat}{D:List Deferred}{e:Env}{w:World}{Q:Exit→Env→World→Prop}{id:Nat}{ops:Array Oper}(X:Env→PX)(hX:∀e ch w',X e ch w'→Q (.panic ch) e w')(h:Bo P X ops ops.toList e w (fun e' w'=>Q .normal e' w')):WP P N D (.region id ops false) e w Q:=by
 intro hs a h1 h2 h3;subst h3;exact wp_region_list (Adg (fun a ch w' g1 g2 g3=>⟨g1,g2,hX _ _ _ g3⟩) _ a w _ hs h1 h2 (fun _ _ g1 g2 g3=>⟨g1,g2,g3⟩) h)
theorem Acz{P:Program}{f:FuncId}{N:Nat}{D:List Deferred}{e:Env}{w:World}{Q:Exit→Env→World→List Deferred→Prop}{id:Nat}{ops:Array Oper}(X:Env→PX)(hX:∀e ch w',X e ch w'→Q (.panic ch) e w' D)(h:Bo P X ops ops.toList e w (fun e' w'=>Q .normal e' w' D)):WPF P f N D (.region id ops false) e w Q:=WPF.of (Aei X hX h)
section
variable {P:Program}{X:Env→PX}{full:Array Oper}{rest:List Oper}{e:Env}{w:World}{K:Env→World→Prop}
theorem AcS(h:K e w):Bo P X full [] e w K:=h
theorem Bo.p{d:Option Nat}{op:Op}{t:TypeId}{pos:String}{af:Array Edge}(h:DN P (X e) ⟨d,op,t,pos,af,none⟩ e w (fun v w'=>Bo P X full rest (CQ e d v) w' K)) :
  Bo P X full (⟨d,op,t,pos,af,none⟩::rest) e w K:=by simpa[Bo,runs] using h
theorem Adr{d:Option Nat}{op:Op}{t:TypeId}{pos:String}{af:Array Edge}(h:Op1 P ⟨d,op,t,pos,af,none⟩ e w (fun v w'=>Bo P X full rest (CQ e d v) w' K)) :
  Bo P X full (⟨d,op,t,pos,af,none⟩::rest) e w K:=Bo.p (.of h)
theorem Acg{d:Nat}{op:Op}{t:TypeId}{pos:String}{af:Array Edge}{v:Value}(hy:Y P ⟨some d,op,t,pos,af,none⟩ e w v)(h:Bo P X full rest (upd e d v) w K) :
  Bo P X full (⟨some d,op,t,pos,af,none⟩::rest) e w K:=Adr (by unfold Op1;rw[hy];exact h)
theorem AdW{d:Option Nat}{op:Op}{t:TypeId}{pos:String}{af:Array Edge}{j:Nat}{b:Bool}(hg:A4 full e j=some b)(h:Op1 P ⟨d,op,t,pos,af,some (j,b)⟩ e w (fun v w'=>Bo P X full rest (CQ e d v) w' K)) :
  Bo P X full (⟨d,op,t,pos,af,some (j,b)⟩::rest) e w K:=by
 have h':=DN.of (X:=X e) h;simpa[Bo,runs,hg] using h'
theorem Acs{d:Nat}{op:Op}{t:TypeId}{pos:String}{af:Array Edge}{v:Value}{j:Nat}{b:Bool}(hg:A4 full e j=some b)(hy:Y P ⟨some d,op,t,pos,af,some (j,b)⟩ e w v)(h:Bo P X full rest (upd e d v) w K) :
  Bo P X full (⟨some d,op,t,pos,af,some (j,b)⟩::rest) e w K:=AdW hg (by unfold Op1;rw[hy];exact h)
theorem AcU{d:Option Nat}{op:Op}{t:TypeId}{pos:String}{af:Array Edge}{j:Nat}{b:Bool}(hg:(A4 full e j == some b)=false)(h:Bo P X full rest (CQ e d undef) w K) :
  Bo P X full (⟨d,op,t,pos,af,some (j,b)⟩::rest) e w K:=by simpa[Bo,runs,hg] using h
end
def ZI{α:Type}(P:Program)(g:FuncId)(lb:List Value)(encs:α→List Value)(xs:List α)(own:SA):Prop:=
 ∀{σ:Type} (l:Nat) (B:Aq) (h:Ae) (U:σ→List SA) (Jc:Nat→Ae→σ→Prop) (Xp:PX) (W:World) (s0:σ),Inv B h (own::U s0) W→Jc 0 h s0→(∀k s hg hg',hg.le hg'→Jc k hg s→Jc k hg' s)→
  (∀k hg x s X W,xs[k]?=some x→h.le hg→Inv B hg (X++U s) W→Jc k hg s→YieldAt Fence.wide 0 P l (encs x).toArray W fun ed W'=>(ed=.returned (.bool true)∧∃h2 s',hg.le h2∧Inv B h2 (X++U s') W'∧Jc (k+1) h2 s')∨∃ch,ed=.panicked ch∧Xp ch W')→
  Calls P g (#[.func (.yield l) #[] #[]]++lb.toArray) W fun ed W'=>((∃v,ed=.returned v)∧∃h2 s',h.le h2∧Inv B h2 (U s') W'∧Jc xs.length h2 s')∨∃ch,ed=.panicked ch∧Xp ch W'
def S5(B:Aq)(hg:Ae){σ:Type}(X:List SA)(U:σ→List SA)(T:List SA)(Jn:Ae→σ→Prop)(Xp:PX):Exit→Env→World→Prop
 |.normal,_,W=>∃h2 s Z,hg.le h2∧Inv B h2 (Z++(X++(U s++T))) W∧Jn h2 s
 |.panic ch,_,W=>Xp ch W
 |_,_,_=>False
theorem Ada{α σ:Type}{P:Program}{f:FuncId}{N:Nat}{e:Env}{w:World}{Q:Exit→Env→World→List Deferred→Prop}{D0:List Deferred}{B:Aq}{h:Ae}{g:Operand}{ps:Array Tmp}{assign body:Code}{gf:FuncId}{lb:List Value}
  {encs:α→List Value} {xs:List α} {own:SA} (hfn:∃fn,P.funcs[f]?=some fn) (U:σ→List SA) (Jc:Nat→Ae→σ→Prop) (Xp:Nat→PX) (s0:σ) (I:Inv B h (own::U s0) w) (j0:Jc 0 h s0) (mono:∀k s hg hg',hg.le hg'→Jc k hg s→Jc k hg' s)
  (hg:ev e g=.func (.func gf) #[] lb.toArray) (eg:BE P gf) (it:ZI P gf lb encs xs own) (hps:∀x,(encs x).length=ps.size) (hpN:ps.toList.all (· < N)=true) (hsa:AS N assign=true) (hsb:AS N body=true)
  (round:∀(l D:Nat) (r:Loop) (hg:Ae) (k:Nat) (x:α) (s:σ) (X:List SA) (W:World),xs[k]?=some x→h.le hg→Inv B hg (X++(U s++[AN l r,AA D])) W→Jc k hg s→
   WPI P N l assign (argE e (ps.toList.zip (encs x))) W (Fh (fun e1 W1=>∃h1,hg.le h1∧Inv B h1 (X++(U s++[AN l r,AA D])) W1∧
    ∀r' W2,Inv B h1 (X++(U s++[AN l r',AA D])) W2→WPI P N l body e1 W2 (S5 B h1 X U [AN l r',AA D] (Jc (k+1)) (Xp D))) (fun _ _ _=>False)))
  (hdone:∀D h2 s W,h.le h2→Inv B h2 (U s++[AA D]) W→Jc xs.length h2 s→Q .normal e W (mark D::D0))
  (hpan:∀D ch W,Xp D ch W→Q (.panic ch) e W (mark D::D0)) :
  WPF P f N D0 (.rangeFunc g ps assign body) e w Q:=by
 intro _ a h1 h2 h3;subst h3;refine L8 ?_;obtain⟨rec,hrec⟩:∃rec:LoopState→Option Code→Loop,rec=fun st pe=>{state:=st,pending:=pe,fn:=f,tmps:=a.tmps,params:=ps,assign,body,defers:=w.heap.size}:=⟨_,rfl⟩;obtain⟨l,hl⟩:∃l,l=w.heap.size+1:=⟨_,rfl⟩;obtain⟨W1,hW1⟩:∃W1,(w.alloc (.deferred (some []))).alloc (.loop (rec .ready none))=W1:=⟨_,rfl⟩;have I1:Inv B h (own::(U s0++[AN l (rec .ready none),AA w.heap.size])) W1:=by
  have J1:Inv B h (AA w.heap.size::own::U s0) (w.alloc (.deferred (some []))):=I.gain (CZ.alloc w _) (World.alloc_heap_new w _) (fun b hb=>by simp[AA] at hb;subst hb;simp);have J2:Inv B h (AN l (rec .ready none)::AA w.heap.size::own::U s0) W1:=by
   rw[←hW1];refine J1.gain (CZ.alloc _ _) ?_ (fun b hb=>?_)
   ·have:=World.alloc_heap_new (w.alloc (.deferred (some []))) (.loop (rec .ready none));rw[World.size_alloc] at this;rw[hl];exact this
   ·simp[AN] at hb;subst hb;rw[hl];simp
  refine J2.perm ?_;show((own::U s0)++[AN l (rec .ready none),AA w.heap.size]).Perm ([AN l (rec .ready none),AA w.heap.size]++(own::U s0));exact AgF
 refine⟨l,[mark w.heap.size],W1,{target:=.fn (.func gf) lb.toArray,args:=#[.func (.yield l) #[] #[]]},W1,gf,#[.func (.yield l) #[] #[]]++lb.toArray,W1,?_,?_,?_,?_⟩
 ·rw[←hW1,hrec,hl];exact run_enterLoop_outer _ _ _ _ _
 ·rw[BU];have hg':ev (env a) g=.func (.func gf) #[] lb.toArray:=hg;simp only[resolve,hg'];simp[go_sem];rfl
 ·simp[invoke,go_sem];exact eg _ _
 ·refine callsIn_wide.2 ?_;refine(it l B h (fun s=>U s++[AN l (rec .ready none),AA w.heap.size]) Jc (Xp w.heap.size) W1 s0 I1 j0 mono ?_).mono ?_
  ·intro k hg' x s X W hx g1 IW hj;have IL:Inv B hg' ((X++U s)++AN l (rec .ready none)::[AA w.heap.size]) W:=by rw[Afe];exact IW
   have hy:=run_yield (P:=P) (args:=(encs x).toArray) IL.getLoop (by rw[hrec];simpa using hps x);refine⟨_,_,_,_,hy,?_⟩;rw[hrec];refine Iy hfn ?_;have hfold:(ps.zip (encs x).toArray).foldl (fun tmps (t,a)=>tmps.setIfInBounds t a) a.tmps=(ps.toList.zip (encs x)).foldl (fun t p=>t.setIfInBounds p.1 p.2) a.tmps:=by
    rw[←AhH];simp
   have hE:=ID (N:=N) (ps.toList.zip (encs x)) a.tmps h1 (fun p hp=>by
    have:=(Aff.1 hpN) p.1 (Ag8 hp).1;simpa using this)
   have henv:env {tmps:=a.tmps,defers:=[]}=env a:=rfl;rw[henv] at hE;have hR:=round l w.heap.size (rec .ready none) hg' k x s X W hx g1 IW hj hsa {tmps:=(ps.toList.zip (encs x)).foldl (fun t p=>t.setIfInBounds p.1 p.2) a.tmps,defers:=[]} hE.2 rfl hE.1;simp only[hfold];refine wpIn_mono hR ?_;rintro x1 a1 w1 ⟨k1,k2,k3⟩;cases x1<;>simp only[Fh] at k3<;>first|exact k3.elim|skip;obtain⟨hg1,gl1,IX,hb⟩:=k3;have IX':Inv B hg1 ((X++U s)++AN l (rec .ready none)::[AA w.heap.size]) w1:=by rw[Afe];exact IX
   refine⟨_,run_beginRound IX'.getLoop (by rw[hrec]),?_⟩;have I2:=IX'.q8 {rec .ready none with state:=.busy};rw[Afe] at I2;refine wpIn_mono (hb _ _ I2 hsb a1 k1 k2 rfl) ?_;rintro x2 a2 w2 ⟨q1,q2,q3⟩;cases x2<;>simp only[S5] at q3<;>simp only[Lb,roundPost]<;>first|exact q3.elim|skip
   ·obtain⟨h2,s2,Z,gl2,I3,hj2⟩:=q3;have I3':Inv B h2 ((X++U s2)++AN l {rec .ready none with state:=.busy}::[AA w.heap.size]) w2:=by
     rw[Afe];exact I3.weak (AfJ _ _)
    have hr:=run_endRound (P:=P) none I3'.getLoop;have I4:=I3'.q8 (rec .ready none);refine⟨_,_,hr,.inl ⟨rfl,h2,s2,gl1.trans gl2,?_,hj2⟩⟩;rw[Afe] at I4;rw[hrec] at I4 ⊢;exact I4
   ·exact⟨q2,.inr ⟨_,rfl,q3⟩⟩
  ·rintro ed W2 (⟨⟨v,rfl⟩,hg',s,gl,I2,hj⟩|⟨ch,rfl,hx⟩)
   ·refine⟨_,by have:=run_endLoop (P:=P) I2.getLoop (by rw[hrec];simp);rw[hrec] at this;exact this,h1,?_⟩;have I3:=(I2.q8 {rec .ready none with state:=.exhausted}).u7;have hq:=hdone w.heap.size hg' s _ gl I3 hj;have hq':Q .normal (env a) (W2.putObj l (.loop {rec .ready none with state:=.exhausted})) (mark w.heap.size::a.defers):=by rw[h2];exact hq
    rw[hrec] at hq';exact hq'
   ·refine⟨h1,?_⟩;have hq:=hpan _ _ _ hx;rw[←h2] at hq;exact hq
def Aaz(P:Program)(fn:Func)(R:Ending→World→Prop):Exit→Env→World→List Deferred→Prop
 |.normal,e,w,D|.ret,e,w,D=>∀tmps,env {tmps:=tmps,defers:=[]}=e→LeavesInM Fence.wide 0 P fn tmps R D .returning w
 |.panic ch,e,w,D=>∀tmps,env {tmps:=tmps,defers:=[]}=e→LeavesInM Fence.wide 0 P fn tmps R D (.panicking ch) w
 |_,_,_,_=>False
theorem Adv{P:Program}{f:FuncId}{fn:Func}{c:Code}{N:Nat}{args:List Value}{w:World}{R:Ending→World→Prop}(hf:P.funcs[f]?=some fn)(hb:fn.body=some c)(hN:fn.ntmps=N)(hs:AS N c=true)
  (hl:args.length≤N) (h:∀e,WPF P f N [] c (E e (Ky 0 args)) w (Aaz P fn R)):Calls P f args.toArray w R:=by
 refine(callsIn_wide (n:=0)).1 ⟨trivial,fun cs hr=>?_⟩;subst hN;let b:Frame:={(default:Frame) with fn:=f,kind:=.normal,roundOf:=none}
 have henter:Frame.enter P f args.toArray .normal=b.atR {tmps:=args.toArray++Array.replicate (fn.ntmps-args.toArray.size) undef,defers:=[]} [.code c]:=by
  simp[Frame.enter,Frame.atR,hf,hb,b]
 obtain⟨e,a',w',⟨_,hq⟩,harr⟩:=h _ hs {tmps:=args.toArray++Array.replicate (fn.ntmps-args.toArray.size) undef,defers:=[]} (by simp;omega) rfl (C9 (DQ args 0 fun j v hv=>by
  have hj:=(Ae9.1 hv).1;have hg:args[j]=v:=(Ae9.1 hv).2;simp[env,Afp,Age,hj,hg])).symm b [] cs rfl rfl
 rw[←henter] at harr;cases e with
 |normal=>
  obtain⟨e',w'',fr',hR,hs,hfn,hl⟩:=leaves_stepsInM a'.defers .returning w' {b.atR a' [] with mode:=.returning} cs rfl rfl rfl hf rfl trivial hr (hq a'.tmps rfl);exact⟨e',w'',fr',hR,ComesIn.of_steps (StepsIn.trans harr (.one (fenced_wide _ _) (stepR_end rfl))) hs,hfn,hl⟩
 |ret=>
  obtain⟨todo,hs₀⟩:=harr.1 rfl;obtain⟨e',w'',fr',hR,hs,hfn,hl⟩:=leaves_stepsInM a'.defers .returning w' {b.atR a' todo with mode:=.returning} cs rfl rfl rfl hf rfl trivial hr (hq a'.tmps rfl);exact⟨e',w'',fr',hR,ComesIn.of_steps hs₀ hs,hfn,hl⟩
 |panic chain=>
  obtain⟨todo,hs₀⟩:=harr;obtain⟨e',w'',fr',hR,hs,hfn,hl⟩:=leaves_stepsInM a'.defers (.panicking chain) w' {b.atR a' todo with mode:=.panicking chain} cs rfl rfl rfl hf rfl trivial hr (hq a'.tmps rfl);exact⟨e',w'',fr',hR,ComesIn.of_steps hs₀ hs,hfn,hl⟩
 |exit id=>exact hq.elim
 |goto l=>exact hq.elim
 |outgrown=>exact hq.elim
end
end Go.TF
