/- Texts Base25 SpTxt ShLay Tab Blt1 Base26 SpLat SpLat2 SpRule SpRule2 SpFact SpBase SpBase2 SpProg SpStrata SpFire. -/
import Derived.Test.YtljkkojkfddpeaaGreatDoorU2
import Derived.Lib.FrozenHead
import Derived.Lib.Split
import Derived.Lib.SplitLaws
import Derived.Lib.AtoiAll
import Derived.Lib.Strings
import Derived.Test.YtljkkojkfddpeaaGreatDoorProg
import Derived.Shelf.Strings.Builder1
import Derived.Shelf.Strings.OnBuilder
import Derived.Shelf.Small.Strs
import Derived.Shelf.Small.Wraps
import Derived.Shelf.Strings.BuilderF
import Derived.Shelf.Strconv.Itoa3
import Derived.Shelf.Strconv.AtoiAll
import Derived.Shelf.Strings.Search3
import Derived.Shelf.Strings.Cut
import Derived.Shelf.Strings.Count
import Derived.Shelf.Strings.Prefix
import Derived.Shelf.Strings.Split
import Derived.Shelf.LaysM
import Derived.Shelf.LaysC
import Derived.KernelRfl
set_option maxRecDepth 20000
set_option maxHeartbeats 16000000
set_option linter.unusedVariables false
set_option linter.unusedSimpArgs false
set_option linter.defProp false
namespace Go.TF
open Go Go.RowKit Go.Proofs Go.Proofs.Tryz
section
def Xh(e b0:Nat)(v:Value)(l:List UInt8):SA where
 fp:=v.ownBlock.toList
 P:=fun w=>w.ownsRowF b0 e 1 v l.length (Lib.byteCells l)
 loc:=by
  rintro w w' h ho
  exact⟨ho.1,ho.2.imp id fun ⟨g,cap,cur,fz,hv,hg,hc,hr⟩=>⟨g,cap,cur,fz,hv,hg,(h g (by subst hv;simp[Value.ownBlock])).trans hc,hr⟩⟩
theorem LM(l:List UInt8)(s:ByteArray):Lib.byteCells l++Lib.strCells s=Lib.byteCells (l++s.data.toList):=by
 simp[Lib.byteCells,Lib.strCells]
section
variable {B:Aq}{h:Ae}{w w':World}{M:List SA}
theorem Inv.less{h0:Ae}(I:Inv B h M w)(hl:h0.le h)(hB:B.h.le h0):Inv B h0 M w:=
 ⟨I.below,hB,fun b o hb=>I.new b o (hl b o hb),fun b o hb=>I.imm b o (hl b o hb),fun A hA=>by
  obtain⟨h1,h2⟩:=I.own A hA;refine⟨h1,fun b hb=>?_⟩;obtain⟨k1,k2,k3⟩:=h2 b hb;refine⟨k1,k2,?_⟩;cases hh:h0 b with
  |none=>rfl
  |some o=>(rw[hl _ _ hh] at k3;cases k3),I.apart⟩
theorem Inv.aa0(I:Inv B h M w)(e b0:Nat):Inv B h (Xh e b0 (.slice none 0 0) []::M) w:=
 I.gain (CZ.refl w) (World.ownsRowF_nil w b0 e 1) (fun b hb=>by simp[Xh,Value.ownBlock] at hb)
theorem Inv.aa1(I:Inv B h M w)(n:Nat){b:Nat}{u v p:Value}{T:TypeId}(hn:M[n]?=some (box b [u,v] T)):Inv B h (M.set n (box b [p,v] T)) (w.setCell ⟨b,0,none⟩ p):=by
 have hb:w.heap[b]?=some (.cells #[u,v] T (0,0)):=I.at n hn;have hs:(w.setCell ⟨b,0,none⟩ p).heap[b]?=some (.cells #[p,v] T (0,0)):=by rw[heap_setCell_same w b 0 _ T p hb];rfl
 refine I.l6 n hn rfl rfl rfl (by simp[World.setCell]) (fun k _ hk'=>heap_setCell_other w _ k p (fun e=>hk' (by simp[box,e]))) hs (fun k hk=>?_);simp[box] at hk;subst hk;exact⟨.inl (by simp[box]),(Afr.1 hs).1⟩
end
theorem OB{P:Program}{w:World}{T U ty el b0:Nat}{i:TypeInfo}(ht:Und P T (.slice el))(hu:Und P U .string)(hi:P.info? el=some i)(hz:i.zero=some (.int .u8 0)∧i.size=1∧i.bytes=1)
  {v:Value} {n:Nat} {xs:List Value} (hown:w.ownsRowF b0 el 1 v n xs) (s:ByteArray) (hl:n+s.size≤140737488355328) (hb:b0≤w.heap.size) :
  ∃v' w',(Builtin.append_ #[T,U] ty #[v,.string s]).run P w=.ok v' w'∧w'.ownsRowF b0 el 1 v' (n+s.size) (xs++Lib.strCells s)∧w.grownBy w' v.ownBlock∧∀b,v'.ownBlock=some b→v.ownBlock=some b∨w.heap.size≤b:=by
 have hm:n+s.size≤maxLen:=by simp only[maxLen];omega
 rcases hown.2 with ⟨rfl,rfl⟩|⟨g,cap,cur,fz,rfl,hbg,hg,hfz,hnc,hcm,hcs,htake⟩
 ·obtain⟨v',w',h1,h2,h3,_⟩:=Lib.run_append_own_stringF (P:=P) w w.heap.size T U ty el i ht hu hi hz.1 hz.2.1 hz.2.2 (.slice none 0 0) 0 xs ⟨hown.1,.inl ⟨rfl,rfl⟩⟩ s hm hl (Afg _);refine⟨v',w',h1,⟨h2.1,h2.2.imp id fun ⟨g,cap,cur,fz,e,hg,hr⟩=>⟨g,cap,cur,fz,e,AfY hb hg,hr⟩⟩,h3,fun b hb'=>.inr (h2.lt b hb').1⟩
 ·have hxl:xs.length=n:=by simpa using hown.1
  by_cases hroom:n+s.size≤cap
  ·have hcs':cur.size=cap:=by simpa using hcs
   have hr:=Lib.run_append_room_stringF (P:=P) w T U ty el i ht hu hi hz.2.1 g n cap cur fz hg (by simpa using hfz) s hroom (by omega);obtain⟨v',w',h1,h2,h3,_⟩:=Lib.run_append_own_stringF (P:=P) w b0 T U ty el i ht hu hi hz.1 hz.2.1 hz.2.2 _ n xs hown s hm hl hb;refine⟨v',w',h1,h2,h3,fun b hb'=>.inl ?_⟩;have e:=hr.symm.trans h1;injection e with e1 e2;subst e1;exact hb'
  ·have holds:∀j u,xs[j]?=some u→w.cell? ((⟨g,0,none⟩:Addr).add j)=some u:=hown.cells (g:=g) rfl;have hr:=Lib.run_append_grow_string (P:=P) w T U ty el i (.int .u8 0) ht hu hi hz.1 ⟨g,0,none⟩ n cap xs (by rw[hz.2.1];simpa using hxl) holds s (by omega) (by omega) (by rw[hz.2.2];exact growslice_fits (by omega) (by omega));obtain⟨v',w',h1,h2,h3,_⟩:=Lib.run_append_own_stringF (P:=P) w b0 T U ty el i ht hu hi hz.1 hz.2.1 hz.2.2 _ n xs hown s hm hl hb;refine⟨v',w',h1,h2,h3,fun b hb'=>.inr ?_⟩;have e:=hr.symm.trans h1;injection e with e1 e2;subst e1;simp[Value.ownBlock] at hb';omega
section
variable {P:Program}{e:Env}{w:World}{B:Aq}{h:Ae}{M:List SA}{d:Option Nat}{t:TypeId}{pos:String}{af:Array Edge}{g:Option (Nat×Bool)}{K:Value→World→Prop}
theorem Aer{T U el b0:Nat}{i:TypeInfo}{x y:Operand}{v:Value}{l:List UInt8}{s:ByteArray}(I:Inv B h M w)(hT:Und P T (.slice el))(hU:Und P U .string)(hi:P.info? el=some i)(hz:i.zero=some (.int .u8 0)∧i.size=1∧i.bytes=1)
  (n0:Nat) (hn:M[n0]?=some (Xh el b0 v l)) (hx:ev e x=v) (hy:ev e y=.string s) (hl:l.length+s.size≤140737488355328) (hb:b0≤w.heap.size)
  (kk:∀a k c w',Inv B h (M.set n0 (Xh el b0 (.slice a k c) (l++s.data.toList))) w'→K (.slice a k c) w'):Op1 P ⟨d,.call {callee:=.builtin .append,args:=#[x,y],argTypes:=#[T,U]},t,pos,af,g⟩ e w K:=by
 have own:w.ownsRowF b0 el 1 v l.length (Lib.byteCells l):=I.at n0 hn;obtain⟨v',w',hr,h2,h3,h4⟩:=OB (ty:=t) hT hU hi hz own s hl hb;rw[LM] at h2;have hlen:l.length+s.size=(l++s.data.toList).length:=by simp
 rw[hlen] at h2;obtain⟨a,k,c,rfl⟩:∃a k c,v'=.slice a k c:=by
  rcases h2.2 with ⟨hv,_⟩|⟨g,cap,cur,fz,hv,_⟩
  ·exact⟨_,_,_,hv⟩
  ·exact⟨_,_,_,hv⟩
 have:(execOp (ev e) ⟨d,.call {callee:=.builtin .append,args:=#[x,y],argTypes:=#[T,U]},t,pos,af,g⟩).run P w=.ok (.value (.slice a k c)) w':=by
  simp[execOp,resolve,invoke,builtin,hx,hy,hr]
 unfold Op1;rw[this];refine kk a k c w' (I.l6 n0 hn h3.os h3.tape h3.output h3.size (fun b hb hm=>h3.block b hb fun e=>hm (by simp[Xh,←e])) h2 fun b hb=>?_);have hb2:(Value.slice a k c).ownBlock=some b:=by simpa[Xh] using hb
 have hlt:=h2.lt b hb2;refine⟨?_,hlt.2⟩;rcases h4 b hb2 with h5|h5
 ·exact .inl (by simp[Xh,h5])
 ·exact .inr h5
end
end
section
abbrev Bs:=List UInt8
abbrev tx(s:ByteArray):Bs:=s.data.toList
theorem BD(a b:ByteArray):tx (a++b)=tx a++tx b:=by simp[tx]
theorem Cb{a b:ByteArray}:tx a=tx b↔a=b:=⟨fun h=>by obtain⟨⟨x⟩⟩:=a;obtain⟨⟨y⟩⟩:=b;simp[tx] at h;subst h;rfl,fun h=>by rw[h]⟩
theorem DO(l:Bs):tx ⟨l.toArray⟩=l:=rfl
theorem M2(s:ByteArray):(⟨(tx s).toArray⟩:ByteArray)=s:=by obtain⟨⟨l⟩⟩:=s;rfl
theorem BF(s:ByteArray):(tx s).length=s.size:=by simp[tx]
theorem R8{s sub:Bs}{i k:Nat}(h:Lib.occAt s sub i=true)(hk:k<sub.length):s[i+k]?=sub[k]?:=by
 unfold Lib.occAt at h;obtain⟨r,hr⟩:=AhF.1 h;have:(s.drop i)[k]?=sub[k]?:=by rw[←hr,AfU hk]
 simpa using this
theorem Vb{a b sep:Bs}:Lib.occAt (a++(sep++b)) sep a.length=true:=by
 unfold Lib.occAt;simp
theorem FU{a b sep:Bs}{c:UInt8}{k:Nat}(hk:sep[k]?=some c)(hc:c∉a)(hs:∀j,j<k→sep[j]?≠some c):Lib.index (a++(sep++b)) sep=a.length:=by
 have hkl:k<sep.length:=(Ae9.1 hk).1;refine Lib.index_first (by simp) Vb fun j hj=>?_;cases ho:Lib.occAt (a++(sep++b)) sep j with
 |false=>rfl
 |true=>
  exfalso;have h1:=R8 ho hkl;rw[hk] at h1;by_cases h2:j+k<a.length
  ·rw[AfU h2] at h1;exact hc (Afk h1)
  ·rw[Af5 (by omega),AfU (by omega)] at h1;exact hs (j+k-a.length) (by omega) h1
theorem LN{a sep:Bs}{c:UInt8}(hk:c∈sep)(hc:c∉a):Lib.index a sep=-1:=by
 obtain⟨k,hkl,hk⟩:=Afz hk;refine Lib.index_none fun j _=>?_;cases ho:Lib.occAt a sep j with
 |false=>rfl
 |true=>
  have h1:=R8 ho hkl;rw[Ae4 hkl,hk] at h1;exact absurd (Afk h1) hc
theorem Xi{a b sep:Bs}(h:Lib.index (a++(sep++b)) sep=a.length):Lib.cut (a++(sep++b)) sep=(a,b,true):=by
 unfold Lib.cut;rw[h,if_pos (by omega)];simp
theorem Vc{a sep:Bs}(h:Lib.index a sep=-1):Lib.cut a sep=(a,[],false):=by
 unfold Lib.cut;rw[h,if_neg (by omega)]
theorem U0{a b:Bs}{c:UInt8}(hc:c∉a):Lib.cut (a++([c]++b)) [c]=(a,b,true):=Xi (FU (k:=0) rfl hc fun j hj=>by omega)
theorem Aau{a b t:Bs}{c d:UInt8}(hd:d∉a)(hne:c≠d):Lib.cut (a++((c::d::t)++b)) (c::d::t)=(a,b,true):=
 Xi (FU (k:=1) rfl hd fun j hj=>by
  have:j=0:=by omega
  subst this;exact fun e=>hne (by simpa using e))
theorem DU{a sep:Bs}{c:UInt8}(hk:c∈sep)(hc:c∉a):Lib.cut a sep=(a,[],false):=Vc (LN hk hc)
theorem Pn{a b sep:Bs}(h0:sep≠[])(h:Lib.index (a++(sep++b)) sep=a.length):Lib.split (a++(sep++b)) sep=a::Lib.split b sep:=by
 unfold Lib.split;have hd:(a++(sep++b)).drop (a.length+sep.length)=b:=by rw[←Ah2];simp
 rw[Lib.count_hit h0 h,hd,Nat.add_comm,Lib.splitK,h,if_neg (by simp)];simp[hd]
theorem KT{a sep:Bs}(h:Lib.index a sep=-1):Lib.split a sep=[a]:=by
 unfold Lib.split;rw[Lib.count_miss h];rfl
def joinT(sep:Bs):List Bs→Bs
 |[]=>[]
 |[x]=>x
 |x::y::r=>x++(sep++joinT sep (y::r))
theorem GD{c:UInt8}:∀{l:List Bs},l≠[]→(∀x∈l,c∉x)→Lib.split (joinT [c] l) [c]=l
 |[],h,_=>absurd rfl h
 |[x],_,h=>KT (LN (Afl.2 rfl) (h x (by simp)))
 |x::y::r,_,h=>by
  rw[joinT,Pn (by simp) (FU (k:=0) rfl (h x (by simp)) fun j hj=>by omega),GD (by simp) fun z hz=>h z (Ae8 _ hz)]
theorem Jh{c d:UInt8}(hne:c≠d):∀{l:List Bs},l≠[]→(∀x∈l,d∉x)→Lib.split (joinT [c,d] l) [c,d]=l
 |[],h,_=>absurd rfl h
 |[x],_,h=>KT (LN (c:=d) (by simp) (h x (by simp)))
 |x::y::r,_,h=>by
  rw[joinT,Pn (by simp) (FU (k:=1) rfl (h x (by simp)) fun j hj=>?_),Jh hne (by simp) fun z hz=>h z (Ae8 _ hz)];have:j=0:=by omega
  subst this;exact fun e=>hne (by simpa using e)
theorem LO(a p:Bs):Lib.hasSuffix (a++p) p=true:=by
 unfold Lib.hasSuffix;rw[AgC];exact List.suffix_append a p
theorem G3(a p:Bs):Lib.trimSuffix (a++p) p=a:=by
 unfold Lib.trimSuffix;rw[if_pos (LO a p)];simp
theorem Zo{a:Bs}{c:UInt8}(h:c∉a):Lib.hasSuffix a [c]=false:=by
 cases hh:Lib.hasSuffix a [c] with
 |false=>rfl
 |true=>
  unfold Lib.hasSuffix at hh;rw[AgC] at hh;exact absurd (hh.subset (by simp)) h
theorem LP(a p:Bs):Lib.hasPrefix (p++a) p=true:=by
 unfold Lib.hasPrefix;rw[AhF];exact List.prefix_append p a
theorem Ji(a p:Bs):Lib.trimPrefix (p++a) p=a:=by
 unfold Lib.trimPrefix;rw[if_pos (LP a p)];simp
def dgL(n:Nat):Bs:=if n<10 then [UInt8.ofNat (48+n)] else [UInt8.ofNat (48+n / 10 % 10),UInt8.ofNat (48+n % 10)]
def BP(s:Bs):Int:=if 1≤s.length∧s.length≤6 then s.foldl (fun n c=>10*n+(c.toNat:Int)-48) 0 else 0
def Du(s:Bs):Option Int:=match Lib.atoiAll s with|.ok v=>some v|_=>none
theorem XL:∀n:Fin 100,BP (dgL n.val)=n.val:=by decide +kernel
theorem Zp:∀n:Fin 100,Du (dgL n.val)=some (n.val:Int):=by decide +kernel
def Kw(c:UInt8):Bool:=decide (48≤c.toNat) && decide (c.toNat≤57)
theorem Zq:∀n:Fin 100,(dgL n.val).all Kw=true:=by decide +kernel
theorem Jj{n:Nat}(h:n<100):BP (dgL n)=n:=XL ⟨n,h⟩
theorem M3{n:Nat}(h:n<100):Du (dgL n)=some (n:Int):=Zp ⟨n,h⟩
theorem Zr{n:Nat}(h:n<100){c:UInt8}(hc:c∈dgL n):Kw c=true:=(Aff.1 (Zq ⟨n,h⟩)) c hc
theorem Zs{n:Nat}(h:n<100){c:UInt8}(hc:Kw c=false):c∉dgL n:=fun hm=>by rw[Zr h hm] at hc;cases hc
end
end Go.TF
section
namespace Go.Proofs
open Tryz
theorem Fs{α:Type}{a:Option α}{b c:α}(h:a=some b)(e:b=c:=by kernel_rfl):a=some c:=h.trans (congrArg some e)
open Go.Shelf
def Tryz.lays169_ren:Go.Shelf.Ren:=⟨fun|169=>27|n=>n,fun|70=>48|9=>9|0=>0|72=>51|37=>49|127=>112|3=>3|5=>5|n=>n,fun|n=>n⟩
theorem Tryz.lays169:Go.Proofs.Lays.n169 Tryz.prog Tryz.lays169_ren:={
 mixed:=by kernel_rfl
 f169:=Fs func27
 t0:=underlying0
 a0:=isAgg0
 z0:=sizeOf0
 v0:=zeroValue0
 t3:=underlying3
 a3:=isAgg3
 z3:=sizeOf3
 v3:=zeroValue3
 t9:=underlying9
 a9:=isAgg9
 z9:=sizeOf9
 v9:=zeroValue9
 t37:=underlying49
 a37:=isAgg49
 z37:=sizeOf49
 v37:=zeroValue49
 t70:=underlying48
 a70:=isAgg48
 z70:=sizeOf48
 v70:=zeroValue48
 t72:=underlying51
 a72:=isAgg51
 z72:=sizeOf51
 v72:=zeroValue51
 t127:=underlying112
 a127:=isAgg112
 z127:=sizeOf112
 v127:=zeroValue112}
theorem Tryz.Builder_Extra_169:Builder.Extra Tryz.prog Tryz.lays169_ren:={
 sizeBuilder:=by kernel_rfl
 liesBuilder:=by kernel_rfl
 t5:=underlying5
 a5:=isAgg5
 z5:=sizeOf5
 v5:=zeroValue5
 infoByte:=by kernel_rfl
 cellsByte:=by kernel_rfl
 sizeByte:=by kernel_rfl
 neB5:=by decide}
def Tryz.lays156_ren:Go.Shelf.Ren:=⟨fun|156=>26|165=>66|166=>23|169=>27|240=>63|241=>123|276=>121|277=>167|n=>n,fun|31=>66|9=>9|3=>3|4=>4|0=>0|20=>20|72=>51|76=>56|70=>48|37=>49|75=>55|127=>112|164=>161|5=>5|80=>70|n=>n,fun|n=>n⟩
theorem Tryz.lays156:Go.Proofs.Lays.n156 Tryz.prog Tryz.lays156_ren:={
 mixed:=by kernel_rfl
 f156:=Fs func26
 f165:=Fs func66
 f166:=Fs func23
 f169:=Fs func27
 f240:=Fs func63
 f241:=Fs func123
 f276:=Fs func121
 f277:=Fs func167
 t0:=underlying0
 a0:=isAgg0
 z0:=sizeOf0
 v0:=zeroValue0
 t3:=underlying3
 a3:=isAgg3
 z3:=sizeOf3
 v3:=zeroValue3
 t4:=underlying4
 a4:=isAgg4
 z4:=sizeOf4
 v4:=zeroValue4
 t9:=underlying9
 a9:=isAgg9
 z9:=sizeOf9
 v9:=zeroValue9
 t20:=underlying20
 a20:=isAgg20
 z20:=sizeOf20
 v20:=zeroValue20
 t31:=underlying66
 a31:=isAgg66
 z31:=sizeOf66
 v31:=zeroValue66
 t37:=underlying49
 a37:=isAgg49
 z37:=sizeOf49
 v37:=zeroValue49
 t70:=underlying48
 a70:=isAgg48
 z70:=sizeOf48
 v70:=zeroValue48
 t72:=underlying51
 a72:=isAgg51
 z72:=sizeOf51
 v72:=zeroValue51
 t75:=underlying55
 a75:=isAgg55
 z75:=sizeOf55
 v75:=zeroValue55
 t76:=underlying56
 a76:=isAgg56
 z76:=sizeOf56
 v76:=zeroValue56
 t127:=underlying112
 a127:=isAgg112
 z127:=sizeOf112
 v127:=zeroValue112
 t164:=underlying161
 a164:=isAgg161
 z164:=sizeOf161
 v164:=zeroValue161}
theorem Tryz.Builder_Extra_156:Builder.Extra Tryz.prog Tryz.lays156_ren:={
 sizeBuilder:=by kernel_rfl
 liesBuilder:=by kernel_rfl
 t5:=underlying5
 a5:=isAgg5
 z5:=sizeOf5
 v5:=zeroValue5
 infoByte:=by kernel_rfl
 cellsByte:=by kernel_rfl
 sizeByte:=by kernel_rfl
 neB5:=by decide}
open Go.RowKit in
theorem Tryz.strings_Join_none(a:Option Addr)(c:Nat)(sep:ByteArray)(w:World) :
  Calls prog 26 #[.slice a 0 c,.string sep] w fun e w'=>e=.returned (.string ⟨#[]⟩)∧w'=w:=Any.strings_Join_none lays156 Builder_Extra_156 a c sep w
open Go.RowKit in
theorem Tryz.strings_Join(bk o c:Nat)(xs:List ByteArray)(sep:ByteArray)(w:World)(hcells:∀(j:Nat) x,xs[j]?=some x→w.cell? ⟨bk,o+j,none⟩=some (.string x))(hbk:bk<w.heap.size)(hN:xs.length≤140737488355328)(hcap:xs.length≤c)(hlen:(Lib.join (xs.map (·.data.toList)) sep.data.toList).length≤140737488355328) :
  Calls prog 26 #[.slice (some ⟨bk,o,none⟩) xs.length c,.string sep] w fun e w'=>e=.returned (.string ⟨(Lib.join (xs.map (·.data.toList)) sep.data.toList).toArray⟩)∧Below w.heap.size w w':=Any.strings_Join lays156 Builder_Extra_156 bk o c xs sep w hcells hbk hN hcap hlen
def Tryz.lays137_ren:Go.Shelf.Ren:=⟨fun|137=>68|217=>124|266=>168|n=>n,fun|9=>9|5=>5|3=>3|n=>n,fun|n=>n⟩
theorem Tryz.lays137:Go.Proofs.Lays.n137 Tryz.prog Tryz.lays137_ren:={
 mixed:=by kernel_rfl
 f137:=Fs func68
 f217:=Fs func124
 f266:=Fs func168
 t3:=underlying3
 a3:=isAgg3
 z3:=sizeOf3
 v3:=zeroValue3
 t5:=underlying5
 a5:=isAgg5
 z5:=sizeOf5
 v5:=zeroValue5
 t9:=underlying9
 a9:=isAgg9
 z9:=sizeOf9
 v9:=zeroValue9}
open Go.RowKit in
theorem Tryz.strings_IndexByte(s:ByteArray)(c:Int)(w:World) :
  Calls prog 68 #[.string s,.int .u8 c] w fun e w'=>e=.returned (.int .i64 (Lib.indexByte s.data.toList c.toNat.toUInt8))∧w'=w:=Any.strings_IndexByte lays137 s c w
def Tryz.lays103_ren:Go.Shelf.Ren:=⟨fun|103=>69|210=>125|206=>169|n=>n,fun|9=>9|4=>4|24=>114|3=>3|n=>n,fun|n=>n⟩
theorem Tryz.lays103:Go.Proofs.Lays.n103 Tryz.prog Tryz.lays103_ren:={
 mixed:=by kernel_rfl
 f103:=Fs func69
 f206:=Fs func169
 f210:=Fs func125
 t3:=underlying3
 a3:=isAgg3
 z3:=sizeOf3
 v3:=zeroValue3
 t4:=underlying4
 a4:=isAgg4
 z4:=sizeOf4
 v4:=zeroValue4
 t9:=underlying9
 a9:=isAgg9
 z9:=sizeOf9
 v9:=zeroValue9
 t24:=underlying114
 a24:=isAgg114
 z24:=sizeOf114
 v24:=zeroValue114}
open Go.RowKit in
theorem Tryz.strings_CutPrefix(s p:ByteArray)(w:World) :
  Calls prog 69 #[.string s,.string p] w fun e w'=>e=.returned (.tuple #[.string ⟨(Lib.trimPrefix s.data.toList p.data.toList).toArray⟩,.bool (Lib.hasPrefix s.data.toList p.data.toList)])∧w'=w:=Any.strings_CutPrefix lays103 s p w
def Tryz.lays104_ren:Go.Shelf.Ren:=⟨fun|104=>72|211=>128|207=>87|n=>n,fun|9=>9|4=>4|24=>114|3=>3|n=>n,fun|n=>n⟩
theorem Tryz.lays104:Go.Proofs.Lays.n104 Tryz.prog Tryz.lays104_ren:={
 mixed:=by kernel_rfl
 f104:=Fs func72
 f207:=Fs func87
 f211:=Fs func128
 t3:=underlying3
 a3:=isAgg3
 z3:=sizeOf3
 v3:=zeroValue3
 t4:=underlying4
 a4:=isAgg4
 z4:=sizeOf4
 v4:=zeroValue4
 t9:=underlying9
 a9:=isAgg9
 z9:=sizeOf9
 v9:=zeroValue9
 t24:=underlying114
 a24:=isAgg114
 z24:=sizeOf114
 v24:=zeroValue114}
open Go.RowKit in
theorem Tryz.strings_CutSuffix(s p:ByteArray)(w:World)(hs:s.size≤9223372036854775807) :
  Calls prog 72 #[.string s,.string p] w fun e w'=>e=.returned (.tuple #[.string ⟨(Lib.trimSuffix s.data.toList p.data.toList).toArray⟩,.bool (Lib.hasSuffix s.data.toList p.data.toList)])∧w'=w:=Any.strings_CutSuffix lays104 s p w hs
open Go.RowKit in
theorem Tryz.Builder_String_any_f(B b:Nat)(l:List UInt8)(w:World)(h:Lib.IsBuilderF 51 5 B b (Lib.byteCells l) w)(hBw:B≤w.heap.size) :
  Calls prog 27 #[.pointer (some ⟨b,0,none⟩)] w fun e w'=>e=.returned (.string ⟨l.toArray⟩)∧(Lib.IsBuilderF 51 5 B b (Lib.byteCells l) w'∧Below B w w'):=Any.Builder_String_any_f lays169 Builder_Extra_169 B b l w h hBw
def Tryz.laysM171_ren:Go.Shelf.Ren:=⟨fun|171=>24|243=>64|246=>122|283=>163|284=>164|285=>165|286=>166|129=>203|317=>202|318=>204|319=>205|320=>206|337=>227|338=>228|n=>n,fun|3=>3|9=>9|2=>2|4=>4|171=>198|0=>0|53=>199|37=>49|5=>5|173=>202|212=>226|51=>227|20=>20|213=>228|46=>210|232=>264|233=>265|n=>n,fun|17=>1|18=>4|19=>5|n=>n⟩
theorem Tryz.laysM171:Go.Proofs.LaysM.n171 Tryz.prog Tryz.laysM171_ren:={
 mixed:=by kernel_rfl
 f129:=Fs func203
 f171:=Fs func24
 f243:=Fs func64
 f246:=Fs func122
 f283:=Fs func163
 f284:=Fs func164
 f285:=Fs func165
 f286:=Fs func166
 f317:=Fs func202
 f318:=Fs func204
 f319:=Fs func205
 f320:=Fs func206
 f337:=Fs func227
 f338:=Fs func228
 t0:=underlying0
 a0:=isAgg0
 z0:=sizeOf0
 v0:=zeroValue0
 t2:=underlying2
 a2:=isAgg2
 z2:=sizeOf2
 v2:=zeroValue2
 t3:=underlying3
 a3:=isAgg3
 z3:=sizeOf3
 v3:=zeroValue3
 t4:=underlying4
 a4:=isAgg4
 z4:=sizeOf4
 v4:=zeroValue4
 t5:=underlying5
 a5:=isAgg5
 z5:=sizeOf5
 v5:=zeroValue5
 t9:=underlying9
 a9:=isAgg9
 z9:=sizeOf9
 v9:=zeroValue9
 t20:=underlying20
 a20:=isAgg20
 z20:=sizeOf20
 v20:=zeroValue20
 t37:=underlying49
 a37:=isAgg49
 z37:=sizeOf49
 v37:=zeroValue49
 t46:=underlying210
 a46:=isAgg210
 z46:=sizeOf210
 v46:=zeroValue210
 t51:=underlying227
 a51:=isAgg227
 z51:=sizeOf227
 v51:=zeroValue227
 t53:=underlying199
 a53:=isAgg199
 z53:=sizeOf199
 v53:=zeroValue199
 t171:=underlying198
 a171:=isAgg198
 z171:=sizeOf198
 v171:=zeroValue198
 t173:=underlying202
 a173:=isAgg202
 z173:=sizeOf202
 v173:=zeroValue202
 t212:=underlying226
 a212:=isAgg226
 z212:=sizeOf226
 v212:=zeroValue226
 t213:=underlying228
 a213:=isAgg228
 z213:=sizeOf228
 t232:=underlying264
 a232:=isAgg264
 z232:=sizeOf264
 v232:=zeroValue264
 t233:=underlying265
 a233:=isAgg265
 z233:=sizeOf265
 v233:=zeroValue265
 g17:=by kernel_rfl
 g18:=by kernel_rfl
 g19:=by kernel_rfl
 i0:=by kernel_rfl
 i2:=by kernel_rfl
 i3:=by kernel_rfl
 i4:=by kernel_rfl
 i5:=by kernel_rfl
 i9:=by kernel_rfl
 i20:=by kernel_rfl
 i37:=by kernel_rfl
 i46:=by kernel_rfl
 i51:=by kernel_rfl
 i53:=by kernel_rfl
 i171:=by kernel_rfl
 i173:=by kernel_rfl
 i212:=by kernel_rfl
 i232:=by kernel_rfl
 i233:=by kernel_rfl
 m17:=by kernel_rfl
 m18:=by kernel_rfl
 m19:=by kernel_rfl}
def Tryz.lays171_ren:Go.Shelf.Ren:=⟨fun|171=>24|243=>64|246=>122|283=>163|284=>164|285=>165|286=>166|129=>203|317=>202|318=>204|319=>205|320=>206|337=>227|338=>228|n=>n,fun|3=>3|9=>9|2=>2|4=>4|171=>198|0=>0|53=>199|37=>49|5=>5|173=>202|212=>226|51=>227|20=>20|213=>228|46=>210|232=>264|233=>265|n=>n,fun|17=>1|18=>4|19=>5|n=>n⟩
theorem Tryz.lays171:Go.Proofs.Lays.n171 Tryz.prog Tryz.lays171_ren:={
 mixed:=by kernel_rfl
 f129:=Fs func203
 f171:=Fs func24
 f243:=Fs func64
 f246:=Fs func122
 f283:=Fs func163
 f284:=Fs func164
 f285:=Fs func165
 f286:=Fs func166
 f317:=Fs func202
 f318:=Fs func204
 f319:=Fs func205
 f320:=Fs func206
 f337:=Fs func227
 f338:=Fs func228
 t0:=underlying0
 a0:=isAgg0
 z0:=sizeOf0
 v0:=zeroValue0
 t2:=underlying2
 a2:=isAgg2
 z2:=sizeOf2
 v2:=zeroValue2
 t3:=underlying3
 a3:=isAgg3
 z3:=sizeOf3
 v3:=zeroValue3
 t4:=underlying4
 a4:=isAgg4
 z4:=sizeOf4
 v4:=zeroValue4
 t5:=underlying5
 a5:=isAgg5
 z5:=sizeOf5
 v5:=zeroValue5
 t9:=underlying9
 a9:=isAgg9
 z9:=sizeOf9
 v9:=zeroValue9
 t20:=underlying20
 a20:=isAgg20
 z20:=sizeOf20
 v20:=zeroValue20
 t37:=underlying49
 a37:=isAgg49
 z37:=sizeOf49
 v37:=zeroValue49
 t46:=underlying210
 a46:=isAgg210
 z46:=sizeOf210
 v46:=zeroValue210
 t51:=underlying227
 a51:=isAgg227
 z51:=sizeOf227
 v51:=zeroValue227
 t53:=underlying199
 a53:=isAgg199
 z53:=sizeOf199
 v53:=zeroValue199
 t171:=underlying198
 a171:=isAgg198
 z171:=sizeOf198
 v171:=zeroValue198
 t173:=underlying202
 a173:=isAgg202
 z173:=sizeOf202
 v173:=zeroValue202
 t212:=underlying226
 a212:=isAgg226
 z212:=sizeOf226
 v212:=zeroValue226
 t213:=underlying228
 a213:=isAgg228
 z213:=sizeOf228
 t232:=underlying264
 a232:=isAgg264
 z232:=sizeOf264
 v232:=zeroValue264
 t233:=underlying265
 a233:=isAgg265
 z233:=sizeOf265
 v233:=zeroValue265
 g17:=by kernel_rfl
 g18:=by kernel_rfl
 g19:=by kernel_rfl}
open Go.RowKit Go.Sort Go.Lib in
theorem Tryz.strconv_Itoa_small(i:Nat)(hi:i<100)(w:World) :
  Calls prog 24 #[.int .i64 i] w fun e w'=>e=.returned (.string ⟨(Lib.decDigits i).toArray⟩)∧w'=w:=Any.strconv_Itoa_small lays171 i hi w
def Tryz.laysC172_ren:Go.Shelf.Ren:=⟨fun|172=>127|244=>171|245=>172|247=>208|279=>209|280=>210|281=>211|282=>212|287=>230|316=>231|171=>24|205=>232|321=>241|322=>242|243=>64|246=>122|283=>163|284=>164|285=>165|286=>166|129=>203|317=>202|318=>204|319=>205|320=>206|337=>227|338=>228|n=>n,fun|9=>9|3=>3|75=>55|76=>56|4=>4|5=>5|167=>232|37=>49|0=>0|85=>233|2=>2|168=>235|53=>199|175=>258|46=>210|210=>261|127=>112|145=>273|143=>271|21=>21|171=>198|173=>202|212=>226|51=>227|20=>20|213=>228|232=>264|233=>265|80=>70|n=>n,fun|15=>2|16=>3|17=>1|18=>4|19=>5|n=>n⟩
theorem Tryz.laysC172:Go.Proofs.LaysC.n172 Tryz.prog Tryz.laysC172_ren:={
 mixed:=by kernel_rfl
 f129:=Fs func203
 f171:=Fs func24
 f172:=Fs func127
 f205:=Fs func232
 f243:=Fs func64
 f244:=Fs func171
 f245:=Fs func172
 f246:=Fs func122
 f247:=Fs func208
 f279:=Fs func209
 f280:=Fs func210
 f281:=Fs func211
 f282:=Fs func212
 f283:=Fs func163
 f284:=Fs func164
 f285:=Fs func165
 f286:=Fs func166
 f287:=Fs func230
 f316:=Fs func231
 f317:=Fs func202
 f318:=Fs func204
 f319:=Fs func205
 f320:=Fs func206
 f321:=Fs func241
 f322:=Fs func242
 f337:=Fs func227
 f338:=Fs func228
 t0:=underlying0
 a0:=isAgg0
 z0:=sizeOf0
 v0:=zeroValue0
 t2:=underlying2
 a2:=isAgg2
 z2:=sizeOf2
 v2:=zeroValue2
 t3:=underlying3
 a3:=isAgg3
 z3:=sizeOf3
 v3:=zeroValue3
 t4:=underlying4
 a4:=isAgg4
 z4:=sizeOf4
 v4:=zeroValue4
 t5:=underlying5
 a5:=isAgg5
 z5:=sizeOf5
 v5:=zeroValue5
 t9:=underlying9
 a9:=isAgg9
 z9:=sizeOf9
 v9:=zeroValue9
 t20:=underlying20
 a20:=isAgg20
 z20:=sizeOf20
 v20:=zeroValue20
 t21:=underlying21
 a21:=isAgg21
 z21:=sizeOf21
 v21:=zeroValue21
 t37:=underlying49
 a37:=isAgg49
 z37:=sizeOf49
 v37:=zeroValue49
 t46:=underlying210
 a46:=isAgg210
 z46:=sizeOf210
 v46:=zeroValue210
 t51:=underlying227
 a51:=isAgg227
 z51:=sizeOf227
 v51:=zeroValue227
 t53:=underlying199
 a53:=isAgg199
 z53:=sizeOf199
 v53:=zeroValue199
 t75:=underlying55
 a75:=isAgg55
 z75:=sizeOf55
 v75:=zeroValue55
 t76:=underlying56
 a76:=isAgg56
 z76:=sizeOf56
 v76:=zeroValue56
 t85:=underlying233
 a85:=isAgg233
 z85:=sizeOf233
 v85:=zeroValue233
 t127:=underlying112
 a127:=isAgg112
 z127:=sizeOf112
 v127:=zeroValue112
 t143:=underlying271
 a143:=isAgg271
 z143:=sizeOf271
 v143:=zeroValue271
 t145:=underlying273
 a145:=isAgg273
 z145:=sizeOf273
 v145:=zeroValue273
 t167:=underlying232
 a167:=isAgg232
 z167:=sizeOf232
 v167:=zeroValue232
 t168:=underlying235
 a168:=isAgg235
 z168:=sizeOf235
 v168:=zeroValue235
 t171:=underlying198
 a171:=isAgg198
 z171:=sizeOf198
 v171:=zeroValue198
 t173:=underlying202
 a173:=isAgg202
 z173:=sizeOf202
 v173:=zeroValue202
 t175:=underlying258
 a175:=isAgg258
 z175:=sizeOf258
 v175:=zeroValue258
 t210:=underlying261
 a210:=isAgg261
 z210:=sizeOf261
 v210:=zeroValue261
 t212:=underlying226
 a212:=isAgg226
 z212:=sizeOf226
 v212:=zeroValue226
 t213:=underlying228
 a213:=isAgg228
 z213:=sizeOf228
 t232:=underlying264
 a232:=isAgg264
 z232:=sizeOf264
 v232:=zeroValue264
 t233:=underlying265
 a233:=isAgg265
 z233:=sizeOf265
 v233:=zeroValue265
 g15:=by kernel_rfl
 g16:=by kernel_rfl
 g17:=by kernel_rfl
 g18:=by kernel_rfl
 g19:=by kernel_rfl
 t80:=underlying70
 a80:=isAgg70
 z80:=sizeOf70
 v80:=zeroValue70
 i0:=by kernel_rfl
 i2:=by kernel_rfl
 i3:=by kernel_rfl
 i4:=by kernel_rfl
 i5:=by kernel_rfl
 i9:=by kernel_rfl
 i20:=by kernel_rfl
 i21:=by kernel_rfl
 i37:=by kernel_rfl
 i46:=by kernel_rfl
 i51:=by kernel_rfl
 i53:=by kernel_rfl
 i75:=by kernel_rfl
 i76:=by kernel_rfl
 i80:=by kernel_rfl
 i85:=by kernel_rfl
 i127:=by kernel_rfl
 i143:=by kernel_rfl
 i145:=by kernel_rfl
 i167:=by kernel_rfl
 i168:=by kernel_rfl
 i171:=by kernel_rfl
 i173:=by kernel_rfl
 i175:=by kernel_rfl
 i210:=by kernel_rfl
 i212:=by kernel_rfl
 i232:=by kernel_rfl
 i233:=by kernel_rfl
 m15:=by kernel_rfl
 m16:=by kernel_rfl
 m17:=by kernel_rfl
 m18:=by kernel_rfl
 m19:=by kernel_rfl
 c0:=by kernel_rfl
 c2:=by kernel_rfl
 c3:=by kernel_rfl
 c4:=by kernel_rfl
 c5:=by kernel_rfl
 c9:=by kernel_rfl
 c20:=by kernel_rfl
 c21:=by kernel_rfl
 c37:=by kernel_rfl
 c46:=by kernel_rfl
 c51:=by kernel_rfl
 c53:=by kernel_rfl
 c75:=by kernel_rfl
 c76:=by kernel_rfl
 c80:=by kernel_rfl
 c85:=by kernel_rfl
 c127:=by kernel_rfl
 c143:=by kernel_rfl
 c145:=by kernel_rfl
 c167:=by kernel_rfl
 c168:=by kernel_rfl
 c171:=by kernel_rfl
 c173:=by kernel_rfl
 c175:=by kernel_rfl
 c210:=by kernel_rfl
 c212:=by kernel_rfl
 c213:=by kernel_rfl
 c232:=by kernel_rfl
 c233:=by kernel_rfl}
open Go.RowKit in
theorem Tryz.strconv_Atoi_ok(s:ByteArray)(hmax:s.size≤9223372036854775806)(v:Int)(h:Lib.atoiAll s.data.toList=.ok v)(w:World) :
  Calls prog 127 #[.string s] w fun e w'=>e=.returned (.tuple #[.int .i64 v,.nilIface])∧(w'=w∨∃t,w'=Lib.bytesWorld w 5 t):=Any.strconv_Atoi_ok laysC172 s hmax v h w
open Go.RowKit in
theorem Tryz.strconv_Atoi_range(s:ByteArray)(hlim:s.size≤281474976710656)(h:Lib.atoiAll s.data.toList=.range)(ev:Value)(w:World)(hv:w.cell? ⟨3,0,none⟩=some ev)(hev:ev=.nilIface∨∃te pe,ev=.iface te pe) :
  Calls prog 127 #[.string s] w fun e w'=>∃N,e=.returned (.tuple #[.int .i64 (Lib.atoiSat s.data.toList),.iface 235 (.pointer (some ⟨N,0,none⟩))])∧w.heap.size≤N∧w'.heap[N]?=some (.cells #[.string ⟨#[65,116,111,105]⟩,.string s,ev] 261 (0,0))∧Below w.heap.size w w':=Any.strconv_Atoi_range laysC172 s hlim h ev w hv hev
def Tryz.lays143_ren:Go.Shelf.Ren:=⟨fun|143=>86|219=>134|217=>124|225=>178|224=>179|267=>180|266=>168|314=>224|n=>n,fun|9=>9|3=>3|4=>4|5=>5|46=>210|146=>252|51=>227|n=>n,fun|1=>0|n=>n⟩
theorem Tryz.lays143:Go.Proofs.Lays.n143 Tryz.prog Tryz.lays143_ren:={
 mixed:=by kernel_rfl
 f143:=Fs func86
 f217:=Fs func124
 f219:=Fs func134
 f224:=Fs func179
 f225:=Fs func178
 f266:=Fs func168
 f267:=Fs func180
 f314:=Fs func224
 t3:=underlying3
 a3:=isAgg3
 z3:=sizeOf3
 v3:=zeroValue3
 t4:=underlying4
 a4:=isAgg4
 z4:=sizeOf4
 v4:=zeroValue4
 t5:=underlying5
 a5:=isAgg5
 z5:=sizeOf5
 v5:=zeroValue5
 t9:=underlying9
 a9:=isAgg9
 z9:=sizeOf9
 v9:=zeroValue9
 t46:=underlying210
 a46:=isAgg210
 z46:=sizeOf210
 v46:=zeroValue210
 t51:=underlying227
 a51:=isAgg227
 z51:=sizeOf227
 v51:=zeroValue227
 t146:=underlying252
 a146:=isAgg252
 z146:=sizeOf252
 v146:=zeroValue252
 g1:=by kernel_rfl}
open Go.RowKit Go.Lib in
theorem Tryz.strings_Index(s sub:ByteArray)(m:Int)(w:World)(hs:s.size<4294967281)(hm:w.cell? ⟨0,0,none⟩=some (.int .i64 m)) :
  Calls prog 86 #[.string s,.string sub] w fun e w'=>e=.returned (.int .i64 (Lib.index s.data.toList sub.data.toList))∧w'=w:=Any.strings_Index lays143 s sub m w hs hm
def Tryz.lays145_ren:Go.Shelf.Ren:=⟨fun|145=>73|220=>129|219=>134|217=>124|225=>178|224=>179|267=>180|266=>168|314=>224|n=>n,fun|9=>9|4=>4|59=>98|3=>3|5=>5|46=>210|146=>252|51=>227|n=>n,fun|1=>0|n=>n⟩
theorem Tryz.lays145:Go.Proofs.Lays.n145 Tryz.prog Tryz.lays145_ren:={
 mixed:=by kernel_rfl
 f145:=Fs func73
 f217:=Fs func124
 f219:=Fs func134
 f220:=Fs func129
 f224:=Fs func179
 f225:=Fs func178
 f266:=Fs func168
 f267:=Fs func180
 f314:=Fs func224
 t3:=underlying3
 a3:=isAgg3
 z3:=sizeOf3
 v3:=zeroValue3
 t4:=underlying4
 a4:=isAgg4
 z4:=sizeOf4
 v4:=zeroValue4
 t5:=underlying5
 a5:=isAgg5
 z5:=sizeOf5
 v5:=zeroValue5
 t9:=underlying9
 a9:=isAgg9
 z9:=sizeOf9
 v9:=zeroValue9
 t46:=underlying210
 a46:=isAgg210
 z46:=sizeOf210
 v46:=zeroValue210
 t51:=underlying227
 a51:=isAgg227
 z51:=sizeOf227
 v51:=zeroValue227
 t59:=underlying98
 a59:=isAgg98
 z59:=sizeOf98
 v59:=zeroValue98
 t146:=underlying252
 a146:=isAgg252
 z146:=sizeOf252
 v146:=zeroValue252
 g1:=by kernel_rfl}
open Go.RowKit Go.Lib in
theorem Tryz.strings_Cut(s sep:ByteArray)(m:Int)(w:World)(hs:s.size<4294967281)(hm:w.cell? ⟨0,0,none⟩=some (.int .i64 m)) :
  Calls prog 73 #[.string s,.string sep] w fun e w'=>e=.returned (.tuple #[.string ⟨(Lib.cut s.data.toList sep.data.toList).1.toArray⟩,.string ⟨(Lib.cut s.data.toList sep.data.toList).2.1.toArray⟩,.bool (Lib.cut s.data.toList sep.data.toList).2.2])∧∃n,w'=w.drewN n:=Any.strings_Cut lays145 s sep m w hs hm
def Tryz.lays138_ren:Go.Shelf.Ren:=⟨fun|138=>37|195=>84|218=>85|143=>86|219=>134|217=>124|225=>178|224=>179|267=>180|266=>168|314=>224|n=>n,fun|9=>9|3=>3|4=>4|5=>5|0=>0|46=>210|146=>252|51=>227|n=>n,fun|1=>0|n=>n⟩
theorem Tryz.lays138:Go.Proofs.Lays.n138 Tryz.prog Tryz.lays138_ren:={
 mixed:=by kernel_rfl
 f138:=Fs func37
 f143:=Fs func86
 f195:=Fs func84
 f217:=Fs func124
 f218:=Fs func85
 f219:=Fs func134
 f224:=Fs func179
 f225:=Fs func178
 f266:=Fs func168
 f267:=Fs func180
 f314:=Fs func224
 t0:=underlying0
 a0:=isAgg0
 z0:=sizeOf0
 v0:=zeroValue0
 t3:=underlying3
 a3:=isAgg3
 z3:=sizeOf3
 v3:=zeroValue3
 t4:=underlying4
 a4:=isAgg4
 z4:=sizeOf4
 v4:=zeroValue4
 t5:=underlying5
 a5:=isAgg5
 z5:=sizeOf5
 v5:=zeroValue5
 t9:=underlying9
 a9:=isAgg9
 z9:=sizeOf9
 v9:=zeroValue9
 t46:=underlying210
 a46:=isAgg210
 z46:=sizeOf210
 v46:=zeroValue210
 t51:=underlying227
 a51:=isAgg227
 z51:=sizeOf227
 v51:=zeroValue227
 t146:=underlying252
 a146:=isAgg252
 z146:=sizeOf252
 v146:=zeroValue252
 g1:=by kernel_rfl}
open Go.RowKit Go.Lib in
theorem Tryz.strings_Count_one(s:ByteArray)(c:UInt8)(w:World) :
  Calls prog 37 #[.string s,.string ⟨#[c]⟩] w fun e w'=>e=.returned (.int .i64 (Lib.countByte s.data.toList c))∧w'=w:=Any.strings_Count_one lays138 s c w
def Tryz.lays100_ren:Go.Shelf.Ren:=⟨fun|100=>38|207=>87|n=>n,fun|9=>9|4=>4|3=>3|n=>n,fun|n=>n⟩
theorem Tryz.lays100:Go.Proofs.Lays.n100 Tryz.prog Tryz.lays100_ren:={
 mixed:=by kernel_rfl
 f100:=Fs func38
 f207:=Fs func87
 t3:=underlying3
 a3:=isAgg3
 z3:=sizeOf3
 v3:=zeroValue3
 t4:=underlying4
 a4:=isAgg4
 z4:=sizeOf4
 v4:=zeroValue4
 t9:=underlying9
 a9:=isAgg9
 z9:=sizeOf9
 v9:=zeroValue9}
open Go.RowKit Go.Lib in
theorem Tryz.strings_HasSuffix(s p:ByteArray)(w:World)(hs:s.size≤9223372036854775807) :
  Calls prog 38 #[.string s,.string p] w fun e w'=>e=.returned (.bool (Lib.hasSuffix s.data.toList p.data.toList))∧w'=w:=Any.strings_HasSuffix lays100 s p w hs
def Tryz.lays102_ren:Go.Shelf.Ren:=⟨fun|102=>31|209=>75|207=>87|n=>n,fun|9=>9|4=>4|3=>3|n=>n,fun|n=>n⟩
theorem Tryz.lays102:Go.Proofs.Lays.n102 Tryz.prog Tryz.lays102_ren:={
 mixed:=by kernel_rfl
 f102:=Fs func31
 f207:=Fs func87
 f209:=Fs func75
 t3:=underlying3
 a3:=isAgg3
 z3:=sizeOf3
 v3:=zeroValue3
 t4:=underlying4
 a4:=isAgg4
 z4:=sizeOf4
 v4:=zeroValue4
 t9:=underlying9
 a9:=isAgg9
 z9:=sizeOf9
 v9:=zeroValue9}
open Go.RowKit Go.Lib in
theorem Tryz.strings_TrimSuffix(s p:ByteArray)(w:World)(hs:s.size≤9223372036854775807) :
  Calls prog 31 #[.string s,.string p] w fun e w'=>e=.returned (.string ⟨(Lib.trimSuffix s.data.toList p.data.toList).toArray⟩)∧w'=w:=Any.strings_TrimSuffix lays102 s p w hs
def Tryz.lays146_ren:Go.Shelf.Ren:=⟨fun|146=>70|221=>126|268=>170|138=>37|143=>86|195=>84|197=>207|218=>85|219=>134|260=>229|217=>124|225=>178|224=>179|267=>180|266=>168|314=>224|n=>n,fun|9=>9|31=>66|3=>3|4=>4|0=>0|105=>230|21=>21|5=>5|46=>210|119=>266|139=>269|138=>268|146=>252|51=>227|n=>n,fun|1=>0|3=>6|4=>7|n=>n⟩
theorem Tryz.lays146:Go.Proofs.Lays.n146 Tryz.prog Tryz.lays146_ren:={
 mixed:=by kernel_rfl
 f138:=Fs func37
 f143:=Fs func86
 f146:=Fs func70
 f195:=Fs func84
 f197:=Fs func207
 f217:=Fs func124
 f218:=Fs func85
 f219:=Fs func134
 f221:=Fs func126
 f224:=Fs func179
 f225:=Fs func178
 f260:=Fs func229
 f266:=Fs func168
 f267:=Fs func180
 f268:=Fs func170
 f314:=Fs func224
 t0:=underlying0
 a0:=isAgg0
 z0:=sizeOf0
 v0:=zeroValue0
 t3:=underlying3
 a3:=isAgg3
 z3:=sizeOf3
 v3:=zeroValue3
 t4:=underlying4
 a4:=isAgg4
 z4:=sizeOf4
 v4:=zeroValue4
 t5:=underlying5
 a5:=isAgg5
 z5:=sizeOf5
 v5:=zeroValue5
 t9:=underlying9
 a9:=isAgg9
 z9:=sizeOf9
 v9:=zeroValue9
 t21:=underlying21
 a21:=isAgg21
 z21:=sizeOf21
 v21:=zeroValue21
 t31:=underlying66
 a31:=isAgg66
 z31:=sizeOf66
 v31:=zeroValue66
 t46:=underlying210
 a46:=isAgg210
 z46:=sizeOf210
 v46:=zeroValue210
 t51:=underlying227
 a51:=isAgg227
 z51:=sizeOf227
 v51:=zeroValue227
 t105:=underlying230
 a105:=isAgg230
 z105:=sizeOf230
 v105:=zeroValue230
 t119:=underlying266
 a119:=isAgg266
 z119:=sizeOf266
 t138:=underlying268
 a138:=isAgg268
 z138:=sizeOf268
 v138:=zeroValue268
 t139:=underlying269
 a139:=isAgg269
 z139:=sizeOf269
 v139:=zeroValue269
 t146:=underlying252
 a146:=isAgg252
 z146:=sizeOf252
 v146:=zeroValue252
 g1:=by kernel_rfl
 g3:=by kernel_rfl
 g4:=by kernel_rfl}
open Go.RowKit Go.Lib in
theorem Tryz.strings_Split(s sep:ByteArray)(m:Int)(w:World)(hs:s.size<4294967281)(hm:w.cell? ⟨0,0,none⟩=some (.int .i64 m))(h1:1≤sep.size) :
  Calls prog 70 #[.string s,.string sep] w fun e w'=>
   e=.returned (.slice (some ⟨w.heap.size,0,none⟩) (Lib.countB s sep+1) (Lib.countB s sep+1))∧w'=w.alloc (.cells ((Lib.splitB sep 0 (Lib.countB s sep) s).map Value.string).toArray 9):=Any.strings_Split lays146 (by kernel_rfl) s sep m w hs hm h1
end Go.Proofs
end
namespace Go.TF
open Go Go.RowKit Go.Proofs Go.Proofs.Tryz
section
theorem AC:prog.follows .mixedOrders=true:=by kernel_rfl
theorem An:Ty prog 3 1 false:=⟨sizeOf3,isAgg3,by decide⟩
theorem Br:Ty prog 4 1 false:=⟨sizeOf4,isAgg4,by decide⟩
theorem HW:Ty prog 9 1 false:=⟨sizeOf9,isAgg9,by decide⟩
theorem A7:Ty prog 22 1 false:=⟨sizeOf22,isAgg22,by decide⟩
theorem Cc:Ty prog 23 1 false:=⟨sizeOf23,isAgg23,by decide⟩
theorem As:Ty prog 25 2 true:=⟨sizeOf25,isAgg25,by decide⟩
theorem At:FA prog 25 0 0:=fun a w=>by simp[Instr.fieldAt,runUnderlying25,Instr.sureAddr,fieldPlace,sizeOf22]
theorem AU:FA prog 25 1 1:=fun a w=>by simp[Instr.fieldAt,runUnderlying25,Instr.sureAddr,fieldPlace,sizeOf23]
theorem It:Pl prog 25 [(0,1),(1,1)]:=⟨_,underlying25,fun w=>by simp[sizeOf22,sizeOf23]⟩
theorem Q7:Ty prog 26 1 false:=⟨sizeOf26,isAgg26,by decide⟩
theorem CD:Ty prog 31 1 false:=⟨sizeOf31,isAgg31,by decide⟩
theorem Zt:Ty prog 49 1 false:=⟨sizeOf49,isAgg49,by decide⟩
theorem R9:FA prog 51 1 1:=fun a w=>by simp[Instr.fieldAt,runUnderlying51,Instr.sureAddr,fieldPlace,sizeOf49]
theorem KA:Ty prog 53 3 true:=⟨sizeOf53,isAgg53,by decide⟩
theorem Dk:FA prog 53 0 0:=fun a w=>by simp[Instr.fieldAt,runUnderlying53,Instr.sureAddr,fieldPlace,sizeOf9]
theorem Bp:FA prog 53 1 1:=fun a w=>by simp[Instr.fieldAt,runUnderlying53,Instr.sureAddr,fieldPlace,sizeOf3]
theorem A3:FA prog 53 2 2:=fun a w=>by simp[Instr.fieldAt,runUnderlying53,Instr.sureAddr,fieldPlace,sizeOf3]
theorem Sa:Pl prog 53 [(0,1),(1,1),(2,1)]:=⟨_,underlying53,fun w=>by simp[sizeOf3,sizeOf9]⟩
theorem CN:Ty prog 59 1 false:=⟨sizeOf59,isAgg59,by decide⟩
theorem AP:Ty prog 61 2 true:=⟨sizeOf61,isAgg61,by decide⟩
theorem AW:FA prog 61 0 0:=fun a w=>by simp[Instr.fieldAt,runUnderlying61,Instr.sureAddr,fieldPlace,sizeOf3]
theorem Bb:FA prog 61 1 1:=fun a w=>by simp[Instr.fieldAt,runUnderlying61,Instr.sureAddr,fieldPlace,sizeOf59]
theorem M4:Pl prog 61 [(0,1),(1,1)]:=⟨_,underlying61,fun w=>by simp[sizeOf3,sizeOf59]⟩
theorem Bi:Ty prog 62 1 false:=⟨sizeOf62,isAgg62,by decide⟩
theorem C0:Ty prog 64 5 true:=⟨sizeOf64,isAgg64,by decide⟩
theorem Bw:FA prog 64 0 0:=fun a w=>by simp[Instr.fieldAt,runUnderlying64,Instr.sureAddr,fieldPlace,sizeOf61]
theorem AV:FA prog 64 1 2:=fun a w=>by simp[Instr.fieldAt,runUnderlying64,Instr.sureAddr,fieldPlace,sizeOf3]
theorem BJ:FA prog 64 2 3:=fun a w=>by simp[Instr.fieldAt,runUnderlying64,Instr.sureAddr,fieldPlace,sizeOf3]
theorem AG:FA prog 64 3 4:=fun a w=>by simp[Instr.fieldAt,runUnderlying64,Instr.sureAddr,fieldPlace,sizeOf62]
theorem LQ:Pl prog 64 [(0,2),(2,1),(3,1),(4,1)]:=⟨_,underlying64,fun w=>by simp[sizeOf3,sizeOf61,sizeOf62]⟩
theorem EQ:Ty prog 68 3 true:=⟨sizeOf68,isAgg68,by decide⟩
theorem BK:FA prog 68 0 0:=fun a w=>by simp[Instr.fieldAt,runUnderlying68,Instr.sureAddr,fieldPlace,sizeOf4]
theorem Bk:FA prog 68 1 1:=fun a w=>by simp[Instr.fieldAt,runUnderlying68,Instr.sureAddr,fieldPlace,sizeOf61]
theorem Vd:Pl prog 68 [(0,1),(1,2)]:=⟨_,underlying68,fun w=>by simp[sizeOf4,sizeOf61]⟩
theorem Iu:Ty prog 78 1 false:=⟨sizeOf78,isAgg78,by decide⟩
theorem AH:Ty prog 83 4 true:=⟨sizeOf83,isAgg83,by decide⟩
theorem Bu:FA prog 83 0 0:=fun a w=>by simp[Instr.fieldAt,runUnderlying83,Instr.sureAddr,fieldPlace,sizeOf3]
theorem BG:FA prog 83 1 1:=fun a w=>by simp[Instr.fieldAt,runUnderlying83,Instr.sureAddr,fieldPlace,sizeOf3]
theorem B8:FA prog 83 2 2:=fun a w=>by simp[Instr.fieldAt,runUnderlying83,Instr.sureAddr,fieldPlace,sizeOf3]
theorem BL:FA prog 83 3 3:=fun a w=>by simp[Instr.fieldAt,runUnderlying83,Instr.sureAddr,fieldPlace,sizeOf3]
theorem Ve:Pl prog 83 [(0,1),(1,1),(2,1),(3,1)]:=⟨_,underlying83,fun w=>by simp[sizeOf3]⟩
theorem Zu:Ty prog 87 1 false:=⟨sizeOf87,isAgg87,by decide⟩
theorem Dl:FA prog 89 0 0:=fun a w=>by simp[Instr.fieldAt,runUnderlying89,Instr.sureAddr,fieldPlace,sizeOf25]
theorem Aav:Pl prog 89 [(0,2)]:=⟨_,underlying89,fun w=>by simp[sizeOf25]⟩
theorem Sc:Ty prog 107 1 false:=⟨sizeOf107,isAgg107,by decide⟩
theorem BZ:Ty prog 109 2 true:=⟨sizeOf109,isAgg109,by decide⟩
theorem AK:FA prog 109 0 0:=fun a w=>by simp[Instr.fieldAt,runUnderlying109,Instr.sureAddr,fieldPlace,sizeOf4]
theorem AI:FA prog 109 1 1:=fun a w=>by simp[Instr.fieldAt,runUnderlying109,Instr.sureAddr,fieldPlace,sizeOf3]
theorem Fm:Pl prog 109 [(0,1),(1,1)]:=⟨_,underlying109,fun w=>by simp[sizeOf3,sizeOf4]⟩
theorem Zv:Pl prog 119 []:=⟨_,underlying119,fun w=>by simp[]⟩
theorem Zw:Ty prog 123 1 false:=⟨sizeOf123,isAgg123,by decide⟩
theorem G4:Ty prog 129 1 false:=⟨sizeOf129,isAgg129,by decide⟩
theorem CI:Ty prog 167 3 true:=⟨sizeOf167,isAgg167,by decide⟩
theorem Cy:Ty prog 169 4 true:=⟨sizeOf169,isAgg169,by decide⟩
theorem FV:FA prog 169 0 0:=fun a w=>by simp[Instr.fieldAt,runUnderlying169,Instr.sureAddr,fieldPlace,sizeOf3]
theorem BV:FA prog 169 1 1:=fun a w=>by simp[Instr.fieldAt,runUnderlying169,Instr.sureAddr,fieldPlace,sizeOf167]
theorem Xj:Pl prog 169 [(0,1),(1,3)]:=⟨_,underlying169,fun w=>by simp[sizeOf167,sizeOf3]⟩
theorem LR:FA prog 175 0 0:=fun a w=>by simp[Instr.fieldAt,runUnderlying175,Instr.sureAddr,fieldPlace,sizeOf25]
theorem IG:FA prog 175 1 2:=fun a w=>by simp[Instr.fieldAt,runUnderlying175,Instr.sureAddr,fieldPlace,sizeOf31]
theorem G5:FA prog 175 2 3:=fun a w=>by simp[Instr.fieldAt,runUnderlying175,Instr.sureAddr,fieldPlace,sizeOf129]
theorem Zx:Pl prog 175 [(0,2),(2,1),(3,1)]:=⟨_,underlying175,fun w=>by simp[sizeOf129,sizeOf25,sizeOf31]⟩
theorem E7:Ty prog 176 1 false:=⟨sizeOf176,isAgg176,by decide⟩
theorem Vf:FA prog 178 0 0:=fun a w=>by simp[Instr.fieldAt,runUnderlying178,Instr.sureAddr,fieldPlace,sizeOf25]
theorem Po:FA prog 178 1 2:=fun a w=>by simp[Instr.fieldAt,runUnderlying178,Instr.sureAddr,fieldPlace,sizeOf78]
theorem Pp:FA prog 178 2 3:=fun a w=>by simp[Instr.fieldAt,runUnderlying178,Instr.sureAddr,fieldPlace,sizeOf3]
theorem IH:FA prog 178 3 4:=fun a w=>by simp[Instr.fieldAt,runUnderlying178,Instr.sureAddr,fieldPlace,sizeOf31]
theorem Zy:Pl prog 178 [(0,2),(2,1),(3,1),(4,1)]:=⟨_,underlying178,fun w=>by simp[sizeOf25,sizeOf3,sizeOf31,sizeOf78]⟩
theorem Io:Ty prog 195 1 false:=⟨sizeOf195,isAgg195,by decide⟩
theorem Pq:Ty prog 220 3 true:=⟨sizeOf220,isAgg220,by decide⟩
theorem Sd:Ty prog 238 1 false:=⟨sizeOf238,isAgg238,by decide⟩
theorem Dz:Ty prog 239 3 true:=⟨sizeOf239,isAgg239,by decide⟩
theorem Ip:Ty prog 249 2 true:=⟨sizeOf249,isAgg249,by decide⟩
theorem II:Fd prog 249 0 195 0:=⟨_,_,underlying249,rfl,rfl,rfl⟩
theorem IJ:Fd prog 249 1 195 1:=⟨_,_,underlying249,rfl,rfl,rfl⟩
theorem Pr:Pl prog 249 [(0,1),(1,1)]:=⟨_,underlying249,fun w=>by simp[sizeOf195]⟩
theorem Xk:Ty prog 250 8 true:=⟨sizeOf250,isAgg250,by decide⟩
theorem Zz(a0:Int)(a1:Int)(a2:Int)(a3:Int)(b0:Int)(b1:Int)(b2:Int)(b3:Int)(w:World):(Op.equalIn 10000 83 (.agg #[.int .i64 a0,.int .i64 a1,.int .i64 a2,.int .i64 a3]) (.agg #[.int .i64 b0,.int .i64 b1,.int .i64 b2,.int .i64 b3])).run prog w=.ok ((a0 == b0) && ((a1 == b1) && ((a2 == b2) && ((a3 == b3) && true)))) w:=by
 rw[show 10000=9998+1+1 from rfl,run_equalIn_struct w _ 83 _ _ (by simp only[Program.fieldsOf,underlying83]) stoodInHeld83];simp only[Program.fieldsOf,underlying83,Op.eqFields];have p:∀T,(∀w,(isAgg T).run prog w=.ok false w)→∀(cs:Array Value) (o:Nat) v,cs[o]?=some v→(Go.part T cs o).run prog w=.ok v w:=fun T h cs o v hv=>MY h hv w;cases h0:(a0 == b0)<;>cases h1:(a1 == b1)<;>cases h2:(a2 == b2)<;>cases h3:(a3 == b3)<;>simp[p 3 isAgg3,run_equalIn_int w _ 3 .i64 .i64 _ _ underlying3,h0,h1,h2,h3]
theorem Aag:ElT prog 3 1 8 (.int .i64 0):=⟨by kernel_rfl,rfl,by decide⟩
theorem Aah:ElT prog 9 1 16 (.string ByteArray.empty):=⟨by kernel_rfl,rfl,by decide⟩
theorem Vg:ElT prog 53 3 32 (.agg #[.string ByteArray.empty,.int .i64 0,.int .i64 0]):=⟨by kernel_rfl,rfl,by decide⟩
theorem XM:ElT prog 61 2 32 (.agg #[.int .i64 0,.slice none 0 0]):=⟨by kernel_rfl,rfl,by decide⟩
theorem OC:ElT prog 64 5 72 (.agg #[.int .i64 0,.slice none 0 0,.int .i64 0,.int .i64 0,.slice none 0 0]):=⟨by kernel_rfl,rfl,by decide⟩
theorem ZA:ElT prog 68 3 40 (.agg #[.bool false,.int .i64 0,.slice none 0 0]):=⟨by kernel_rfl,rfl,by decide⟩
theorem D6:ElT prog 83 4 32 (.agg #[.int .i64 0,.int .i64 0,.int .i64 0,.int .i64 0]):=⟨by kernel_rfl,rfl,by decide⟩
theorem Se:ElT prog 109 2 16 (.agg #[.bool false,.int .i64 0]):=⟨by kernel_rfl,rfl,by decide⟩
theorem KU:ElT prog 169 4 32 (.agg #[.int .i64 0,.int .i64 0,.int .i64 0,.int .i64 0]):=⟨by kernel_rfl,rfl,by decide⟩
def Ah8:=@Go.Proofs.Tryz.underlying31
def Ah9:=@Go.Proofs.Tryz.underlying9
def Aia:=@Go.Proofs.Tryz.underlying22
def Aib:=@Go.Proofs.Tryz.underlying62
def Aic:=@Go.Proofs.Tryz.underlying23
def Aid:=@Go.Proofs.Tryz.underlying59
def Aie:=@Go.Proofs.Tryz.underlying78
def Aif:=@Go.Proofs.Tryz.underlying129
def Aig:=@Go.Proofs.Tryz.zeroValue109
def Aih:=@Go.Proofs.Tryz.sizeOf83
def Aii:=@Go.Proofs.Tryz.zeroValue83
def Aij:=@Go.Proofs.Tryz.sizeOf3
def Aik:=@Go.Proofs.Tryz.sizeOf109
def Ail:=@Go.Proofs.Tryz.sizeOf68
def Aim:=@Go.Proofs.Tryz.sizeOf53
def Ain:=@Go.Proofs.Tryz.zeroValue61
def Aio:=@Go.Proofs.Tryz.zeroValue25
def Aip:=@Go.Proofs.Tryz.zeroValue64
def Aiq:=@Go.Proofs.Tryz.underlying167
def Air:=@Go.Proofs.Tryz.underlying220
def Ais:=@Go.Proofs.Tryz.underlying66
def Ait:=@Go.Proofs.Tryz.underlying3
def Aiu:=@Go.Proofs.Tryz.zeroValue68
def Aiv:=@Go.Proofs.Tryz.sizeOf64
def Aiw:=@Go.Proofs.Tryz.sizeOf169
def Aix:=@Go.Proofs.Tryz.underlying154
def Aiy:=@Go.Proofs.Tryz.underlying239
def Aiz:=@Go.Proofs.Tryz.underlying255
def AiA:=@Go.Proofs.Tryz.underlying49
def AiB:=@Go.Proofs.Tryz.zeroValue53
def AiC:=@Go.Proofs.Tryz.underlying5
def AiD:=@Go.Proofs.Tryz.underlying250
def AiE:=@Go.Proofs.Tryz.zeroValue169
def AiF:=@Go.Proofs.Tryz.underlying55
def AiG:=@Go.Proofs.Tryz.zeroValue3
def AiH:=@Go.Proofs.Tryz.sizeOf4
def AiI:=@Go.Proofs.Tryz.underlying157
def AiJ:=@Go.Proofs.Tryz.sizeOf9
def AiK:=@Go.Proofs.Tryz.underlying4
end
section
open Go Go.RowKit Go.Proofs Go.Proofs.Tryz Go.Shelf
abbrev IK(b:Nat)(p v:Value):SA:=box b [p,v] 51
abbrev MN(b:Nat)(v:Value)(l:List UInt8):SA:=Xh 5 b v l
def Xl(b:Nat)(p:Value):Prop:=p=.pointer none∨p=(Pt b)
section
variable {B:Aq}{h:Ae}{M:List SA}{w:World}{b:Nat}
theorem OD(I:Inv B h M w){p v:Value}(n:Nat)(hn:M[n]?=some (IK b p v))(hp:Xl b p) :
  Calls prog 63 [Pt b].toArray w fun x w'=>x=.returned (.tuple #[])∧Inv B h (M.set n (IK b ((Pt b)) v)) w':=by
 have hb:w.heap[b]?=some (.cells #[p,v] 51 (0,0)):=I.at n hn;have c0:w.cell? ⟨b,0,none⟩=some p:=by rw[Lib.cell_of_heap hb];rfl
 rcases hp with rfl|rfl
 ·have hsh:w.shape? b=some (51,2):=by simp[World.shape?,hb]
  refine(Any.Builder_copyCheck_fresh (ρ:=lays156_ren) {lays156 with} Tryz.Builder_Extra_156.toX72 b w c0 hsh (Lib.frozen_of_heap hb 0)).mono ?_;rintro x w' ⟨rfl,rfl⟩;exact⟨rfl,I.aa1 n hn⟩
 ·refine(Any.Builder_copyCheck_used (ρ:=lays156_ren) {lays156 with} Tryz.Builder_Extra_156.toX72 b w c0).mono ?_;rintro x w' ⟨rfl,hw⟩;subst hw;refine⟨rfl,?_⟩;have e:M.set n (IK b ((Pt b)) v)=M:=by
   obtain⟨hlt,he⟩:=Ae9.1 hn;rw[←he];exact Ahl hlt
  rw[e];exact I
theorem Vi(I:Inv B h M w){p:Value}{a:Option Addr}{k c:Nat}{l:List UInt8}(n m:Nat)(hnm:n≠m)(hn:M[n]?=some (IK b p (.slice a k c)))(hm:M[m]?=some (MN b (.slice a k c) l))(hp:Xl b p)(s:ByteArray)(hl:l.length+s.size≤140737488355328) :
  Calls prog 23 [Pt b,.string s].toArray w fun x w'=>x=.returned (.tuple #[.int .i64 s.size,.nilIface])∧∃a' k' c',Inv B h ((M.set m (MN b (.slice a' k' c') (l++tx s))).set n (IK b ((Pt b)) (.slice a' k' c'))) w':=by
 have hnl:n<M.length:=(Ae9.1 hn).1;have hml:m<M.length:=(Ae9.1 hm).1;refine AbV (args:=[Pt b,.string s]) func23 rfl ntmps23 (by kernel_rfl) (by simp) fun e=>Sr<|Ai Ag<|AbB (v:=_) Ag<|Abh<|Sr<|Ap Mv<|Abj (Ace call63 (OD I n hn hp) rfl ?_);rintro ed w ⟨rfl,I⟩;refine⟨_,rfl,?_⟩;refine Abh ?_;have hn1:(M.set n (IK b ((Pt b)) (.slice a k c)))[n]?=some (IK b ((Pt b)) (.slice a k c)):=by simp[hnl]
 have hm1:(M.set n (IK b ((Pt b)) (.slice a k c)))[m]?=some (MN b (.slice a k c) l):=by rw[Agw hnm];exact hm
 have hbs:b≤w.heap.size:=AhW ((I.own _ (Afk hn1)).2 b (by simp[box])).2.1;refine Sr<|Ap Mv<|Ap Mv<|Ap (Ab4 rfl)<|Ap (Abr R9 rfl)<|As0 (Abn Zt rfl ((Pi (I.at n hn1) 1 1)) rfl rfl)<|At0 Mv<|Abj (Aer I AiA Ah9 (i:=_) rfl ⟨rfl,rfl,rfl⟩ m hm1 rfl rfl hl hbs fun a' k' c' w I=>Ap (Ab4 rfl)<|Ap (Abr R9 rfl) ?_);refine Abj (Ab3 (v:=.slice _ _ _) I Zt n (cs:=[Pt b,.slice a k c]) (by rw[Agw (Ne.symm hnm)];exact hn1) rfl rfl rfl rfl rfl (Nb rfl) rfl ?_);intro w I;refine Abh<|Sr<|At0 Mv<|Ai (AbF Ah9 rfl)<|Ai Ag<|AbB (v:=_) Ag<|Abh<|Acv ?_;refine⟨.inl rfl,[.int .i64 s.size,.nilIface],⟨rfl,rfl,trivial⟩,rfl,a',k',c',?_⟩;have e:((M.set n (IK b ((Pt b)) (.slice a k c))).set m (MN b (.slice a' k' c') (l++tx s))).set n (IK b ((Pt b)) (.slice a' k' c'))=(M.set m (MN b (.slice a' k' c') (l++tx s))).set n (IK b ((Pt b)) (.slice a' k' c')):=by
  rw[List.set_comm _ _ hnm,List.set_set]
 rw[←e];exact I
theorem Sg(I:Inv B h M w)(hB:B.ok){p:Value}{a:Option Addr}{k c:Nat}{l:List UInt8}(n m:Nat)(hn:M[n]?=some (IK b p (.slice a k c)))(hm:M[m]?=some (MN b (.slice a k c) l))(hp:Xl b p) :
  Calls prog 27 [Pt b].toArray w fun x w'=>x=.returned (.string ⟨l.toArray⟩)∧Inv B B.h [] w':=by
 have hb:w.heap[b]?=some (.cells #[p,.slice a k c] 51 (0,0)):=I.at n hn;have own:=(I.own _ (Afk hn)).2 b (by simp[box]);have hr:w.ownsRowF b 5 1 (.slice a k c) l.length (Lib.byteCells l):=I.at m hm;have hne:(Value.slice a k c).ownBlock≠some b:=Lib.ownBlock_neF hr hb (by decide);have hl:(Lib.byteCells l).length=l.length:=by simp[Lib.byteCells]
 have hi:Lib.IsBuilderF 51 5 b b (Lib.byteCells l) w:=by
  rcases hp with rfl|rfl
  ·exact .inl ⟨Afg b,_,hb,by rw[hl];exact hr,hne⟩
  ·exact .inr ⟨Afg b,_,hb,by rw[hl];exact hr,hne⟩
 refine(Tryz.Builder_String_any_f b b l w hi (AhW own.2.1)).mono ?_;rintro x w' ⟨rfl,_,hbw⟩;have I0:Inv B B.h [] w:=(I.less I.ext (Ae.le.refl _)).clear;refine⟨rfl,⟨I0.below.trans (hbw.mono own.1),Ae.le.refl _,fun _ _ e=>.inl e,fun q o hq=>?_,(fun _ h=>by cases h),List.Pairwise.nil⟩⟩;have hlt:q<B.w.heap.size:=(Afr.1 (hB q o hq)).1;rw[hbw.block q (by omega)];exact I0.imm q o hq
end
end
section
abbrev PX:=List PanicEntry→World→Prop
def DN(P:Program)(X:PX)(o:Oper)(e:Env)(w:World)(K:Value→World→Prop):Prop:=
 match (execOp (ev e) o).run P w with
 |.ok (.value v) w'=>K v w'
 |.ok .skip w'=>K undef w'
 |.ok (.enter f args) w'=>Calls P f args w' fun
   |.returned v,w''=>K v w''
   |.panicked ch,w''=>X ch w''
   |_,_=>False
 |.halt (.panic v) w'=>X [{v:=v,recovered:=false}] w'
 |_=>False
theorem HX{P:Program}{X:PX}{o:Oper}{a:Act}{w:World}{next:Act→World→Prop}{Q:Exit→Act→World→Prop}
  (hX:∀ch w',X ch w'→Q (.panic ch) a w') (h:DN P X o (env a) w fun v w'=>next (a.put o.dst v) w'):o.wp P a w next Q:=by
 unfold DN at h;unfold Oper.wp;rw[BU];generalize (execOp (ev (env a)) o).run P w=r at *;cases r with
 |ok n w'=>
  cases n<;>simp only at h<;>first|exact h.elim|exact h|skip;exact Calls.mono h fun e w'' he=>by cases e<;>first|exact he|exact hX _ _ he|exact he.elim
 |halt x w'=>cases x<;>simp only at h<;>first|exact h.elim|exact hX _ _ h
theorem DN.mono{P:Program}{X:PX}{o:Oper}{e:Env}{w:World}{K K':Value→World→Prop}(h:DN P X o e w K)(hk:∀v w',K v w'→K' v w'):DN P X o e w K':=by
 unfold DN at *;generalize (execOp (ev e) o).run P w=r at *;cases r with
 |ok n w'=>
  cases n<;>simp only at h ⊢<;>first|exact h.elim|exact hk _ _ h|skip;exact Calls.mono h fun e w'' he=>by cases e<;>first|exact hk _ _ he|exact he|exact he.elim
 |halt x w'=>cases x<;>first|exact h.elim|exact h
theorem DN.of{P:Program}{X:PX}{o:Oper}{e:Env}{w:World}{K:Value→World→Prop}(h:Op1 P o e w K):DN P X o e w K:=by
 unfold Op1 at h;unfold DN;generalize (execOp (ev e) o).run P w=r at *;cases r with
 |ok n w'=>
  cases n<;>simp only at h ⊢<;>first|exact h.elim|exact h|skip;exact Calls.mono h fun e w'' he=>by cases e<;>first|exact he|exact he.elim
 |halt x w'=>exact h.elim
def Bd(P:Program)(X:PX)(full:Array Oper):List Oper→Env→World→(Env→World→Prop)→Prop
 |[],e,w,K=>K e w
 |o::rest,e,w,K=>if runs full e o then DN P X o e w (fun v w'=>Bd P X full rest (CQ e o.dst v) w' K) else Bd P X full rest (CQ e o.dst undef) w K
theorem Ade{P:Program}{X:PX}{full:Array Oper}{Q:Exit→Act→World→Prop}{N:Nat}{D:List Deferred}(hX:∀a ch w',a.tmps.size=N→a.defers=D→X ch w'→Q (.panic ch) a w'):∀(l:List Oper) (a:Act) (w:World) (K:Env→World→Prop),
  C8 N l=true→a.tmps.size=N→a.defers=D→(∀a' w',a'.tmps.size=N→a'.defers=D→K (env a') w'→Q .normal a' w')→Bd P X full l (env a) w K→wpList P full Q l a w
 |[],a,w,K,_,hs,hd,hK,h=>by simp only[Bd] at h;exact hK _ _ hs hd h
 |o::rest,a,w,K,hds,hs,hd,hK,h=>by
  simp only[C8,Ag5,Afn] at hds;have hput:∀v,env (a.put o.dst v)=CQ (env a) o.dst v:=fun v=>Cg a o.dst v (by rw[hs];exact hds.1);simp only[wpList,BX];simp only[Bd] at h;split
  ·rename_i hr;rw[if_pos hr] at h;refine .inl (HX (fun ch w'=>hX a ch w' hs hd) (h.mono fun v w' hh=>?_));rw[←hput] at hh;exact Ade hX rest _ _ K hds.2 (by rw[Bm,hs]) (by rw[AY,hd]) hK hh
  ·rename_i hr;rw[if_neg hr] at h;rw[←hput] at h;exact Ade hX rest _ _ K hds.2 (by rw[Bm,hs]) (by rw[AY,hd]) hK h
theorem Aca{P:Program}{N:Nat}{D:List Deferred}{e:Env}{w:World}{Q:Exit→Env→World→Prop}{id:Nat}{ops:Array Oper}(X:PX)(hX:∀e ch w',X ch w'→Q (.panic ch) e w')(h:Bd P X ops ops.toList e w (fun e' w'=>Q .normal e' w')):WP P N D (.region id ops false) e w Q:=by
 intro hs a h1 h2 h3;subst h3;exact wp_region_list (Ade (fun a ch w' g1 g2 g3=>⟨g1,g2,hX _ _ _ g3⟩) _ a w _ hs h1 h2 (fun _ _ g1 g2 g3=>⟨g1,g2,g3⟩) h)
section
variable {P:Program}{X:PX}{full:Array Oper}{rest:List Oper}{e:Env}{w:World}{K:Env→World→Prop}
theorem Acf(h:K e w):Bd P X full [] e w K:=h
theorem Bd.p{d:Option Nat}{op:Op}{t:TypeId}{pos:String}{af:Array Edge}(h:DN P X ⟨d,op,t,pos,af,none⟩ e w (fun v w'=>Bd P X full rest (CQ e d v) w' K)) :
  Bd P X full (⟨d,op,t,pos,af,none⟩::rest) e w K:=by simpa[Bd,runs] using h
theorem AcN{d:Option Nat}{op:Op}{t:TypeId}{pos:String}{af:Array Edge}(h:Op1 P ⟨d,op,t,pos,af,none⟩ e w (fun v w'=>Bd P X full rest (CQ e d v) w' K)) :
  Bd P X full (⟨d,op,t,pos,af,none⟩::rest) e w K:=Bd.p (.of h)
theorem Ab5{d:Nat}{op:Op}{t:TypeId}{pos:String}{af:Array Edge}{v:Value}(hy:Y P ⟨some d,op,t,pos,af,none⟩ e w v)(h:Bd P X full rest (upd e d v) w K) :
  Bd P X full (⟨some d,op,t,pos,af,none⟩::rest) e w K:=AcN (by unfold Op1;rw[hy];exact h)
end
theorem KV{P:Program}{X:PX}{ops:Array Oper}{o:Oper}{f g:Env}{w:World}{K:Value→World→Prop}(hs:∀cs b,o.op≠.select cs b)(h:∀d∈o.looksAt ops,f d=g d)(k:DN P X o f w K):DN P X o g w K:=by
 unfold DN at *;rw[execOp_congr o hs (ρ':=ev f)]
 ·exact k
 ·intro x hx;cases x with
  |tmp t=>exact(h t (List.mem_append_left _ (List.mem_filterMap.2 ⟨.tmp t,by simpa using hx,rfl⟩))).symm
  |_=>rfl
section
variable {P:Program}{X:PX}{ops:Array Oper}{m:Nat}
theorem Ps{Q:Exit→Act→World→Prop}{i:Nat}{o:Oper}{a:Act}{w:World}{K:Act→World→Prop}(hX:∀ch w',X ch w'→Q (.panic ch) a w')(hi:ops[i]?=some o)
  (h:if runs ops (env a) o then DN P X o (env a) w (fun v w'=>K (a.put o.dst v) w') else K (a.put o.dst undef) w):wpOp P ops Q i K a w:=by
 unfold wpOp;simp only[hi,BX];split
 ·rename_i hr;rw[if_pos hr] at h;exact .inl (HX hX h)
 ·rename_i hr;rw[if_neg hr] at h;exact h
theorem Q8{Q:Exit→Act→World→Prop}{K:Env→World→Prop}{N:Nat}{D:List Deferred}(hX:∀a ch w',a.tmps.size=N→a.defers=D→X ch w'→Q (.panic ch) a w')(hF:U9 ops m)(hds:C8 N ops.toList=true)(hQ:∀a w,a.tmps.size=N→a.defers=D→K (env a) w→Q .normal a w) :
  ∀(fuel k:Nat) (l:Array Bool) (a:Act) (w:World),m≤k→k≤ops.size→ops.size-k≤fuel→l.size=ops.size→(∀j,l.getD j false=true↔j<k)→a.tmps.size=N→a.defers=D→
   Bd P X ops (ops.toList.drop k) (env a) w K→wpAny P .any ops Q fuel l a w:=by
 have done:∀(k:Nat) (l:Array Bool) (a:Act) (w:World),k≤ops.size→l.size=ops.size→(∀j,l.getD j false=true↔j<k)→a.tmps.size=N→a.defers=D→
   Bd P X ops (ops.toList.drop k) (env a) w K→Region.ready .any ops l=[]→Q .normal a w:=fun k l a w hk hs hl hn hd h hr=>by
  by_cases hlt:k<ops.size
  ·have:k∈Region.ready .any ops l:=by
    refine mem_ready.2 ⟨?_,ops[k],by simp[hlt],fun e he hb=>(hl _).2 (hF.back k ops[k] (by simp[hlt]) e he hb)⟩;rw[CC (by omega)];cases hh:l.getD k false
    ·rfl
    ·exact absurd ((hl k).1 hh) (by omega)
   rw[hr] at this;cases this
  ·rw[AfV (by simp;omega)] at h;exact hQ a w hn hd h
 intro fuel;induction fuel with
 |zero=>
  intro k l a w hmk hk hf hs hl hn hd h;have hr:Region.ready .any ops l=[]:=by
   cases hr:Region.ready .any ops l with
   |nil=>rfl
   |cons x xs=>
    have hx:x∈Region.ready .any ops l:=by rw[hr];exact Ae7 ..
    obtain⟨h1,o,ho,_⟩:=mem_ready.1 hx;have hlt:x<ops.size:=(Afr.1 ho).1;rw[CC (by omega),(hl x).2 (by omega)] at h1;cases h1
  exact⟨hr,done k l a w hk hs hl hn hd h hr⟩
 |succ fuel ih=>
  intro k l a w hmk hk hf hs hl hn hd h;refine⟨done k l a w hk hs hl hn hd h,fun i hi=>?_⟩;obtain⟨h1,o,ho,h2⟩:=mem_ready.1 hi;have hlt:i<ops.size:=(Afr.1 ho).1;have hge:k≤i:=by
   rcases Af4 i k with h'|h'
   ·rw[CC (by omega),(hl i).2 h'] at h1;cases h1
   ·exact h'
  have hcl:KO ops fun j=>l.getD j false=true:=fun j oj hoj hj e he hb=>(hl _).2 (Nat.lt_trans (hF.back j oj hoj e he hb) ((hl j).1 hj));have hik:i=k:=by
   rcases Af4 k i with h'|h'
   ·have:=hF.tail _ hcl i o (by omega) ho h2 k h';exact absurd ((hl k).1 this) (by omega)
   ·omega
  subst hik;have hdrop:ops.toList.drop i=o::ops.toList.drop (i+1):=by
   have:ops.toList[i]'(by simpa using hlt)=o:=by simpa[hlt] using ho
   rw[AfZ (by simpa using hlt),this]
  rw[hdrop] at h;have hdo:o.dst.all (· < N)=true:=(Aff.1 hds) o (by have:=Af6 ho;simpa using this);refine Ps (fun ch w'=>hX _ ch w' hn hd) ho ?_;have step:∀v w',Bd P X ops (ops.toList.drop (i+1)) (CQ (env a) o.dst v) w' K→wpAny P .any ops Q fuel (l.setIfInBounds i true) (a.put o.dst v) w':=fun v w' hh=>by
   refine ih (i+1) _ _ w' (by omega) (by omega) (by omega) (by simpa using hs) (fun j=>?_) (by rw[Bm,hn]) (by rw[AY,hd]) (by rw[Cg a _ v (by rw[hn];exact hdo)];exact hh);rw[Bh (by omega),hl];omega
  simp only[Bd] at h;split at h
  ·rename_i hr;rw[if_pos hr];exact h.mono step
  ·rename_i hr;rw[if_neg hr];exact step _ _ h
end
section
variable {σ:Type}
def XN(P:Program)(X:PX)(full:Array Oper)(J:(Nat→Bool)→σ→World→Prop)(R:σ→σ→Prop)(h0:σ)(k:Nat)(L:List (Nat×Sq σ))(e:Env)(o:Oper)(Φ:Sq σ):Prop:=
 ∀D h1 w,D k=false→R h0 h1→J D h1 w→FR (lk full o) h1 L e fun e'=>DN P X o e' w fun u w'=>∃h2,R h1 h2∧J (AZ D k) h2 w'∧Φ u h2
def Be(P:Program)(X:PX)(full:Array Oper)(J:(Nat→Bool)→σ→World→Prop)(R:σ→σ→Prop)(h0:σ):Nat→List (Nat×Sq σ)→List Oper→Env→(List (Nat×Sq σ)→Env→Prop)→Prop
  |_,L,[],e,K=>K L e
  |k,L,o::r,e,K=>
    ((∀us,runs full (FQ e L us) o=false)∧(∀D s w,D k=false→J D s w→J (AZ D k) s w)∧Be P X full J R h0 (k+1) L r (CQ e o.dst undef) K)∨
    ((∀us,runs full (FQ e L us) o=true)∧
      ((∃v,XN P X full J R h0 k L e o (fun u _=>u=v)∧Be P X full J R h0 (k+1) L r (CQ e o.dst v) K)∨
       (∃d Φ,o.dst=some d∧Cj R Φ∧XN P X full J R h0 k L e o Φ∧Be P X full J R h0 (k+1) ((d,Φ)::L) r e K)))
section
variable (P:Program)(X:PX)(ops:Array Oper)(J:(Nat→Bool)→σ→World→Prop)(R:σ→σ→Prop)(h0:σ)(e0:Env)
def Xm(Ss:List (Sq σ))(i:Nat):Prop:=∀o Φ f D h1 w,ops[i]?=some o→Ss[i]?=some Φ→D i=false→R h0 h1→J D h1 w→(∀d∈o.looksAt ops,OkG ops e0 Ss i f h1 d)→
 (runs ops f o=true→DN P X o f w fun u w'=>∃h2,R h1 h2∧J (AZ D i) h2 w'∧Φ u h2)∧(runs ops f o=false→Φ undef h1∧J (AZ D i) h1 w)
end
section
variable {P:Program}{X:PX}{ops:Array Oper}{J:(Nat→Bool)→σ→World→Prop}{R:σ→σ→Prop}{h0:σ}{e0:Env}{m:Nat}
theorem Xm.snoc{Ss:List (Sq σ)}{Φ:Sq σ}{k:Nat}(hk:k<Ss.length)(h:Xm P X ops J R h0 e0 Ss k):Xm P X ops J R h0 e0 (Ss++[Φ]) k:=by
 intro o Ψ f D h1 w ho hp hD hl I hd;rw[Bg hk] at hp;exact h o Ψ f D h1 w ho hp hD hl I fun d hm=>(OkG.snoc (by omega)).1 (hd d hm)
theorem Adx(hF:U9 ops m):∀(l:List Oper) (Ss:List (Sq σ)) (L:List (Nat×Sq σ)) (e:Env) (K:List (Nat×Sq σ)→Env→Prop),(∀j,l[j]?=(ops.toList.take m)[Ss.length+j]?)→Ss.length+l.length=m→
  UZ ops e0 Ss L e→(∀k,k<Ss.length→Xm P X ops J R h0 e0 Ss k)→(∀Φ∈Ss,Cj R Φ)→Be P X ops J R h0 Ss.length L l e K→
  ∃Ss' L' e',Ss'.length=m∧UZ ops e0 Ss' L' e'∧(∀k,k<m→Xm P X ops J R h0 e0 Ss' k)∧(∀Φ∈Ss',Cj R Φ)∧K L' e'
 |[],Ss,L,e,K,_,hm,hr,hs,hmo,h=>⟨Ss,L,e,by simpa using hm,hr,by simpa[←hm] using hs,hmo,h⟩
 |o::r,Ss,L,e,K,hl,hm,hr,hs,hmo,h=>by
  simp only[Ae6] at hm;have hi:ops[Ss.length]?=some o:=by
   have:=hl 0;simp only[Ag7,AgS,AfF] at this;rw[if_pos (by omega)] at this;simpa using this.symm
  have hdst:Dh ops Ss.length=o.dst:=by simp[Dh,hi]
  have hdist:∀k d,k<Ss.length→Dh ops k=some d→o.dst≠some d:=fun k d hk hd hod=>by
   cases hok:ops[k]? with
   |none=>simp[Dh,hok] at hd
   |some ok=>
    simp[Dh,hok] at hd;have:=hF.dist k Ss.length ok o d (by omega) (by omega) hok hi hd hod;omega
  have hagree:∀f h1,(∀d∈o.looksAt ops,OkG ops e0 Ss Ss.length f h1 d)→∀d∈o.looksAt ops,FQ e L f d=f d:=fun f h1 hd d hdm=>hr.eq f h1 d (hd d hdm);have hLd:∀f h1,(∀d∈o.looksAt ops,OkG ops e0 Ss Ss.length f h1 d)→∀p∈L,lk ops o p.1=true→p.2 (f p.1) h1:=fun f h1 hd p hp hk=>by
   obtain⟨k,k1,k2,k3⟩:=hr.sub p hp;exact(hd p.1 (by simpa[lk] using hk)).1 k p.2 k1 k2 k3
  have next:∀Φ L1 e1,Cj R Φ→Xm P X ops J R h0 e0 (Ss++[Φ]) Ss.length→UZ ops e0 (Ss++[Φ]) L1 e1→Be P X ops J R h0 (Ss.length+1) L1 r e1 K→
    ∃Ss' L' e',Ss'.length=m∧UZ ops e0 Ss' L' e'∧(∀k,k<m→Xm P X ops J R h0 e0 Ss' k)∧(∀Φ∈Ss',Cj R Φ)∧K L' e':=fun Φ L1 e1 hΦ hls hrel hops=>by
   refine Adx hF r (Ss++[Φ]) L1 e1 K (fun j=>?_) (by simp;omega) hrel (fun k hk=>?_) (fun Ψ hΨ=>?_) (by rw[Ae2];exact hops)
   ·have:=hl (j+1);simp only[AgL] at this;rw[this,Ae2,Ae6,Afc];congr 1;omega
   ·simp only[Ae2,Ae6,Afc] at hk;by_cases hk':k<Ss.length
    ·exact(hs k hk').snoc hk'
    ·have:k=Ss.length:=by omega
     subst this;exact hls
   ·rcases Afu.1 hΨ with h1|h1
    ·exact hmo Ψ h1
    ·simp at h1;subst h1;exact hΦ
  have relV:∀v (Φ:Sq σ),(∀u h1,Φ u h1→u=v)→UZ ops e0 (Ss++[Φ]) L (CQ e o.dst v):=fun v Φ hΦ=>by
   refine⟨fun f h1 d hok=>?_,fun p hp=>?_⟩
   ·cases hod:o.dst with
    |none=>
     refine hr.eq f h1 d ?_;refine⟨fun j Ψ hj a b=>hok.1 j Ψ (by simp;omega) a (by rw[Bg hj];exact b),fun hn=>hok.2 fun j hj=>?_⟩;simp only[Ae2,Ae6,Afc] at hj;by_cases hj':j<Ss.length
     ·exact hn j hj'
     ·have:j=Ss.length:=by omega
      subst this;rw[hdst,hod];exact fun hh=>by cases hh
    |some t=>
     simp only[CQ];by_cases hdt:d=t
     ·subst hdt;rw[HV,Ck]
      ·exact(hΦ _ h1 (hok.1 Ss.length Φ (by simp) (by rw[hdst,hod]) (by simp))).symm
      ·intro p hp hpd;obtain⟨k,k1,k2,_⟩:=hr.sub p hp;exact hdist k _ k1 k2 (by rw[hod,hpd])
     ·rw[GC hdt];refine hr.eq f h1 d ⟨fun j Ψ hj a b=>hok.1 j Ψ (by simp;omega) a (by rw[Bg hj];exact b),fun hn=>hok.2 fun j hj=>?_⟩;simp only[Ae2,Ae6,Afc] at hj;by_cases hj':j<Ss.length
      ·exact hn j hj'
      ·have:j=Ss.length:=by omega
       subst this;rw[hdst,hod];exact fun hh=>by cases hh;exact hdt rfl
   ·obtain⟨k,k1,k2,k3⟩:=hr.sub p hp;exact⟨k,by simp;omega,k2,by rw[Bg k1];exact k3⟩
  have hsel:=fun cs b=>Region.noSelect_spec hF.sel Ss.length o cs b hi;simp only[Be] at h;rcases h with ⟨hru,hJd,h⟩|⟨hru,⟨v,hob,h⟩|⟨d,Φ,hod,hΦ,hob,h⟩⟩
  ·refine next (fun u _=>u=undef) L _ (fun _ _ _ _ e=>e) ?_ (relV undef _ fun _ _ e=>e) h;intro o' Φ' f D h1 w ho' hp' hD hl1 I hd;rw[hi] at ho';cases ho';simp at hp';subst hp';have hd':=fun d hm=>(OkG.snoc (Afg _)).1 (hd d hm);refine⟨fun hrt=>?_,fun _=>⟨rfl,hJd D h1 w hD I⟩⟩;rw[←Cq (hagree f h1 hd'),hru] at hrt;cases hrt
  ·refine next (fun u _=>u=v) L _ (fun _ _ _ _ e=>e) ?_ (relV v _ fun _ _ e=>e) h;intro o' Φ' f D h1 w ho' hp' hD hl1 I hd;rw[hi] at ho';cases ho';simp at hp';subst hp';have hd':=fun d hm=>(OkG.snoc (Afg _)).1 (hd d hm);refine⟨fun _=>KV hsel (hagree f h1 hd') ((hob D h1 w hD hl1 I).get f (hLd f h1 hd')),fun hrf=>?_⟩;rw[←Cq (hagree f h1 hd'),hru] at hrf;cases hrf
  ·refine next Φ ((d,Φ)::L) e hΦ ?_ ⟨fun f h1 i hok=>?_,fun p hp=>?_⟩ h
   ·intro o' Φ' f D h1 w ho' hp' hD hl1 I hd;rw[hi] at ho';cases ho';simp at hp';subst hp';have hd':=fun d hm=>(OkG.snoc (Afg _)).1 (hd d hm);refine⟨fun _=>KV hsel (hagree f h1 hd') ((hob D h1 w hD hl1 I).get f (hLd f h1 hd')),fun hrf=>?_⟩;rw[←Cq (hagree f h1 hd'),hru] at hrf;cases hrf
   ·simp only[FQ];by_cases hdt:i=d
    ·subst hdt;rw[Ck]
    ·rw[Ch _ _ hdt];refine hr.eq f h1 i ⟨fun j Ψ hj a b=>hok.1 j Ψ (by simp;omega) a (by rw[Bg hj];exact b),fun hn=>hok.2 fun j hj=>?_⟩;simp only[Ae2,Ae6,Afc] at hj;by_cases hj':j<Ss.length
     ·exact hn j hj'
     ·have:j=Ss.length:=by omega
      subst this;rw[hdst,hod];exact fun hh=>by cases hh;exact hdt rfl
   ·rcases Afq.1 hp with rfl|hp
    ·exact⟨Ss.length,by simp,by rw[hdst,hod],by simp⟩
    ·obtain⟨k,k1,k2,k3⟩:=hr.sub p hp;exact⟨k,by simp;omega,k2,by rw[Bg k1];exact k3⟩
theorem Q9{Q:Exit→Act→World→Prop}{K:Env→World→Prop}{N:Nat}{D:List Deferred}{Ss:List (Sq σ)}(hX:∀a ch w',a.tmps.size=N→a.defers=D→X ch w'→Q (.panic ch) a w')(hF:U9 ops m)(hds:C8 N ops.toList=true)(hQ:∀a w,a.tmps.size=N→a.defers=D→K (env a) w→Q .normal a w)
  (hSs:Ss.length=m) (hls:∀k,k<m→Xm P X ops J R h0 e0 Ss k) (hmo:∀Φ∈Ss,Cj R Φ)
  (hR:Pre R) (hend:∀f D h1 w,(∀j,j<m→D j=true)→R h0 h1→J D h1 w→(∀d,OkG ops e0 Ss m f h1 d)→Bd P X ops (ops.toList.drop m) f w K) :
  ∀(fuel:Nat) (l:Array Bool) (a:Act) (w:World),l.count false≤fuel→StG ops m J R h0 e0 Ss N D l a w→wpAny P .any ops Q fuel l a w:=by
 have fin:∀(l:Array Bool) (a:Act) (w:World),StG ops m J R h0 e0 Ss N D l a w→(∀j,j<m→l.getD j false=true)→Bd P X ops (ops.toList.drop m) (env a) w K:=fun l a w S hall=>by
  obtain⟨h,g1,g2,g3⟩:=S.st;exact hend _ _ h w hall g1 g2 fun d=>⟨fun j Φ hj a b=>(g3 d).1 j Φ hj (hall j hj) a b,fun hn=>(g3 d).2 fun j hj _=>hn j hj⟩
 have nil:∀(l:Array Bool) (a:Act) (w:World),StG ops m J R h0 e0 Ss N D l a w→Region.ready .any ops l=[]→Q .normal a w:=fun l a w S hr=>by
  have least:∀n,∀j,j<n→j<ops.size→l.getD j false=true:=by
   intro n;induction n with
   |zero=>intro j hj;omega
   |succ n ihn=>
    intro j hj hjs;by_cases hjn:j<n
    ·exact ihn j hjn hjs
    ·have:j=n:=by omega
     subst this;cases hh:l.getD j false
     ·exfalso;have:j∈Region.ready .any ops l:=mem_ready.2 ⟨by rw[CC (by rw[S.size];exact hjs)];exact hh,ops[j],by simp[hjs],fun e he hb=>by
       have:=hF.back j ops[j] (by simp[hjs]) e he hb;exact ihn e.on (by omega) (by omega)⟩
      rw[hr] at this;cases this
     ·rfl
  have hms:m=ops.size:=by
   rcases Af4 m ops.size with h'|h'
   ·exact absurd (least (m+1) m (by omega) h') (S.tail m (Afg m))
   ·have:=hF.le;omega
  have:=fin l a w S fun j hj=>least (j+1) j (by omega) (by omega);rw[AfV (by simp;omega)] at this;exact hQ a w S.n S.d this
 intro fuel;induction fuel with
 |zero=>
  intro l a w hc S;have hr:Region.ready .any ops l=[]:=by
   cases hr:Region.ready .any ops l with
   |nil=>rfl
   |cons x xs=>
    have hx:x∈Region.ready .any ops l:=by rw[hr];exact Ae7 ..
    obtain⟨h1,o,ho,_⟩:=mem_ready.1 hx;have hlt:x<l.size:=by rw[S.size];exact(Afr.1 ho).1
    have:=count_set hlt h1;omega
  exact⟨hr,nil l a w S hr⟩
 |succ fuel ih=>
  intro l a w hc S;refine⟨nil l a w S,fun i hi=>?_⟩;obtain⟨h1,o,ho,h2⟩:=mem_ready.1 hi;have hlt:i<ops.size:=(Afr.1 ho).1;have hil:i<l.size:=by rw[S.size];exact hlt
  have hun:l.getD i false≠true:=by rw[←CC hil,h1];exact fun h=>by cases h
  have hdo:o.dst.all (· < N)=true:=(Aff.1 hds) o (by have:=Af6 ho;simpa using this);have hcnt:=count_set hil h1;by_cases him:i<m
  ·obtain⟨Φ,hΦ⟩:∃Φ,Ss[i]?=some Φ:=⟨Ss[i]'(by omega),by simp[hSs,him]⟩;obtain⟨h,g1,g2,g3⟩:=S.st;have hDi:(fun j=>l.getD j false) i=false:=by simpa using hun
   have hset:(fun j=>(l.setIfInBounds i true).getD j false)=AZ (fun j=>l.getD j false) i:=by
    funext j;rw[AgH,Bh hil];simp[AZ]
   have step:∀v w' hh,R h hh→J (AZ (fun j=>l.getD j false) i) hh w'→Φ v hh→wpAny P .any ops Q fuel (l.setIfInBounds i true) (a.put o.dst v) w':=fun v w' hh hle I hv=>by
    refine ih _ _ w' (by omega) ⟨by simpa using S.size,fun j oj hoj hj e he hb=>?_,fun j hj hh'=>?_,by rw[Bm,S.n],by rw[AY,S.d],hh,hR.trans _ _ _ g1 hle,by rw[hset];exact I,fun d=>?_⟩
    ·simp only[Bh hil] at hj ⊢;rcases hj with rfl|hj
     ·rw[ho] at hoj;cases hoj;exact .inr (h2 e he hb)
     ·exact .inr (S.closed j oj hoj hj e he hb)
    ·rw[Bh hil] at hh';rcases hh' with rfl|hh'
     ·omega
     ·exact S.tail j hj hh'
    ·rw[Cg a _ v (by rw[S.n];exact hdo)];have other:o.dst≠some d→CQ (env a) o.dst v d=env a d:=fun hne=>by
      cases hod:o.dst with
      |none=>rfl
      |some t=>exact Ch _ _ fun e=>hne (by rw[hod,e])
     by_cases hod:o.dst=some d
     ·rw[hod];simp only[CQ,Ck];refine⟨fun j Ψ hj hlj hdj hΨ=>?_,fun hn=>absurd (by simp[Dh,ho,hod]) (hn i him (by rw[Bh hil];exact .inl rfl))⟩;cases hoj:ops[j]? with
      |none=>simp[Dh,hoj] at hdj
      |some oj=>
       simp[Dh,hoj] at hdj;have:=hF.dist j i oj o d hj him hoj ho hdj hod;subst this;rw[hΦ] at hΨ;cases hΨ;exact hv
     ·rw[other hod];refine⟨fun j Ψ hj hlj hdj hΨ=>?_,fun hn=>(g3 d).2 fun j hj hlj=>hn j hj (by rw[Bh hil];exact .inr hlj)⟩;rw[Bh hil] at hlj;rcases hlj with rfl|hlj
      ·simp[Dh,ho] at hdj;exact absurd hdj hod
      ·exact hmo Ψ (Afk hΨ) _ h hh hle ((g3 d).1 j Ψ hj hlj hdj hΨ)
   have hok:∀d∈o.looksAt ops,OkG ops e0 Ss i (env a) h d:=fun d hd=>by
    refine⟨fun j Ψ hj hdj hΨ=>?_,fun hn=>(g3 d).2 fun j hj hlj hdj=>?_⟩
    ·cases hoj:ops[j]? with
     |none=>simp[Dh,hoj] at hdj
     |some oj=>
      simp[Dh,hoj] at hdj;have:=(hF.reads i j o oj d him (by omega) (by omega) ho hoj hdj hd).1 hj;exact(g3 d).1 j Ψ (by omega) (Y6 (L:=fun j=>l.getD j false=true) this h2) (by simp[Dh,hoj,hdj]) hΨ
    ·rcases Ahg j i with h'|h'|h'
     ·exact hn j h' hdj
     ·subst h';exact hun hlj
     ·cases hoj:ops[j]? with
      |none=>simp[Dh,hoj] at hdj
      |some oj=>
       simp[Dh,hoj] at hdj;have:=(hF.reads i j o oj d him hj (by omega) ho hoj hdj hd).2 h';exact hun (Y6 (L:=fun j=>l.getD j false=true) this (S.closed j oj hoj hlj))
   have hls':=hls i him o Φ (env a) _ h w ho hΦ hDi g1 g2 hok;refine Ps (fun ch w'=>hX _ ch w' S.n S.d) ho ?_;split
   ·rename_i hr;exact(hls'.1 hr).mono fun v w' ⟨hh,k1,k2,k3⟩=>step v w' hh k1 k2 k3
   ·rename_i hr;exact step undef w h (hR.refl h) (hls'.2 (by simpa using hr)).2 (hls'.2 (by simpa using hr)).1
  ·have hall:=hF.tail (fun j=>l.getD j false=true) S.closed i o (by omega) ho h2;have him':i=m:=by
    rcases Af4 m i with h'|h'
    ·exact absurd (hall m h') (S.tail m (Afg m))
    ·omega
   subst him';have hl:∀j,l.getD j false=true↔j<i:=fun j=>⟨fun hj=>by
    rcases Af4 j i with h'|h'
    ·exact h'
    ·exact absurd hj (S.tail j h'),hall j⟩
   have hle:ops.size-i≤fuel+1:=by
    have:∀n k (l:Array Bool),l.size=ops.size→k+n=ops.size→(∀j,k≤j→l.getD j false≠true)→n≤l.count false:=by
     intro n;induction n with
     |zero=>intro k l _ _ _;omega
     |succ n ihn=>
      intro k l hs hk hj;have hks:k<l.size:=by omega
      have hkf:l.getD k true=false:=by
       rw[CC hks];cases hh:l.getD k false
       ·rfl
       ·exact absurd hh (hj k (Afg k))
      have h3:=ihn (k+1) (l.setIfInBounds k true) (by simpa using hs) (by omega) (fun j hj'=>by
       rw[Ne,Bh hks];rintro(h|h)
       ·omega
       ·exact hj j (by omega) h)
      have:=count_set hks hkf;omega
    have:=this (ops.size-i) i l S.size (by omega) S.tail;omega
   have hT:=Q8 (P:=P) hX hF hds hQ (fuel+1) i l a w (Afg i) hF.le hle S.size hl S.n S.d (fin l a w S hall);exact hT.2 i hi
end
end
theorem Ac7{σ:Type}{P:Program}{N:Nat}{D:List Deferred}{e:Env}{w:World}{Q:Exit→Env→World→Prop}{id:Nat}{ops:Array Oper}{J:(Nat→Bool)→σ→World→Prop}{R:σ→σ→Prop}(X:PX)(hX:∀e ch w',X ch w'→Q (.panic ch) e w')(hm:LH P)(hR:Pre R)(s0:σ)(I:J (fun _=>false) s0 w.drew)(m:Nat)(hB:MV ops m=true)
  (k:Be P X ops J R s0 0 [] (ops.toList.take m) e (fun L e'=>∀D h1 w1,(∀j,j<m→D j=true)→R s0 h1→J D h1 w1→FR (fun _=>true) h1 L e' fun e''=>Bd P X ops (ops.toList.drop m) e'' w1 (fun e3 w3=>Q .normal e3 w3))):WP P N D (.region id ops true) e w Q:=by
 intro hs a h1 h2 h3;subst h3;have hF:=LJ hB;obtain⟨Ss,L,e',hlen,hrel,hls,hmo,hK⟩:=Adx (e0:=env a) hF _ [] [] (env a) _ (fun j=>by simp) (by simp[hF.le]) ⟨fun f h1 d ho=>(ho.2 (by simp)).symm,by simp⟩ (by simp) (by simp) k;refine wp_region_any hm ?_;refine Q9 (K:=fun e3 w3=>Q .normal e3 w3) (N:=N) (D:=D) (fun a ch w' g1 g2 g3=>⟨g1,g2,hX _ _ _ g3⟩) hF hs (fun a w g1 g2 g3=>⟨g1,g2,g3⟩) hlen hls hmo hR (fun f D h1 w1 hD hl I1 hok=>?_) ops.size _ a _ (by simp) ⟨by simp,?_,?_,h1,h2,s0,hR.refl s0,?_,fun d=>⟨?_,fun _=>rfl⟩⟩
 ·have hov:FQ e' L f=f:=by funext d;exact hrel.eq f h1 d (hlen▸hok d)
  have:=(hK D h1 w1 hD hl I1).get f fun p hp _=>by
   obtain⟨k,k1,k2,k3⟩:=hrel.sub p hp;exact(hok p.1).1 k p.2 (hlen▸k1) k2 k3
  rwa [hov] at this
 ·intro i o _ hl;simp[Afp,AfL] at hl;split at hl<;>simp at hl
 ·intro j _ hl;simp[Afp,AfL] at hl;split at hl<;>simp at hl
 ·have:(fun j=>(Array.replicate ops.size false).getD j false)=fun _=>false:=by
   funext j;simp[Afp,AfL];split<;>rfl
  rw[this];exact I
 ·intro j Φ _ hl;simp[Afp,AfL] at hl;split at hl<;>simp at hl
section
variable {σ:Type}{P:Program}{X:PX}{full:Array Oper}{J:(Nat→Bool)→σ→World→Prop}{R:σ→σ→Prop}{h0:σ}{k:Nat}{L:List (Nat×Sq σ)}{rest:List Oper}{e:Env}{K:List (Nat×Sq σ)→Env→Prop}
variable {op:Op}{t:TypeId}{pos:String}{af:Array Edge}
theorem Adu(h:K L e):Be P X full J R h0 k L [] e K:=h
theorem Ab7{d:Nat}{g:Option (Nat×Bool)}{v:Value}(hr:∀us,runs full (FQ e L us) ⟨some d,op,t,pos,af,g⟩=true)(hR:Pre R)(hJ:∀D s w,J D s w→J (AZ D k) s w)
  (hy:∀D h1 w us,R h0 h1→J D h1 w→Y P ⟨some d,op,t,pos,af,g⟩ (FQ e L us) w v) (h:Be P X full J R h0 (k+1) L rest (upd e d v) K) :
  Be P X full J R h0 k L (⟨some d,op,t,pos,af,g⟩::rest) e K:=
 .inr ⟨hr,.inl ⟨v,fun D h1 w _ hl I=>FR.all fun us=>by refine DN.of ?_;unfold Op1;rw[hy D h1 w us hl I];exact⟨h1,hR.refl h1,hJ D h1 w I,rfl⟩,h⟩⟩
theorem Acw{d:Nat}{g:Option (Nat×Bool)}{Φ:Sq σ}(hm:Cj R Φ)(hr:∀us,runs full (FQ e L us) ⟨some d,op,t,pos,af,g⟩=true)
  (hy:XN P X full J R h0 k L e ⟨some d,op,t,pos,af,g⟩ Φ) (h:Be P X full J R h0 (k+1) ((d,Φ)::L) rest e K) :
  Be P X full J R h0 k L (⟨some d,op,t,pos,af,g⟩::rest) e K:=
 .inr ⟨hr,.inr ⟨d,Φ,rfl,hm,hy,h⟩⟩
end
def XP(C:List PanicEntry)(B:Aq)(Pan:Prop):PX:=fun ch w=>ch=C∧CZ B.w w∧Pan
def FnP(P:Program)(f:FuncId)(args:List Value)(B:Aq)(C:List PanicEntry)(Pan:Prop)(Post:Value→Ae→Prop):Prop:=
 Calls P f args.toArray B.w fun x w'=>(∃v h',x=.returned v∧Ext B w' h'∧Post v h')∨∃ch,x=.panicked ch∧XP C B Pan ch w'
def U1(P:Program)(fn:Func)(B:Aq)(C:List PanicEntry)(Pan:Prop)(Post:Value→Ae→Prop):Exit→Env→World→Prop
 |.ret,e,w|.normal,e,w=>∃vs h',RV P e w fn.results.toList vs∧Ext B w h'∧Post (tup vs) h'
 |.panic ch,_,w=>XP C B Pan ch w
 |_,_,_=>False
theorem U1.mk{P:Program}{fn:Func}{B:Aq}{C:List PanicEntry}{Pan:Prop}{Post:Value→Ae→Prop}{e:Env}{w:World}{rs:List ResultVar}{vs:List Value}{h:Ae}(hr:fn.results.toList=rs)(hv:RV P e w rs vs)(X:Ext B w h)(hp:Post (tup vs) h) :
  U1 P fn B C Pan Post .ret e w:=⟨vs,h,by rw[hr];exact hv,X,hp⟩
theorem U1.fin{P:Program}{fn:Func}{B:Aq}{C:List PanicEntry}{Pan:Prop}{Post:Value→Ae→Prop}{e:Env}{w:World}{rs:List ResultVar}{vs:List Value}{h:Ae}(hr:fn.results.toList=rs)(hv:RV P e w rs vs)(X:Ext B w h)(hp:Post (tup vs) h) :
  U1 P fn B C Pan Post .normal e w:=⟨vs,h,by rw[hr];exact hv,X,hp⟩
theorem FnP.of{P:Program}{f:FuncId}{fn:Func}{c:Code}{N:Nat}{args:List Value}{B:Aq}{C:List PanicEntry}{Pan:Prop}{Post:Value→Ae→Prop}(hf:P.funcs[f]?=some fn)(hb:fn.body=some c)(hN:fn.ntmps=N)(hs:AS N c=true)
  (hl:args.length≤N) (h:∀e,WP P N [] c (E e (Ky 0 args)) B.w (U1 P fn B C Pan Post)):FnP P f args B C Pan Post:=by
 refine calls_of_wp hf hb ?_;subst hN;refine wp_mono (h _ hs {tmps:=args.toArray++Array.replicate (fn.ntmps-args.toArray.size) undef,defers:=[]} (by simp;omega) rfl (C9 (DQ args 0 fun j v hv=>?_)).symm) ?_
 ·have hj:=(Ae9.1 hv).1;have hg:args[j]=v:=(Ae9.1 hv).2;simp[env,Afp,Age,hj,hg]
 ·rintro x a' w' ⟨_,g2,g3⟩;cases x<;>simp only[U1] at g3<;>first|exact g3.elim|skip
  ·obtain⟨vs,h',hv,X,hp⟩:=g3;exact⟨g2,_,A9 rfl hv,.inl ⟨_,_,rfl,X,hp⟩⟩
  ·obtain⟨vs,h',hv,X,hp⟩:=g3;exact⟨g2,_,A9 rfl hv,.inl ⟨_,_,rfl,X,hp⟩⟩
  ·exact⟨g2,.inr ⟨_,rfl,g3⟩⟩
section
variable {P:Program}{e:Env}{w:World}{B:Aq}{h:Ae}{M:List SA}{t:TypeId}{pos:String}{af:Array Edge}{g:Option (Nat×Bool)}{C:List PanicEntry}
theorem Ac0{d:Option Nat}{f:FuncId}{args:Array Operand}{ts:Array TypeId}{vs:List Value}{Pan Pan':Prop}{Post:Value→Ae→Prop}{K:Value→World→Prop}(I:Inv B h M w)(hf:BE P f)(hfn:FnP P f vs ⟨w,h⟩ C Pan Post)
  (ha:args.toList.map (ev e)=vs) (kx:Pan→Pan') (k:∀v h' w',Inv B h' M w'→h.le h'→Post v h'→K v w'):DN P (XP C B Pan') ⟨d,.call {callee:=.value (.func f),args:=args,argTypes:=ts},t,pos,af,g⟩ e w K:=by
 have ha':args.map (ev e)=vs.toArray:=by rw[←ha];apply Array.ext';simp
 have:(execOp (ev e) ⟨d,.call {callee:=.value (.func f),args:=args,argTypes:=ts},t,pos,af,g⟩).run P w=.ok (.enter f vs.toArray) w:=by
  simp[execOp,resolve,ev,Deferred.ofValue,invoke,ha',hf]
 unfold DN;rw[this];refine Calls.mono hfn ?_;rintro x w' (⟨v,h',rfl,X,hp⟩|⟨ch,rfl,h1,h2,h3⟩)
 ·exact k v h' w' (I.called X) X.ext hp
 ·exact⟨h1,I.below.trans (h2.mono I.below.size),kx h3⟩
end
end
section
def within(n lo hi:Int):Prop:=lo≤n∧n≤hi
instance (n lo hi:Int):Decidable (within n lo hi):=inferInstanceAs (Decidable (_∧_))
def checkVal(kind v:Int):Int:=if kind<0∨3<kind then 4 else if (kind=0∧v≠0)∨v<0∨15<v then 3 else 0
def joinV(kind a b:Int):Int:=if kind=1 then max a b else if kind=2 then min a b else if kind=3 then orI a b else 0
def liftV(kind v n:Int):Int:=if kind=0 then 0 else if kind=3 then orI v n else min (v+n) 15
end
section
abbrev VOk(kind v:Int):Prop:=checkVal kind v=0
theorem DA{kind v:Int}:VOk kind v↔0≤kind∧kind≤3∧0≤v∧v≤15∧(kind=0→v=0):=by
 unfold VOk checkVal;(repeat' split)<;>omega
theorem Jk:∀x,x<16→∀y,y<16→orI (x:Nat) (y:Nat)=((x ||| y:Nat):Int)∧x ||| y<16:=by decide +kernel
theorem Jl{x y:Nat}(hx:x<16)(hy:y<16):orI x y=((x ||| y:Nat):Int):=(Jk x hx y hy).1
theorem D7{a:Int}(h:0≤a∧a≤15):∃x:Nat,a=x∧x<16:=⟨a.toNat,by omega,by omega⟩
theorem LS{k a b:Int}(ha:VOk k a)(hb:VOk k b):VOk k (joinV k a b):=by
 rw[DA] at *;obtain⟨h1,h2,h3,h4,h5⟩:=ha;obtain⟨_,_,h6,h7,h8⟩:=hb;obtain⟨x,rfl,hx⟩:=D7 ⟨h3,h4⟩;obtain⟨y,rfl,hy⟩:=D7 ⟨h6,h7⟩;have ho:=Jk x hx y hy;unfold joinV;refine⟨h1,h2,?_,?_,?_⟩<;>(repeat' split)<;>(try rw[ho.1])<;>omega
theorem Vj{k a b:Int}(ha:VOk k a)(hb:VOk k b):VOk k (liftV k a b):=by
 rw[DA] at *;obtain⟨h1,h2,h3,h4,h5⟩:=ha;obtain⟨_,_,h6,h7,h8⟩:=hb;obtain⟨x,rfl,hx⟩:=D7 ⟨h3,h4⟩;obtain⟨y,rfl,hy⟩:=D7 ⟨h6,h7⟩;have ho:=Jk x hx y hy;unfold liftV;refine⟨h1,h2,?_,?_,?_⟩<;>(repeat' split)<;>(try rw[ho.1])<;>omega
theorem FW{k a b:Int}(ha:VOk k a)(hb:VOk k b):joinV k a b=joinV k b a:=by
 rw[DA] at *;obtain⟨h1,h2,h3,h4,h5⟩:=ha;obtain⟨_,_,h6,h7,h8⟩:=hb;obtain⟨x,rfl,hx⟩:=D7 ⟨h3,h4⟩;obtain⟨y,rfl,hy⟩:=D7 ⟨h6,h7⟩;unfold joinV;rw[Jl hx hy,Jl hy hx,Nat.or_comm]
 (repeat' split)<;>omega
theorem GE{k a b c:Int}(ha:VOk k a)(hb:VOk k b)(hc:VOk k c):joinV k (joinV k a b) c=joinV k a (joinV k b c):=by
 rw[DA] at *;obtain⟨h1,h2,h3,h4,h5⟩:=ha;obtain⟨_,_,h6,h7,h8⟩:=hb;obtain⟨_,_,h9,h10,h11⟩:=hc;obtain⟨x,rfl,hx⟩:=D7 ⟨h3,h4⟩;obtain⟨y,rfl,hy⟩:=D7 ⟨h6,h7⟩;obtain⟨z,rfl,hz⟩:=D7 ⟨h9,h10⟩;have h12:=Jk x hx y hy;have h13:=Jk y hy z hz;unfold joinV;by_cases k1:k=1
 ·simp[k1,Int.max_assoc]
 by_cases k2:k=2
 ·simp[k2,Int.min_assoc]
 by_cases k3:k=3
 ·simp only[k3];simp[h12.1,h13.1,Jl h12.2 hz,Jl hx h13.2,Nat.or_assoc]
 ·simp[k1,k2,k3]
theorem Ej{k a:Int}(ha:VOk k a):joinV k a a=a:=by
 rw[DA] at *;obtain⟨h1,h2,h3,h4,h5⟩:=ha;obtain⟨x,rfl,hx⟩:=D7 ⟨h3,h4⟩;unfold joinV;rw[Jl hx hx,Nat.or_self]
 (repeat' split)<;>omega
abbrev LeV(k a b:Int):Prop:=joinV k a b=b
theorem Pu{k a b:Int}(ha:VOk k a)(hb:VOk k b):LeV k a (joinV k a b):=by unfold LeV;rw[←GE ha ha hb,Ej ha]
theorem Jm{k a b c:Int}(ha:VOk k a)(hb:VOk k b)(hc:VOk k c)(h1:LeV k a b)(h2:LeV k b c):LeV k a c:=by
 unfold LeV at *;have:joinV k a (joinV k b c)=joinV k b c:=by rw[←GE ha hb hc,h1]
 rwa [h2] at this
theorem M5{k a b:Int}(ha:VOk k a)(hb:VOk k b)(h1:LeV k a b)(h2:LeV k b a):a=b:=by
 unfold LeV at *;rw[FW hb ha] at h2;exact h2.symm.trans h1
theorem M6{k a b c:Int}(ha:VOk k a)(hb:VOk k b)(hc:VOk k c):LeV k (joinV k a b) c↔LeV k a c∧LeV k b c:=by
 constructor
 ·intro h;refine⟨Jm ha (LS ha hb) hc (Pu ha hb) h,Jm hb (LS ha hb) hc ?_ h⟩;rw[FW ha hb];exact Pu hb ha
 ·rintro⟨h1,h2⟩;unfold LeV at *;rw[GE ha hb hc,h2,h1]
end
section
structure Prd where
 name:ByteArray
 arity:Int
 kind:Int
structure Trm where
 var:Bool
 n:Int
structure Atm where
 pred:Int
 args:Sl Trm
structure Ltl where
 neg:Bool
 atom:Atm
structure Rul where
 head:Atm
 src:Int
 n:Int
 body:Sl Ltl
structure Prg where
 preds:Sl Prd
 rules:Sl Rul
@[reducible] def Prd.enc(x:Prd):List Value:=[.string x.name,.int .i64 x.arity,.int .i64 x.kind]
@[reducible] def Trm.enc(x:Trm):List Value:=[.bool x.var,.int .i64 x.n]
@[reducible] def Atm.enc(x:Atm):List Value:=[.int .i64 x.pred,x.args.val]
@[reducible] def Ltl.enc(x:Ltl):List Value:=[.bool x.neg,.int .i64 x.atom.pred,x.atom.args.val]
@[reducible] def Rul.enc(x:Rul):List Value:=[.int .i64 x.head.pred,x.head.args.val,.int .i64 x.src,.int .i64 x.n,x.body.val]
@[reducible] def Prg.enc(x:Prg):List Value:=[x.preds.val,x.rules.val]
@[reducible] def Prd.val(x:Prd):Value:=.agg #[.string x.name,.int .i64 x.arity,.int .i64 x.kind]
@[reducible] def Trm.val(x:Trm):Value:=.agg #[.bool x.var,.int .i64 x.n]
@[reducible] def Atm.val(x:Atm):Value:=.agg #[.int .i64 x.pred,x.args.val]
@[reducible] def Ltl.val(x:Ltl):Value:=.agg #[.bool x.neg,.int .i64 x.atom.pred,x.atom.args.val]
@[reducible] def Rul.val(x:Rul):Value:=.agg #[.int .i64 x.head.pred,x.head.args.val,.int .i64 x.src,.int .i64 x.n,x.body.val]
@[reducible] def Prg.val(x:Prg):Value:=.agg #[x.preds.val,x.rules.val]
structure Sl.Is{α:Type}(s:Sl α)(k:Nat)(enc:α→List Value)(h:Ae):Prop where
 el:s.In k enc h
 small:s.xs.length≤140737488355328
theorem Sl.Is.le{α:Type}{s:Sl α}{k:Nat}{enc:α→List Value}{h h':Ae}(hs:s.Is k enc h)(hl:h.le h'):s.Is k enc h':=⟨hs.el.le hl,hs.small⟩
theorem Sl.Is.at{α:Type}{s:Sl α}{k:Nat}{enc:α→List Value}{h:Ae}(hs:s.Is k enc h){i:Nat}(hi:i<s.xs.length):El s k enc h i s.xs[i]:=hs.el.el (Ae4 hi)
abbrev HQ(l:Sl Prd)(h:Ae):Prop:=l.Is 3 Prd.enc h
abbrev Xn(l:Sl Trm)(h:Ae):Prop:=l.Is 2 Trm.enc h
def Atm.In(a:Atm)(h:Ae):Prop:=Xn a.args h
def Ltl.In(x:Ltl)(h:Ae):Prop:=x.atom.In h
structure Y7(l:Sl Ltl)(h:Ae):Prop where
 is:l.Is 3 Ltl.enc h
 each:∀x∈l.xs,x.In h
structure Rul.In(r:Rul)(h:Ae):Prop where
 head:r.head.In h
 body:Y7 r.body h
structure ZB(l:Sl Rul)(h:Ae):Prop where
 is:l.Is 5 Rul.enc h
 each:∀x∈l.xs,x.In h
structure Prg.In(p:Prg)(h:Ae):Prop where
 preds:HQ p.preds h
 rules:ZB p.rules h
theorem Atm.In.le{a:Atm}{h h':Ae}(ha:a.In h)(hl:h.le h'):a.In h':=Sl.Is.le ha hl
theorem Ltl.In.le{x:Ltl}{h h':Ae}(hx:x.In h)(hl:h.le h'):x.In h':=Atm.In.le hx hl
theorem Y7.le{l:Sl Ltl}{h h':Ae}(x:Y7 l h)(hl:h.le h'):Y7 l h':=⟨x.is.le hl,fun y hy=>(x.each y hy).le hl⟩
theorem Rul.In.le{r:Rul}{h h':Ae}(x:r.In h)(hl:h.le h'):r.In h':=⟨x.head.le hl,x.body.le hl⟩
theorem ZB.le{l:Sl Rul}{h h':Ae}(x:ZB l h)(hl:h.le h'):ZB l h':=⟨x.is.le hl,fun y hy=>(x.each y hy).le hl⟩
theorem Prg.In.le{p:Prg}{h h':Ae}(x:p.In h)(hl:h.le h'):p.In h':=⟨x.preds.le hl,x.rules.le hl⟩
def termOk(t:Trm):Bool:=if t.var then decide (0≤t.n∧t.n<3) else decide (0≤t.n∧t.n≤4)
theorem KW(t:Trm):termOk t=true↔within t.n 0 (if t.var=true then 2 else 4):=by
 unfold termOk within;split<;>simp_all<;>omega
def B9(l:List Trm):Int:=if l.all termOk then 0 else 3
instance :Inhabited Prd:=⟨⟨ByteArray.empty,0,0⟩⟩
instance :Inhabited Trm:=⟨⟨false,0⟩⟩
instance {α:Type}:Inhabited (Sl α):=⟨⟨none,0,[]⟩⟩
instance :Inhabited Atm:=⟨⟨0,default⟩⟩
instance :Inhabited Ltl:=⟨⟨false,default⟩⟩
instance :Inhabited Rul:=⟨⟨default,0,0,default⟩⟩
def Al(l:List Prd)(p:Int):Prd:=l.getD p.toNat default
def checkAtom(l:List Prd)(a:Atm):Int:=
 if a.pred<0∨(l.length:Int)≤a.pred then 7 else if (a.args.xs.length:Int)≠(Al l a.pred).arity then 1 else B9 a.args.xs
def AL(a:Atm)(v:Int):Bool:=a.args.xs.any fun t=>t.var && decide (t.n=v)
def CU(r:Rul)(v:Int):Bool:=r.body.xs.any fun x=>!x.neg && AL x.atom v
def bodyErr(l:List Prd):List Ltl→Int
 |[]=>0
 |x::r=>if checkAtom l x.atom≠0 then checkAtom l x.atom else bodyErr l r
def Bf(r:Rul)(v:Int):Bool:=(AL r.head v || r.body.xs.any fun x=>AL x.atom v) && !CU r v
def CO(r:Rul)(k:Int):Ltl:=r.body.xs.getD k.toNat default
def checkRule(l:List Prd)(r:Rul):Int:=
 if checkAtom l r.head≠0 then checkAtom l r.head
 else if 3<r.body.xs.length then 2
 else if bodyErr l r.body.xs≠0 then bodyErr l r.body.xs
 else if Bf r 0 || Bf r 1 || Bf r 2 then 9
 else if r.src < -1∨(r.body.xs.length:Int)≤r.src then 3
 else if (Al l r.head.pred).kind=0∧(r.src≠-1∨r.n≠0) then 1
 else if 0≤r.src∧((CO r r.src).neg=true∨(Al l (CO r r.src).atom.pred).kind≠(Al l r.head.pred).kind) then 1
 else if r.n<0∨15<r.n then 3
 else 0
theorem Cs{l:List Prd}{p:Int}(h0:0≤p)(h1:p<l.length):l[p.toNat]?=some (Al l p):=by
 have:p.toNat<l.length:=by omega
 simp[Al,Ae3,this]
end
section
theorem bT{p:Prop}[Decidable p](h:p):Value.bool true=.bool (decide p):=by rw[decide_eq_true h]
theorem bF{p:Prop}[Decidable p](h:¬p):Value.bool false=.bool (decide p):=by rw[decide_eq_false h]
def Sh(l:List Trm)(v:Int):Nat:=l.countP fun t=>t.var && decide (t.n=v)
def cntA:List Atm→Int→Nat
 |[],_=>0
 |a::r,v=>Sh a.args.xs v+cntA r v
theorem OE(l r:List Atm)(v:Int):cntA (l++r) v=cntA l v+cntA r v:=by
 induction l with
 |nil=>simp[cntA]
 |cons a l ih=>simp only[AfH,cntA,ih];omega
def CE(es:List (Int×Int))(f:Int→Nat):Prop:=∀v,CS es v=if f v=0 then none else some (f v:Int)
theorem Ad0:CE [] (cntA []):=fun _=>rfl
theorem CE.same{es:List (Int×Int)}{f g:Int→Nat}(h:CE es f)(hg:∀v,g v=f v):CE es g:=(funext hg:g=f)▸h
theorem CE.get{es:List (Int×Int)}{f:Int→Nat}(h:CE es f)(v:Int):(CS es v).getD 0=(f v:Int):=by
 rw[h v];split<;>simp_all
theorem CE.put{es:List (Int×Int)}{f g:Int→Nat}(h:CE es f)(n:Int)(hg:∀v,g v=if v=n then f v+1 else f v):CE (iset es n ((CS es n).getD 0+1)) g:=by
 intro v;rw[KN,h.get n,h v,hg v];by_cases e:v=n
 ·subst e;simp
 ·simp[e]
theorem KB{es:List (Int×Int)}{v x:Int}(h:CS es v=some x):(v,x)∈es:=by
 induction es with
 |nil=>simp[CS] at h
 |cons p r ih=>
  obtain⟨k,w⟩:=p;simp only[CS] at h;split at h
  ·rename_i e;subst e;cases h;exact Ae7 ..
  ·exact Ae8 _ (ih h)
theorem Sj{es:List (Int×Int)}{v x:Int}(h:(v,x)∈es):CS es v≠none:=by
 induction es with
 |nil=>cases h
 |cons p r ih=>
  obtain⟨k,w⟩:=p;simp only[CS];split
  ·simp
  ·rename_i e;rcases Afq.1 h with h|h
   ·cases h;exact absurd rfl e
   ·exact ih h
theorem Sk(l:List Trm)(v:Int):Sh l v≤l.length:=AgV
theorem Vk{l:List Trm}{v:Int}:Sh l v≠0↔(l.any fun t=>t.var && decide (t.n=v))=true:=by
 unfold Sh;rw[←Nat.pos_iff_ne_zero,AhB,AfG]
theorem XO{l:List Atm}{m:Nat}(h:∀a∈l,a.args.xs.length≤m)(v:Int):cntA l v≤l.length*m:=by
 induction l with
 |nil=>simp[cntA]
 |cons a r ih=>
  have h1:=Sk a.args.xs v;have h2:=h a (Ae7 ..);have h3:=ih fun b hb=>h b (Ae8 _ hb);simp only[cntA,Ae6,AfP];omega
theorem LT{l:List Atm}{v:Int}:cntA l v≠0↔∃a∈l,AL a v=true:=by
 induction l with
 |nil=>simp[cntA]
 |cons a r ih=>
  have h1:Sh a.args.xs v≠0↔AL a v=true:=Vk;simp only[cntA,Afq,exists_eq_or_imp,←ih,←h1];omega
theorem M7{l:List Trm}{j:Nat}(hj:j<l.length)(v:Int):Sh (l.take (j+1)) v=Sh (l.take j) v+if l[j].var=true∧l[j].n=v then 1 else 0:=by
 rw[Afi hj];simp only[Sh,List.countP_append,List.countP_singleton,Afn,decide_eq_true_eq]
theorem Sm{l:List Atm}{k:Nat}(hk:k<l.length)(v:Int):cntA (l.take (k+1)) v=cntA (l.take k) v+Sh l[k].args.xs v:=by
 rw[Afi hk,OE];simp[cntA]
def M8(l:List Ltl):List Atm:=(l.filter (·.neg)).map (·.atom)
def Gm(l:List Ltl):List Atm:=(l.filter fun x=>!x.neg).map (·.atom)
theorem M9{l:List Ltl}{k:Nat}(hk:k<l.length):M8 (l.take (k+1))=M8 (l.take k)++if l[k].neg=true then [l[k].atom] else []:=by
 rw[Afi hk];simp only[M8,AgD,AfM];congr 1;cases h:l[k].neg<;>simp[h]
theorem Na{l:List Ltl}{k:Nat}(hk:k<l.length):Gm (l.take (k+1))=Gm (l.take k)++if l[k].neg=true then [] else [l[k].atom]:=by
 rw[Afi hk];simp only[Gm,AgD,AfM];congr 1;cases h:l[k].neg<;>simp[h]
theorem Sn(l:List Ltl):(M8 l).length≤l.length:=by unfold M8;rw[Afw];exact AfO ..
theorem LU(l:List Ltl):(Gm l).length≤l.length:=by unfold Gm;rw[Afw];exact AfO ..
theorem LV{l:List Ltl}{a:Atm}:a∈M8 l↔∃x∈l,x.neg=true∧x.atom=a:=by simp[M8,and_assoc]
theorem ER{l:List Ltl}{a:Atm}:a∈Gm l↔∃x∈l,x.neg=false∧x.atom=a:=by simp[Gm,and_assoc]
theorem Jo{r:Rul}{v:Int}:CU r v=true↔cntA (Gm r.body.xs) v≠0:=by
 rw[LT];simp only[CU,AfG,Afn,AgB,ER];constructor
 ·rintro⟨x,hx,hn,hs⟩;exact⟨_,⟨x,hx,hn,rfl⟩,hs⟩
 ·rintro⟨_,⟨x,hx,hn,rfl⟩,hs⟩;exact⟨x,hx,hn,hs⟩
theorem Jp{r:Rul}{v:Int}:Bf r v=true↔cntA (M8 r.body.xs++[r.head]) v≠0∧cntA (Gm r.body.xs) v=0:=by
 have hb:=Jo (r:=r) (v:=v);rw[LT];simp only[Bf,Afn,Agl,AgB,AfG,Afu,Afl];constructor
 ·rintro⟨h1,h2⟩;have h3:cntA (Gm r.body.xs) v=0:=Decidable.byContradiction fun h=>by rw[hb.2 h] at h2;cases h2
  refine⟨?_,h3⟩;rcases h1 with h1|⟨x,hx,hs⟩
  ·exact⟨_,.inr rfl,h1⟩
  ·cases hn:x.neg
   ·have:CU r v=true:=by rw[CU,AfG];exact⟨x,hx,by simp[hn,hs]⟩
    rw[this] at h2;cases h2
   ·exact⟨_,.inl (LV.2 ⟨x,hx,hn,rfl⟩),hs⟩
 ·rintro⟨⟨a,ha,hs⟩,h3⟩;refine⟨?_,?_⟩
  ·rcases ha with ha|rfl
   ·obtain⟨x,hx,_,rfl⟩:=LV.1 ha;exact .inr ⟨x,hx,hs⟩
   ·exact .inl hs
  ·cases h:CU r v
   ·rfl
   ·exact absurd h3 (hb.1 h)
theorem C2{l:List Prd}{b:List Ltl}:bodyErr l b=0↔∀x∈b,checkAtom l x.atom=0:=by
 induction b with
 |nil=>simp[bodyErr]
 |cons x r ih=>
  simp only[bodyErr,Afq,forall_eq_or_imp];by_cases h:checkAtom l x.atom=0
  ·simp[h,ih]
  ·simp[h]
theorem FX{l:List Prd}{b:List Ltl}{k:Nat}(hk:k<b.length)(h1:∀j,j<k→∀hj':j<b.length,checkAtom l b[j].atom=0)(h2:checkAtom l b[k].atom≠0):bodyErr l b=checkAtom l b[k].atom:=by
 induction b generalizing k with
 |nil=>simp at hk
 |cons x r ih=>
  cases k with
  |zero=>simp only[Agd] at h2 ⊢;simp[bodyErr,h2]
  |succ k=>
   have h0:=h1 0 (by omega) (by simp);simp only[Agd] at h0;simp only[bodyErr,h0,Agc];simp only[Agc] at h2;exact ih (by simpa using hk) (fun j _ hj'=>by have:=h1 (j+1) (by omega) (by simpa using hj');simpa using this) h2
theorem Gr{l:List Prd}{a:Atm}(h:checkAtom l a=0){v:Int}(hs:AL a v=true):v=0∨v=1∨v=2:=by
 have h1:B9 a.args.xs=0:=by
  unfold checkAtom at h;split at h
  ·cases h
  ·split at h
   ·cases h
   ·exact h
 unfold B9 at h1;split at h1
 ·rename_i hal;rw[Aff] at hal;simp only[AL,AfG,Afn,decide_eq_true_eq] at hs;obtain⟨t,ht,hv,hn⟩:=hs;have:=hal t ht;unfold termOk at this;rw[if_pos hv] at this;simp only[decide_eq_true_eq] at this;omega
 ·cases h1
theorem KC{α:Type}{p q:α→Bool}{l:List α}{x:α}(hx:x∈l)(hp:p x=false)(hq:q x=true)(hpq:∀y∈l,p y=true→q y=true):(l.filter p).length<(l.filter q).length:=by
 induction l with
 |nil=>cases hx
 |cons y r ih=>
  have hle:∀s:List α,(∀z∈s,p z=true→q z=true)→(s.filter p).length≤(s.filter q).length:=by
   intro s hs;induction s with
   |nil=>simp
   |cons z t iht=>
    have i:=iht fun u hu=>hs u (Ae8 _ hu);have j:=hs z (Ae7 ..);simp only[Agv];split<;>split<;>simp_all<;>omega
  rcases Afq.1 hx with rfl|hx'
  ·have:=hle r fun z hz=>hpq z (Ae8 _ hz);simp only[Agv,hp,hq,if_true,Afy,if_false,Ae6];omega
  ·have i:=ih hx' fun z hz=>hpq z (Ae8 _ hz);have j:=hpq y (Ae7 ..);simp only[Agv];split<;>split<;>simp_all<;>omega
theorem XQ{ents:List MapEntry}{clock:Nat}{es:List (Int×Int)}(hi:Y5 ents clock es){q:MapEntry}(hq:q∈ents):∃v x,(v,x)∈es∧q.key=.int .i64 v∧q.val=.int .i64 x:=by
 have:(q.key,q.val)∈ents.map (fun e=>(e.key,e.val)):=AfE.2 ⟨q,hq,rfl⟩;rw[hi.is] at this;obtain⟨⟨v,x⟩,hp,he⟩:=AfE.1 this;simp only[iV,Prod.mk.injEq] at he;exact⟨v,x,hp,he.1.symm,he.2.symm⟩
theorem Vl{ents:List MapEntry}{clock:Nat}{es:List (Int×Int)}(hi:Y5 ents clock es){v x:Int}(hv:(v,x)∈es):∃q∈ents,q.key=.int .i64 v:=by
 have:iV (v,x)∈ents.map (fun e=>(e.key,e.val)):=by rw[hi.is];exact AfE.2 ⟨_,hv,rfl⟩
 obtain⟨q,hq,he⟩:=AfE.1 this;simp only[iV,Prod.mk.injEq] at he;exact⟨q,hq,he.1⟩
theorem So{α β:Type}{f:α→β}{l:List α}(h:(l.map f).Nodup){a b:α}(ha:a∈l)(hb:b∈l)(hf:f a=f b):a=b:=by
 induction l with
 |nil=>cases ha
 |cons x r ih=>
  simp only[AfQ,List.nodup_cons,AfE,not_exists,not_and] at h;rcases Afq.1 ha with rfl|ha'<;>rcases Afq.1 hb with rfl|hb'
  ·rfl
  ·exact absurd hf.symm (h.1 b hb')
  ·exact absurd hf (h.1 a ha')
  ·exact ih h.2 ha' hb'
end
section
structure Fct where
 pred:Int
 a:Int
 b:Int
 v:Int
deriving DecidableEq
@[reducible] def Fct.enc(x:Fct):List Value:=[.int .i64 x.pred,.int .i64 x.a,.int .i64 x.b,.int .i64 x.v]
@[reducible] def Fct.val(x:Fct):Value:=.agg #[.int .i64 x.pred,.int .i64 x.a,.int .i64 x.b,.int .i64 x.v]
structure Vrs where
 x0:Int
 x1:Int
 x2:Int
deriving DecidableEq
@[reducible] def Vrs.enc(x:Vrs):List Value:=[.int .i64 x.x0,.int .i64 x.x1,.int .i64 x.x2]
@[reducible] def Vrs.val(x:Vrs):Value:=.agg #[.int .i64 x.x0,.int .i64 x.x1,.int .i64 x.x2]
def Vrs.at(x:Vrs)(i:Int):Int:=if i=0 then x.x0 else if i=1 then x.x1 else x.x2
structure Stp where
 rule:Int
 vars:Vrs
deriving DecidableEq
@[reducible] def Stp.enc(x:Stp):List Value:=[.int .i64 x.rule,.int .i64 x.vars.x0,.int .i64 x.vars.x1,.int .i64 x.vars.x2]
@[reducible] def Stp.val(x:Stp):Value:=.agg #[.int .i64 x.rule,.int .i64 x.vars.x0,.int .i64 x.vars.x1,.int .i64 x.vars.x2]
instance :Inhabited Fct:=⟨⟨0,0,0,0⟩⟩
instance :Inhabited Vrs:=⟨⟨0,0,0⟩⟩
instance :Inhabited Stp:=⟨⟨0,default⟩⟩
abbrev Cv(l:Sl Fct)(h:Ae):Prop:=l.Is 4 Fct.enc h
abbrev Aaw(l:Sl Stp)(h:Ae):Prop:=l.Is 4 Stp.enc h
theorem Rd.one{w:World}{b o:Nat}{cs:List Value}(hr:Rd w b o cs){i:Nat}{x:Value}(hx:cs[i]?=some x):Rd w b (o+i) [x]:=fun j v e=>by
 cases j with
 |zero=>simp at e;subst e;exact hr i x hx
 |succ j=>simp at e
theorem Ac8{w:World}{b:Nat}{x:Vrs}(hr:Rd w b 0 x.enc){i:Int}(h0:0≤i)(h1:i<3):Rd w b (0+i.toNat*1) [.int .i64 (x.at i)]:=by
 rw[Nat.mul_one];refine hr.one ?_;have:i=0∨i=1∨i=2:=by omega
 rcases this with rfl|rfl|rfl<;>rfl
def tv(t:Trm)(x:Vrs):Int:=if t.var then x.at t.n else t.n
def Em(a:Atm)(x:Vrs)(i:Nat):Int:=match a.args.xs[i]? with|none=>0|some t=>tv t x
theorem LW{a:Atm}{x:Vrs}{i:Nat}(hi:i<a.args.xs.length):Em a x i=tv a.args.xs[i] x:=by simp[Em,hi]
theorem En{a:Atm}{x:Vrs}{i:Nat}(hi:a.args.xs.length≤i):Em a x i=0:=by simp[Em,hi]
def groundF(a:Atm)(x:Vrs):Fct:=⟨a.pred,Em a x 0,Em a x 1,0⟩
theorem Jq{l:List Trm}:B9 l=0↔∀t∈l,termOk t=true:=by
 unfold B9;rw[←Aff];split<;>simp_all
theorem GG{l:List Trm}(h:B9 l=0){t:Trm}(ht:t∈l)(hv:t.var=true):0≤t.n∧t.n<3:=by
 have:=Jq.1 h t ht;unfold termOk at this;rw[if_pos hv] at this;simpa using this
theorem Jr{l:List Trm}(h:B9 l=0){t:Trm}(ht:t∈l)(hv:t.var=false):0≤t.n∧t.n≤4:=by
 have:=Jq.1 h t ht;unfold termOk at this;rw[hv] at this;simpa using this
end
section
def AE(p:Prd):Bool:=decide (0≤p.arity∧p.arity≤2∧0≤p.kind∧p.kind≤3)
def factFine(l:List Prd)(x:Fct):Bool:=
 decide (within x.pred 0 (l.length-1)) && decide (within x.a 0 4) && decide (within x.b 0 4) && (decide (1≤(Al l x.pred).arity) || decide (x.a=0)) && (decide (2≤(Al l x.pred).arity) || decide (x.b=0)) &&
  decide (checkVal (Al l x.pred).kind x.v=0)
def Ah(x:Fct):Int:=(x.pred*5+x.a)*5+x.b
structure PF(x:Fct):Prop where
 p0:0≤x.pred
 p1:x.pred≤4
 a0:0≤x.a
 a1:x.a≤4
 b0:0≤x.b
 b1:x.b≤4
theorem PF.inj{x y:Fct}(hx:PF x)(hy:PF y)(h:Ah x=Ah y):x.pred=y.pred∧x.a=y.a∧x.b=y.b:=by
 obtain⟨_,_,_,_,_,_⟩:=hx;obtain⟨_,_,_,_,_,_⟩:=hy;unfold Ah at h;omega
theorem PF.place{x:Fct}(hx:PF x):0≤Ah x∧Ah x<125:=by
 obtain⟨_,_,_,_,_,_⟩:=hx;unfold Ah;omega
theorem PF.lt{x y:Fct}(hx:PF x)(hy:PF y):Ah x<Ah y↔x.pred<y.pred∨x.pred=y.pred∧(x.a<y.a∨x.a=y.a∧x.b<y.b):=by
 obtain⟨_,_,_,_,_,_⟩:=hx;obtain⟨_,_,_,_,_,_⟩:=hy;unfold Ah;omega
theorem PF.ext{x y:Fct}(hx:PF x)(hy:PF y)(h:Ah x=Ah y)(hv:x.v=y.v):x=y:=by
 obtain⟨h1,h2,h3⟩:=hx.inj hy h;cases x;cases y;simp_all
def Eo(a b:Int):Int:=if a<b then -1 else if b<a then 1 else 0
def Xo(x y:Fct):Int:=if Eo x.pred y.pred≠0 then Eo x.pred y.pred else if Eo x.a y.a≠0 then Eo x.a y.a else Eo x.b y.b
theorem IM{x y:Fct}(hx:PF x)(hy:PF y):Xo x y<0↔Ah x<Ah y:=by
 rw[hx.lt hy];unfold Xo Eo
 (repeat' split)<;>omega
theorem SB{x y:Fct}(hx:PF x)(hy:PF y):Xo x y=0↔Ah x=Ah y:=by
 constructor
 ·intro h;have:x.pred=y.pred∧x.a=y.a∧x.b=y.b:=by
   unfold Xo Eo at h
   (repeat' split at h)<;>omega
  unfold Ah;omega
 ·intro h;obtain⟨h1,h2,h3⟩:=hx.inj hy h;unfold Xo Eo
  (repeat' split)<;>omega
def GH:List Fct→Bool
 |[]=>true
 |[_]=>true
 |x::y::r=>decide (Ah x<Ah y) && GH (y::r)
abbrev IN(f:List Fct):Prop:=f.Pairwise fun x y=>Ah x<Ah y
theorem Dv:∀f:List Fct,GH f=true↔IN f
 |[]=>by simp[GH,IN]
 |[x]=>by simp[GH,IN]
 |x::y::r=>by
  rw[GH,Afn,decide_eq_true_eq,Dv (y::r)];constructor
  ·rintro⟨h,hs⟩;refine AfB.2 ⟨fun z hz=>?_,hs⟩;rcases Afq.1 hz with rfl|hz
   ·exact h
   ·exact Ah6 h ((AfB.1 hs).1 z hz)
  ·intro hs;obtain⟨h1,h2⟩:=AfB.1 hs;exact⟨h1 y Ae7,h2⟩
theorem SC{f:List Fct}(h:∀i,(hi:i+1<f.length)→Ah f[i]<Ah f[i+1]):IN f:=by
 rw[←Dv];induction f with
 |nil=>rfl
 |cons x r ih=>
  cases r with
  |nil=>rfl
  |cons y r=>
   rw[GH,Afn,decide_eq_true_eq];exact⟨h 0 (by simp),ih fun i hi=>h (i+1) (by simp only[Ae6] at hi ⊢;omega)⟩
theorem IN.get{f:List Fct}(h:IN f){i j:Nat}(hij:i<j)(hj:j<f.length):Ah f[i]<Ah f[j]:=AhL.1 h i j (by omega) hj hij
def G6(l:List Prd)(f:List Fct):Bool:=f.all (factFine l) && GH f
def Bx(l:List Prd):Bool:=decide (5<l.length) || !(l.all AE)
def checkFacts(l:List Prd)(f:List Fct):Int:=if Bx l then 2 else if G6 l f then 0 else 1
structure FOk(l:List Prd)(f:List Fct):Prop where
 len:l.length≤5
 preds:∀p∈l,AE p=true
 fine:∀x∈f,factFine l x=true
 srt:IN f
theorem ES{l:List Prd}{f:List Fct}:checkFacts l f=0↔FOk l f:=by
 unfold checkFacts;cases h:Bx l<;>cases h2:G6 l f<;>simp only[if_true,Afy,if_false]
 ·refine⟨fun h=>(by omega),fun h3=>?_⟩;have:G6 l f=true:=by simp only[G6,Afn,Aff];exact⟨h3.fine,(Dv f).2 h3.srt⟩
  rw[this] at h2;cases h2
 ·simp only[Bx,Agx,decide_eq_false_iff_not,AgE,Aff] at h;simp only[G6,Afn,Aff] at h2;exact⟨fun _=>⟨by omega,h.2,h2.1,(Dv f).1 h2.2⟩,fun _=>trivial⟩
 all_goals
  refine⟨fun h=>(by omega),fun h3=>?_⟩;have:Bx l=false:=by simp only[Bx,Agx,decide_eq_false_iff_not,AgE,Aff];exact⟨by have:=h3.len;omega,h3.preds⟩
  rw[this] at h;cases h
theorem Ct{l:List Prd}{x:Fct}:factFine l x=true↔(0≤x.pred∧x.pred<l.length)∧(0≤x.a∧x.a≤4)∧(0≤x.b∧x.b≤4)∧(1≤(Al l x.pred).arity∨x.a=0)∧(2≤(Al l x.pred).arity∨x.b=0)∧VOk (Al l x.pred).kind x.v:=by
 simp only[factFine,Afn,Agl,decide_eq_true_eq];unfold within;constructor
 ·rintro⟨⟨⟨⟨⟨h1,h2⟩,h3⟩,h4⟩,h5⟩,h6⟩;exact⟨⟨h1.1,by omega⟩,h2,h3,h4,h5,h6⟩
 ·rintro⟨h1,h2,h3,h4,h5,h6⟩;exact⟨⟨⟨⟨⟨⟨h1.1,by omega⟩,h2⟩,h3⟩,h4⟩,h5⟩,h6⟩
theorem By{l:List Prd}{x:Fct}(hl:l.length≤5)(h:factFine l x=true):PF x:=by
 obtain⟨h1,h2,h3,_⟩:=Ct.1 h;exact⟨h1.1,by omega,h2.1,h2.2,h3.1,h3.2⟩
theorem FOk.pf{l:List Prd}{f:List Fct}(h:FOk l f):∀x∈f,PF x:=fun x hx=>By h.len (h.fine x hx)
def lkF(f:List Fct)(p:Int):Option Int:=(f.find? fun y=>decide (Ah y=p)).map (·.v)
def findF(f:List Fct)(x:Fct):Int×Bool:=((lkF f (Ah x)).getD 0,(lkF f (Ah x)).isSome)
theorem GI(p:Int):lkF [] p=none:=rfl
theorem Bz(y:Fct)(r:List Fct)(p:Int):lkF (y::r) p=if Ah y=p then some y.v else lkF r p:=by
 unfold lkF;rw[List.find?_cons];by_cases h:Ah y=p
 ·simp[h]
 ·simp[h]
theorem DV{f:List Fct}{p:Int}:lkF f p=none↔∀y∈f,Ah y≠p:=by
 induction f with
 |nil=>simp[GI]
 |cons y r ih=>
  rw[Bz];split
  ·rename_i h;simp[h]
  ·rename_i h;rw[ih];simp[h]
theorem IP{f:List Fct}(hs:IN f){p v:Int}:lkF f p=some v↔∃y∈f,Ah y=p∧y.v=v:=by
 induction f with
 |nil=>simp[GI]
 |cons y r ih=>
  obtain⟨h1,h2⟩:=AfB.1 hs;rw[Bz];split
  ·rename_i h;constructor
   ·intro e;exact⟨y,Ae7,h,by simpa using e⟩
   ·rintro⟨z,hz,e1,e2⟩;rcases Afq.1 hz with rfl|hz
    ·rw[e2]
    ·have:=h1 z hz;omega
  ·rename_i h;rw[ih h2];constructor
   ·rintro⟨z,hz,e⟩;exact⟨z,Ae8 _ hz,e⟩
   ·rintro⟨z,hz,e⟩;rcases Afq.1 hz with rfl|hz
    ·exact absurd e.1 h
    ·exact⟨z,hz,e⟩
theorem DB{f:List Fct}{p v:Int}(h:lkF f p=some v):∃y∈f,Ah y=p∧y.v=v:=by
 unfold lkF at h;cases hf:f.find? fun y=>decide (Ah y=p) with
 |none=>rw[hf] at h;simp at h
 |some y=>
  rw[hf] at h;refine⟨y,List.mem_of_find?_eq_some hf,?_,by simpa using h⟩;have:=List.find?_some hf;simpa using this
theorem Es{f:List Fct}(hs:IN f){y:Fct}(hy:y∈f):lkF f (Ah y)=some y.v:=(IP hs).2 ⟨y,hy,rfl,rfl⟩
theorem SD:∀{f g:List Fct},(∀x∈f,PF x)→(∀x∈g,PF x)→IN f→IN g→(∀p,lkF f p=lkF g p)→f=g
 |[],[],_,_,_,_,_=>rfl
 |[],y::r,_,_,_,_,h=>by have:=h (Ah y);rw[GI,Bz,if_pos rfl] at this;cases this
 |x::s,[],_,_,_,_,h=>by have:=h (Ah x);rw[GI,Bz,if_pos rfl] at this;cases this
 |x::s,y::r,pf,pg,hf,hg,h=>by
  obtain⟨f1,f2⟩:=AfB.1 hf;obtain⟨g1,g2⟩:=AfB.1 hg;have hx:=h (Ah x);have hy:=h (Ah y);rw[Bz,if_pos rfl] at hx;rw[Bz y,if_pos rfl] at hy;obtain⟨z,hz,e1,e2⟩:=(IP hg).1 hx.symm;obtain⟨z',hz',e1',e2'⟩:=(IP hf).1 hy;have hp:Ah x=Ah y:=by
   rcases Afq.1 hz with rfl|hz
   ·exact e1.symm
   ·rcases Afq.1 hz' with rfl|hz'
    ·exact e1'
    ·have:=g1 z hz;have:=f1 z' hz';omega
  rw[hp,Bz,if_pos rfl] at hx;have hxy:x=y:=(pf x Ae7).ext (pg y Ae7) hp (by simpa using hx);rw[hxy];congr 1;refine SD (fun z hz=>pf z (Ae8 _ hz)) (fun z hz=>pg z (Ae8 _ hz)) f2 g2 fun p=>?_;have:=h p;rw[Bz,Bz,hp] at this;by_cases e:Ah y=p
  ·have a:lkF s p=none:=DV.2 fun z hz=>by have:=f1 z hz;omega
   have b:lkF r p=none:=DV.2 fun z hz=>by have:=g1 z hz;omega
   rw[a,b]
  ·rwa [if_neg e,if_neg e] at this
def Dw(k:Int):List Fct→Fct→List Fct×Bool
 |[],x=>([x],true)
 |y::r,x=>if Ah y=Ah x then (⟨y.pred,y.a,y.b,joinV k y.v x.v⟩::r,decide (joinV k y.v x.v≠y.v)) else if Ah x<Ah y then (x::y::r,true) else (y::(Dw k r x).1,(Dw k r x).2)
def ZC(k:Int)(o:Option Int)(x:Fct):Int:=match o with|none=>x.v|some v=>joinV k v x.v
theorem Pv{k:Int}{x:Fct}:∀{f:List Fct},IN f→∀p,lkF (Dw k f x).1 p=if p=Ah x then some (ZC k (lkF f p) x) else lkF f p
 |[],_,p=>by
  rw[Dw,Bz,GI];by_cases h:p=Ah x
  ·rw[if_pos h.symm,if_pos h];rfl
  ·rw[if_neg (Ne.symm h),if_neg h]
 |y::r,hs,p=>by
  obtain⟨h1,h2⟩:=AfB.1 hs;rw[Dw];split
  ·rename_i he;show lkF (_::r) p=_;rw[Bz,Bz];have hpl:Ah ⟨y.pred,y.a,y.b,joinV k y.v x.v⟩=Ah y:=rfl;rw[hpl];by_cases h:p=Ah x
   ·rw[if_pos (he.trans h.symm),if_pos h,if_pos (he.trans h.symm)];rfl
   ·rw[if_neg (by omega),if_neg h,if_neg (by omega)]
  ·rename_i he;split
   ·rename_i hlt;show lkF (x::y::r) p=_;rw[Bz];by_cases h:p=Ah x
    ·have:lkF (y::r) p=none:=DV.2 fun z hz=>by
      rcases Afq.1 hz with rfl|hz
      ·omega
      ·have:=h1 z hz;omega
     rw[if_pos h.symm,if_pos h,this];rfl
    ·rw[if_neg (Ne.symm h),if_neg h]
   ·rename_i hge;show lkF (y::(Dw k r x).1) p=_;rw[Bz,Bz,Pv h2];by_cases h:p=Ah x
    ·rw[if_neg (by omega),if_pos h,if_pos h,if_neg (by omega)]
    ·rw[if_neg h,if_neg h]
theorem IQ{k:Int}{x z:Fct}:∀{f:List Fct},z∈(Dw k f x).1→z∈f∨z=x∨∃y∈f,Ah y=Ah x∧z=⟨y.pred,y.a,y.b,joinV k y.v x.v⟩
 |[],h=>by rw[Dw] at h;exact .inr (.inl (by simpa using h))
 |y::r,h=>by
  rw[Dw] at h;split at h
  ·rename_i he;rcases Afq.1 h with rfl|h
   ·exact .inr (.inr ⟨y,Ae7,he,rfl⟩)
   ·exact .inl (Ae8 _ h)
  ·split at h
   ·rcases Afq.1 h with rfl|h
    ·exact .inr (.inl rfl)
    ·exact .inl h
   ·rcases Afq.1 h with rfl|h
    ·exact .inl Ae7
    ·rcases IQ h with h|h|⟨y',h1,h2⟩
     ·exact .inl (Ae8 _ h)
     ·exact .inr (.inl h)
     ·exact .inr (.inr ⟨y',Ae8 _ h1,h2⟩)
theorem Pw{k:Int}{x:Fct}:∀{f:List Fct},IN f→IN (Dw k f x).1
 |[],_=>by rw[Dw];exact Ag9 _ _
 |y::r,hs=>by
  obtain⟨h1,h2⟩:=AfB.1 hs;rw[Dw];split
  ·exact AfB.2 ⟨fun z hz=>h1 z hz,h2⟩
  ·rename_i he;split
   ·rename_i hlt;refine AfB.2 ⟨fun z hz=>?_,hs⟩;rcases Afq.1 hz with rfl|hz
    ·exact hlt
    ·exact Ah6 hlt (h1 z hz)
   ·rename_i hge;refine AfB.2 ⟨fun z hz=>?_,Pw h2⟩;rcases IQ hz with hz|rfl|⟨y',hy',e,rfl⟩
    ·exact h1 z hz
    ·omega
    ·show Ah y<Ah y';exact h1 y' hy'
theorem LX{k:Int}{x:Fct}:∀{f:List Fct},IN f→(Dw k f x).2=decide (lkF f (Ah x)≠some (ZC k (lkF f (Ah x)) x))
 |[],_=>by simp[Dw,GI,ZC]
 |y::r,hs=>by
  obtain⟨h1,h2⟩:=AfB.1 hs;rw[Dw,Bz];split
  ·simp[ZC,eq_comm]
  ·rename_i he;split
   ·rename_i hlt;have:lkF r (Ah x)=none:=DV.2 fun z hz=>by have:=h1 z hz;omega
    rw[this];simp
   ·exact LX h2
theorem G7{k:Int}{x:Fct}:∀{f:List Fct},(Dw k f x).2=false→(Dw k f x).1=f
 |[],h=>by simp[Dw] at h
 |y::r,h=>by
  rw[Dw] at h ⊢;split
  ·rename_i he;rw[if_pos he] at h;have:joinV k y.v x.v=y.v:=by simpa using h
   show _::r=y::r;rw[this]
  ·rename_i he;rw[if_neg he] at h;split
   ·rename_i hlt;rw[if_pos hlt] at h;cases h
   ·rename_i hlt;rw[if_neg hlt] at h;show y::_=y::r;rw[G7 h]
theorem DW{l:List Prd}{f:List Fct}{x:Fct}(h:FOk l f)(hx:factFine l x=true):FOk l (Dw (Al l x.pred).kind f x).1:=by
 refine⟨h.len,h.preds,fun z hz=>?_,Pw h.srt⟩;rcases IQ hz with hz|rfl|⟨y,hy,e,rfl⟩
 ·exact h.fine z hz
 ·exact hx
 ·have hpy:=(By h.len (h.fine y hy)).inj (By h.len hx) e;have f1:=Ct.1 (h.fine y hy);have f2:=Ct.1 hx;refine Ct.2 ⟨f1.1,f1.2.1,f1.2.2.1,f1.2.2.2.1,f1.2.2.2.2.1,?_⟩;show VOk (Al l y.pred).kind _;rw[hpy.1];exact LS (by have:=f1.2.2.2.2.2;rwa [hpy.1] at this) f2.2.2.2.2.2
def DC(f:List Fct)(x:Fct):Nat:=(f.takeWhile fun y=>decide (Ah y<Ah x)).length
theorem Js{x:Fct}:∀{f:List Fct} {k:Nat},k≤f.length→(∀m,(h:m<f.length)→m<k→Ah f[m]<Ah x)→(∀(h:k<f.length),¬Ah f[k]<Ah x)→DC f x=k
 |[],k,hk,_,_=>by simp at hk;subst hk;rfl
 |y::r,0,_,_,h2=>by
  have:=h2 (by simp);simp only[Agd] at this;simp[DC,this]
 |y::r,k+1,hk,h1,h2=>by
  have h0:=h1 0 (by simp) (by omega);simp only[Agd] at h0;have:=Js (f:=r) (x:=x) (k:=k) (by simpa using hk) (fun m hm hmk=>h1 (m+1) (by simpa using hm) (by omega)) (fun hkl=>h2 (by simpa using hkl));unfold DC at this ⊢;rw[AhC,if_pos (by simpa using h0),Ae6,this]
theorem SE{f:List Fct}{x:Fct}:DC f x≤f.length:=by unfold DC;exact(List.takeWhile_sublist _).length_le
theorem Fq{y x:Fct}{r:List Fct}(h:Ah y<Ah x):DC (y::r) x=DC r x+1:=by
 unfold DC;rw[AhC,if_pos (by simpa using h),Ae6]
theorem Fr{y x:Fct}{r:List Fct}(h:¬Ah y<Ah x):DC (y::r) x=0:=by
 unfold DC;rw[AhC,if_neg (by simpa using h)];rfl
def isF(f:List Fct)(x:Fct):Bool:=(lkF f (Ah x)).isSome
theorem GJ{x:Fct}:∀{f:List Fct},IN f→(isF f x=true↔∃h:DC f x<f.length,Ah f[DC f x]=Ah x)
 |[],_=>by simp[isF,GI]
 |y::r,hs=>by
  obtain⟨h1,h2⟩:=AfB.1 hs;unfold isF;rw[Bz];by_cases hlt:Ah y<Ah x
  ·rw[if_neg (by omega)];have ih:=GJ (x:=x) h2;unfold isF at ih;rw[ih];simp only[Fq hlt,Ae6,Agc];constructor
   ·rintro⟨a,b⟩;exact⟨by omega,b⟩
   ·rintro⟨a,b⟩;exact⟨by omega,b⟩
  ·simp only[Fr hlt,Ae6,Agd];by_cases he:Ah y=Ah x
   ·rw[if_pos he];simp[he]
   ·rw[if_neg he];have:lkF r (Ah x)=none:=DV.2 fun z hz=>by have:=h1 z hz;omega
    rw[this];simp[he]
theorem SG{f:List Fct}{x:Fct}(hs:IN f)(h:DC f x<f.length)(he:Ah f[DC f x]=Ah x):lkF f (Ah x)=some f[DC f x].v:=
 (IP hs).2 ⟨_,Ae5 h,he,rfl⟩
theorem IR{k:Int}{x:Fct}:∀{f:List Fct},IN f→isF f x=false→Dw k f x=(f.take (DC f x)++x::f.drop (DC f x),true)
 |[],_,_=>by simp[Dw,DC]
 |y::r,hs,hi=>by
  obtain⟨h1,h2⟩:=AfB.1 hs;have hne:Ah y≠Ah x:=fun e=>by simp[isF,Bz,e] at hi
  rw[Dw,if_neg hne];by_cases hlt:Ah y<Ah x
  ·rw[if_neg (by omega),Fq hlt,IR h2 (by simpa[isF,Bz,hne] using hi)];rfl
  ·rw[if_pos (by omega),Fr hlt];rfl
theorem LY{k:Int}{x:Fct}:∀{f:List Fct},IN f→∀(h:DC f x<f.length),Ah f[DC f x]=Ah x→
  Dw k f x=(f.set (DC f x) ⟨f[DC f x].pred,f[DC f x].a,f[DC f x].b,joinV k f[DC f x].v x.v⟩,decide (joinV k f[DC f x].v x.v≠f[DC f x].v))
 |[],_,h,_=>by simp at h
 |y::r,hs,h,he=>by
  obtain⟨h1,h2⟩:=AfB.1 hs;by_cases hlt:Ah y<Ah x
  ·have e:=Fq (r:=r) hlt;simp only[e,Ae6,Agc] at h he ⊢;rw[Dw,if_neg (by omega),if_neg (by omega),LY h2 (by omega) he];simp
  ·have e:=Fr (r:=r) hlt;simp only[e,Agd] at he ⊢;rw[Dw,if_pos he];simp
def A8(l:List Prd)(f g:List Fct):Bool:=f.all fun x=>(lkF g (Ah x)).isSome && decide (joinV (Al l x.pred).kind x.v ((lkF g (Ah x)).getD 0)=(lkF g (Ah x)).getD 0)
theorem A1{l:List Prd}{f g:List Fct}:A8 l f g=true↔∀x∈f,∃v,lkF g (Ah x)=some v∧LeV (Al l x.pred).kind x.v v:=by
 unfold A8;rw[Aff];refine forall_congr' fun x=>imp_congr_right fun _=>?_;cases h:lkF g (Ah x)<;>simp[LeV]
end
section
theorem Da{l:List Prd}{x:Fct}(h:factFine l x=true):VOk (Al l x.pred).kind x.v:=(Ct.1 h).2.2.2.2.2
theorem DD{l:List Prd}{x y:Fct}(hl:l.length≤5)(hx:factFine l x=true)(hy:factFine l y=true)(h:Ah x=Ah y):x.pred=y.pred:=((By hl hx).inj (By hl hy) h).1
theorem FOk.look{l:List Prd}{f:List Fct}(h:FOk l f){x:Fct}(hx:factFine l x=true){v:Int}(hv:lkF f (Ah x)=some v):VOk (Al l x.pred).kind v:=by
 obtain⟨y,hy,e,rfl⟩:=DB hv;have:=Da (h.fine y hy);rwa [DD h.len (h.fine y hy) hx e] at this
section
variable {l:List Prd}{f g:List Fct}{x y:Fct}
abbrev SH(l:List Prd)(f:List Fct)(x:Fct):List Fct:=(Dw (Al l x.pred).kind f x).1
theorem FY(h:FOk l f)(p:Int):lkF (SH l f x) p=if p=Ah x then some (ZC (Al l x.pred).kind (lkF f p) x) else lkF f p:=Pv h.srt p
theorem FOk.ext(hf:FOk l f)(hg:FOk l g)(h:∀p,lkF f p=lkF g p):f=g:=SD hf.pf hg.pf hf.srt hg.srt h
theorem Jt(hf:FOk l f)(hx:factFine l x=true):A8 l f (SH l f x)=true:=by
 refine A1.2 fun z hz=>?_;rw[FY hf];have hzf:=hf.fine z hz;split
 ·rename_i e;rw[Es hf.srt hz];refine⟨_,rfl,?_⟩;have:=DD hf.len hzf hx e;rw[this];have hv:=Da hzf;rw[this] at hv;exact Pu hv (Da hx)
 ·exact⟨z.v,Es hf.srt hz,Ej (Da hzf)⟩
theorem Nc(hf:FOk l f)(hx:factFine l x=true):A8 l [x] (SH l f x)=true:=by
 refine A1.2 fun z hz=>?_;obtain rfl:z=x:=by simpa using hz
 rw[FY hf,if_pos rfl];refine⟨_,rfl,?_⟩;have hv:=Da hx;cases h:lkF f (Ah z) with
 |none=>exact Ej hv
 |some v=>
  have:=hf.look hx h;show joinV _ z.v (joinV _ v z.v)=joinV _ v z.v;rw[FW this hv];exact Pu hv this
theorem OF(hl:l.length≤5)(hp:∀p∈l,AE p=true)(hx:factFine l x=true):FOk l [x]:=⟨hl,hp,fun z hz=>by rw[Afl.1 hz];exact hx,Ag9 _ _⟩
theorem XR(hf:FOk l f):(Dw (Al l x.pred).kind f x).2=decide (SH l f x≠f):=by
 cases h:(Dw (Al l x.pred).kind f x).2
 ·rw[show SH l f x=f from G7 h];simp
 ·symm;rw[decide_eq_true_eq];intro e;rw[LX hf.srt,decide_eq_true_eq] at h;have:=FY (x:=x) hf (Ah x);rw[if_pos rfl,e] at this;exact h this
theorem FZ(hf:FOk l f):A8 l f f=true:=A1.2 fun z hz=>⟨z.v,Es hf.srt hz,Ej (Da (hf.fine z hz))⟩
theorem DE{k:List Fct}(hf:FOk l f)(hg:FOk l g)(hk:FOk l k)(h1:A8 l f g=true)(h2:A8 l g k=true):A8 l f k=true:=A1.2 fun z hz=>by
 have hzf:=hf.fine z hz;obtain⟨v,hv,l1⟩:=A1.1 h1 z hz;obtain⟨z',hz',e,rfl⟩:=DB hv;obtain⟨u,hu,l2⟩:=A1.1 h2 z' hz';have ep:=DD hf.len (hg.fine z' hz') hzf e;rw[e] at hu;rw[ep] at l2;have hv':=Da (hg.fine z' hz');rw[ep] at hv';exact⟨u,hu,Jm (Da hzf) hv' (hk.look hzf hu) l1 l2⟩
theorem F0(hf:FOk l f)(hg:FOk l g)(h1:A8 l f g=true)(h2:A8 l g f=true):f=g:=by
 have key:∀{f g:List Fct},FOk l f→FOk l g→A8 l f g=true→A8 l g f=true→∀p v,lkF f p=some v→lkF g p=some v:=fun {f g} hf hg h1 h2 p v hv=>by
  obtain⟨z,hz,rfl,rfl⟩:=DB hv;obtain⟨u,hu,l1⟩:=A1.1 h1 z hz;obtain⟨z',hz',e,rfl⟩:=DB hu;obtain⟨t,ht,l2⟩:=A1.1 h2 z' hz';rw[e,hv] at ht;cases ht;have ep:=DD hf.len (hg.fine z' hz') (hf.fine z hz) e;rw[ep] at l2;have hv':=Da (hg.fine z' hz');rw[ep] at hv';rw[hu,M5 (Da (hf.fine z hz)) hv' l1 l2]
 refine hf.ext hg fun p=>?_;cases h:lkF f p with
 |some v=>exact(key hf hg h1 h2 p v h).symm
 |none=>
  cases h':lkF g p with
  |none=>rfl
  |some v=>rw[key hg hf h2 h1 p v h'] at h;cases h
end
end
section
def Sl.er{α:Type}(s:Sl α):Sl α:=⟨none,0,s.xs⟩
def Atm.er(a:Atm):Atm:=⟨a.pred,a.args.er⟩
def Ltl.er(x:Ltl):Ltl:=⟨x.neg,x.atom.er⟩
def Rul.er(r:Rul):Rul:=⟨r.head.er,r.src,r.n,⟨none,0,r.body.xs.map Ltl.er⟩⟩
def Prg.er(p:Prg):Prg:=⟨p.preds.er,⟨none,0,p.rules.xs.map Rul.er⟩⟩
theorem BQ(l:List Prd)(a:Atm):checkAtom l a.er=checkAtom l a:=rfl
theorem OG(a:Atm)(v:Int):AL a.er v=AL a v:=rfl
theorem Ra(l:List Prd)(b:List Ltl):bodyErr l (b.map Ltl.er)=bodyErr l b:=by
 induction b with
 |nil=>rfl
 |cons x r ih=>simp only[AfQ,bodyErr,ih,Ltl.er,BQ]
theorem SI(f:Ltl→Bool)(hf:∀x,f x.er=f x)(b:List Ltl):(b.map Ltl.er).any f=b.any f:=by
 rw[Ah7];congr 1;funext x;exact hf x
theorem HY(r:Rul)(v:Int):Bf r.er v=Bf r v:=by
 unfold Bf CU Rul.er;rw[SI _ (fun x=>rfl),SI _ (fun x=>rfl),OG]
theorem Vm{r:Rul}{k:Int}(h0:0≤k)(h1:k<r.body.xs.length):CO r.er k=(CO r k).er:=by
 have:k.toNat<r.body.xs.length:=by omega
 simp[CO,Rul.er,Ae3,this]
theorem Nd(l:List Prd)(r:Rul):checkRule l r.er=checkRule l r:=by
 have h1:r.er.head=r.head.er:=rfl;have h2:r.er.body.xs=r.body.xs.map Ltl.er:=rfl;have h3:r.er.src=r.src:=rfl;have h4:r.er.n=r.n:=rfl;have h5:r.head.er.pred=r.head.pred:=rfl;unfold checkRule;rw[h1,h2,h3,h4,h5,BQ,Ra,HY,HY,HY,Afw];by_cases c:r.src < -1∨(r.body.xs.length:Int)≤r.src
 ·simp only[if_pos c]
 ·by_cases h0:0≤r.src
  ·rw[Vm h0 (by omega)];rfl
  ·have e:∀p:Prop,(0≤r.src∧p)↔False:=fun p=>⟨fun h=>h0 h.1,False.elim⟩;simp only[e]
def Sl.cut{α:Type}(s:Sl α)(k l h:Nat):Sl α:=⟨some (if s.cap=l then ⟨s.blk,s.off,none⟩ else ⟨s.blk,s.off+l*k,none⟩),s.cap-l,(s.xs.take h).drop l⟩
theorem Sl.In.cut{α:Type}{s:Sl α}{k:Nat}{enc:α→List Value}{h:Ae}(hs:s.In k enc h){l hi:Nat}(hc:s.xs.length≤s.cap):(s.cut k l hi).In k enc h:=fun i x hx=>by
 simp only[Sl.cut,Af9,AfF] at hx;split at hx
 ·have h1:=hs _ _ hx;have h2:=(Ae9.1 hx).1;have hne:s.cap≠l:=by omega
  refine⟨by simp[Sl.cut,hne,Sl.blk,Sl.off],?_⟩;have e1:(s.cut k l hi).blk=s.blk:=by simp[Sl.cut,hne,Sl.blk]
  have e2:(s.cut k l hi).off=s.off+l*k:=by
   have:(s.cut k l hi).off=((if s.cap=l then (⟨s.blk,s.off,none⟩:Addr) else ⟨s.blk,s.off+l*k,none⟩)).off:=rfl;rw[this,if_neg hne]
  rw[e1,e2,show s.off+l*k+i*k=s.off+(l+i)*k by rw[AfP];omega];exact h1.2
 ·cases hx
theorem Sl.Is.cut{α:Type}{s:Sl α}{k:Nat}{enc:α→List Value}{h:Ae}(hs:s.Is k enc h){l hi:Nat}(hc:s.xs.length≤s.cap):(s.cut k l hi).Is k enc h:=
 ⟨hs.el.cut hc,by have:=hs.small;simp only[Sl.cut,AfD,Afj];omega⟩
theorem Y.cut{P:Program}{e:Env}{w:World}{d:Option Nat}{t:TypeId}{pos:String}{af:Array Edge}{g:Option (Nat×Bool)}{α:Type}{s:Sl α}{x:Operand}{T el ks:TypeId}{lo hi:Option Operand}{l h:Nat}(hT:Und P T (.slice el))(hk:∀w,(sizeOf el).run P w=.ok ks w)
  (ha:s.at_=some ⟨s.blk,s.off,none⟩) (hc:s.xs.length≤s.cap) (hx:ev e x=s.val)
  (hl:lo=none∧l=0∨∃q k,lo=some q∧ev e q=.int k (l:Int)) (hh:hi=none∧h=s.xs.length∨∃q k,hi=some q∧ev e q=.int k (h:Int)) (h1:l≤h) (h2:h≤s.xs.length) :
  Y P ⟨d,.slice T x lo hi none,t,pos,af,g⟩ e w (s.cut ks l h).val:=by
 have hx':ev e x=.slice (some ⟨s.blk,s.off,none⟩) s.xs.length s.cap:=by rw[hx,Sl.val,ha]
 refine(AcF hT hk hx' hl hh h1 (by omega)).is ?_;simp only[Sl.cut,Sl.val,AfD,Afj];rw[Ags h2]
def SlS{α:Type}(k:Nat)(enc:α→List Value)(xs:List α):Sp:=fun u h=>∃s:Sl α,u=s.val∧s.xs=xs∧s.Is k enc h
theorem SlS.mono{α:Type}{k:Nat}{enc:α→List Value}{xs:List α}:Bt (SlS k enc xs):=fun _ _ _ hl ⟨s,a,b,c⟩=>⟨s,a,b,c.le hl⟩
def Y8(p:Int)(xs:List Trm):Sp:=fun u h=>∃a:Atm,u=a.val∧a.er=⟨p,⟨none,0,xs⟩⟩∧a.In h
theorem Y8.mono{p:Int}{xs:List Trm}:Bt (Y8 p xs):=fun _ _ _ hl ⟨s,a,b,c⟩=>⟨s,a,b,c.le hl⟩
theorem nilIs{α:Type}{k:Nat}{enc:α→List Value}{h:Ae}:(⟨none,0,[]⟩:Sl α).Is k enc h:=⟨fun i x hx=>by simp at hx,by simp⟩
def aT(p:Int)(l:List Trm):Atm:=⟨p,⟨none,0,l⟩⟩
@[reducible] def tV(n:Int):Trm:=⟨true,n⟩
@[reducible] def tC(n:Int):Trm:=⟨false,n⟩
def bEdge:ByteArray:=⟨#[101,100,103,101]⟩
def bFar:ByteArray:=⟨#[102,97,114]⟩
def bLone:ByteArray:=⟨#[108,111,110,101]⟩
def rT(h:Atm)(src n:Int)(b:List Ltl):Rul:=⟨h,src,n,⟨none,0,b⟩⟩
def AM:Prg:=⟨⟨none,0,[⟨bEdge,2,0⟩,⟨bFar,2,2⟩,⟨bLone,1,0⟩]⟩,⟨none,0,[
 rT (aT 0 [tC 0,tC 1]) (-1) 0 [],rT (aT 0 [tC 1,tC 2]) (-1) 0 [],rT (aT 0 [tC 2,tC 0]) (-1) 0 [],rT (aT 0 [tC 3,tC 0]) (-1) 0 [],
 rT (aT 1 [tV 0,tV 1]) (-1) 1 [⟨false,aT 0 [tV 0,tV 1]⟩],
 rT (aT 1 [tV 0,tV 2]) 0 1 [⟨false,aT 1 [tV 0,tV 1]⟩,⟨false,aT 0 [tV 1,tV 2]⟩],
 rT (aT 2 [tV 0]) (-1) 0 [⟨false,aT 0 [tV 0,tV 1]⟩,⟨true,aT 1 [tV 0,tV 0]⟩]]⟩⟩
structure Cl(p:Prg)(h:Ae):Prop where
 is:p.In h
 er:p.er=AM
 cap:∀x∈p.rules.xs,x.body.xs.length≤x.body.cap
end
section
def AX(rs:List Rul):List (Int×Ltl):=rs.flatMap fun r=>r.body.xs.map fun x=>(r.head.pred,x)
def lv(L:List Int)(i:Int):Int:=L.getD i.toNat 0
def ng(x:Ltl):Int:=if x.neg then 1 else 0
def lst(L:List Int)(c:Int×Ltl):Int:=lv L c.2.atom.pred+ng c.2
def SK(L:List Int)(c:Int×Ltl):Prop:=lst L c≤lv L c.1
structure InR(cs:List (Int×Ltl))(n:Nat):Prop where
 h:∀c∈cs,0≤c.1∧c.1<n
 b:∀c∈cs,0≤c.2.atom.pred∧c.2.atom.pred<n
structure Sol(cs:List (Int×Ltl))(n:Nat)(L:List Int):Prop where
 len:L.length=n
 pos:∀i,0≤lv L i
 sat:∀c∈cs,SK L c
structure DF(cs:List (Int×Ltl))(n:Nat)(L:List Int):Prop where
 sol:Sol cs n L
 least:∀M,Sol cs n M→∀i,lv L i≤lv M i
def Ju(cs:List (Int×Ltl))(n:Nat):Option (List Int)→Prop
 |some L=>DF cs n L
 |none=>∀M,¬Sol cs n M
theorem Px{L:List Int}{i:Nat}(h:i<L.length):lv L i=L[i]:=by simp[lv,Ae3,h]
theorem ZD{L M:List Int}(hl:L.length=M.length)(h:∀i,lv L i=lv M i):L=M:=by
 apply List.ext_getElem hl;intro i h1 h2;have:=h i;rwa [Px h1,Px h2] at this
theorem OH(x:Ltl):0≤ng x∧ng x≤1:=by unfold ng;split<;>omega
theorem Nf{L:List Int}{i:Int}(h0:0≤i)(h1:i<L.length)(v j:Int)(hj:0≤j):lv (L.set i.toNat v) j=if j=i then v else lv L j:=by
 simp only[lv,Ae3,Ahe];by_cases e:j=i
 ·subst e;simp[show j.toNat<L.length by omega]
 ·rw[if_neg e,if_neg (by omega)]
theorem Py(L:List Int){j:Int}(hj:j<0):lv L j=lv L 0:=by simp[lv,show j.toNat=0 by omega]
theorem LZ(n:Nat)(i:Int):lv (List.replicate n 0) i=0:=by
 simp only[lv,Ae3,List.getElem?_replicate];split<;>rfl
def Y9(M:List Int)(v:Int):Int:=(M.countP fun u=>decide (u<v):Nat)
theorem SL{M:List Int}{u v:Int}(huv:u<v){i:Nat}(hi:i<M.length)(he:M[i]=u):(M.countP fun x=>decide (x<u))<M.countP fun x=>decide (x<v):=by
 induction M generalizing i with
 |nil=>simp at hi
 |cons a M ih=>
  have mono:∀l:List Int,(l.countP fun x=>decide (x<u))≤l.countP fun x=>decide (x<v):=fun l=>AhY (fun x _ hx=>by simp at hx ⊢;omega);cases i with
  |zero=>
   simp at he;subst he;have:=mono M;simp[huv];omega
  |succ i=>
   have:=ih (by simpa using hi) (by simpa using he);simp only[AhR];have h2:(if decide (a<u)=true then 1 else 0)≤(if decide (a<v)=true then 1 else 0):=by
    by_cases h:a<u
    ·simp[h,show a<v by omega]
    ·simp[h]
   omega
theorem KD{M:List Int}{u:Int}{i:Nat}(hi:i<M.length)(he:M[i]=u):(M.countP fun x=>decide (x<u))<M.length:=by
 have h1:(M.countP fun x=>decide (x<u))≤M.length:=AgV;rcases Af4 (M.countP fun x=>decide (x<u)) M.length with h|h
 ·exact h
 ·have h2:(M.countP fun x=>decide (x<u))=M.length:=by omega
  rw[List.countP_eq_length] at h2;have:=h2 M[i] (Ae5 hi);simp[he] at this
theorem Sol.small{cs:List (Int×Ltl)}{n:Nat}{M:List Int}(hr:InR cs n)(h:Sol cs n M):∃M',Sol cs n M'∧∀i:Int,0≤i→i<n→lv M' i<n:=by
 have hlv:∀i:Int,0≤i→i<n→lv (M.map (Y9 M)) i=Y9 M (lv M i):=fun i h0 h1=>by
  have:i.toNat<M.length:=by rw[h.len];omega
  simp[lv,Ae3,this]
 refine⟨M.map (Y9 M),⟨by simp[h.len],fun i=>?_,fun c hc=>?_⟩,fun i h0 h1=>?_⟩
 ·simp only[lv,Ae3,AfI];cases M[i.toNat]? with
  |none=>simp
  |some v=>simp[Y9]
 ·have hh:=hr.h c hc;have hb:=hr.b c hc;have hs:=h.sat c hc;unfold SK lst at hs ⊢;rw[hlv _ hh.1 hh.2,hlv _ hb.1 hb.2];have hbl:c.2.atom.pred.toNat<M.length:=by rw[h.len];omega
  have hbe:M[c.2.atom.pred.toNat]=lv M c.2.atom.pred:=by simp[lv,Ae3,hbl]
  by_cases hlt:lv M c.2.atom.pred<lv M c.1
  ·have:=SL hlt hbl hbe;have:=OH c.2;simp only[Y9];omega
  ·have hz:ng c.2=0:=by have:=OH c.2;omega
   have he:lv M c.2.atom.pred=lv M c.1:=by omega
   rw[he,hz];omega
 ·rw[hlv i h0 h1];have hil:i.toNat<M.length:=by rw[h.len];omega
  have hie:M[i.toNat]=lv M i:=by simp[lv,Ae3,hil]
  have:=KD hil hie;rw[h.len] at this;simp only[Y9];omega
structure Ng(cs:List (Int×Ltl))(n:Nat)(L:List Int):Prop where
 len:L.length=n
 pos:∀i,0≤lv L i
 le:∀M,Sol cs n M→∀i,lv L i≤lv M i
theorem Ng.zero(cs:List (Int×Ltl))(n:Nat):Ng cs n (List.replicate n 0):=
 ⟨by simp,fun i=>by rw[LZ];omega,fun M hM i=>by rw[LZ];exact hM.pos i⟩
theorem Ng.raise{cs:List (Int×Ltl)}{n:Nat}{L:List Int}(hr:InR cs n)(g:Ng cs n L){c:Int×Ltl}(hc:c∈cs):Ng cs n (L.set c.1.toNat (lst L c)):=by
 have hh:=hr.h c hc;have hb:=hr.b c hc;have hl:c.1<L.length:=by rw[g.len];exact hh.2
 refine⟨by simp[g.len],fun i=>?_,fun M hM i=>?_⟩
 ·by_cases hi:0≤i
  ·rw[Nf hh.1 hl _ _ hi];split
   ·have:=g.pos c.2.atom.pred;have:=OH c.2;unfold lst;omega
   ·exact g.pos i
  ·rw[Py _ (by omega),Nf hh.1 hl _ _ (Ahh 0)];split
   ·have:=g.pos c.2.atom.pred;have:=OH c.2;unfold lst;omega
   ·exact g.pos 0
 ·have key:∀i,0≤i→lv (L.set c.1.toNat (lst L c)) i≤lv M i:=fun i hi=>by
   rw[Nf hh.1 hl _ _ hi];split
   ·rename_i e;subst e;have h1:=hM.sat c hc;have h2:=g.le M hM c.2.atom.pred;unfold SK at h1;unfold lst at h1 ⊢;omega
   ·exact g.le M hM i
  by_cases hi:0≤i
  ·exact key i hi
  ·rw[Py _ (by omega),Py M (by omega)];exact key 0 (Ahh 0)
theorem Ng.done{cs:List (Int×Ltl)}{n:Nat}{L:List Int}(g:Ng cs n L)(h:∀c∈cs,SK L c):Ju cs n (some L):=⟨⟨g.len,g.pos,h⟩,g.le⟩
theorem Ng.fail{cs:List (Int×Ltl)}{n:Nat}{L:List Int}(hr:InR cs n)(g:Ng cs n L){c:Int×Ltl}(hc:c∈cs)(hn:n≤lst L c):Ju cs n none:=fun M hM=>by
 obtain⟨M',hM',hlt⟩:=hM.small hr;have hh:=hr.h c hc;have h1:=hM'.sat c hc;have h2:=g.le M' hM' c.2.atom.pred;have h3:=hlt c.1 hh.1 hh.2;unfold SK at h1;unfold lst at h1 hn;omega
theorem Ng.lt{cs:List (Int×Ltl)}{n:Nat}{L:List Int}(hr:InR cs n)(g:Ng cs n L)(hs:∃M,Sol cs n M){i:Int}(h0:0≤i)(h1:i<n):lv L i<n:=by
 obtain⟨M,hM⟩:=hs;obtain⟨M',hM',hlt⟩:=hM.small hr;exact Int.lt_of_le_of_lt (g.le M' hM' i) (hlt i h0 h1)
def pot(n:Nat)(L:List Int):Nat:=(L.map fun v=>((n:Int)-v).toNat).sum
theorem KX:∀(l:List Nat) (i:Nat) (y:Nat) (h:i<l.length),y<l[i]→(l.set i y).sum<l.sum
 |a::l,0,y,_,hy=>by simp at hy ⊢;omega
 |a::l,i+1,y,h,hy=>by
  have:=KX l i y (by simpa using h) (by simpa using hy);simp only[List.set_cons_succ,List.sum_cons];omega
theorem KY{n:Nat}{L:List Int}{i:Int}{v:Int}(h0:0≤i)(h1:i<L.length)(hv:lv L i<v)(hn:lv L i<n):pot n (L.set i.toNat v)<pot n L:=by
 have hi:i.toNat<L.length:=by omega
 have he:L[i.toNat]=lv L i:=by simp[lv,Ae3,hi]
 unfold pot;rw[List.map_set];refine KX _ _ _ (by simpa using hi) ?_;rw[AhS,he];omega
theorem Vn(n:Nat):pot n (List.replicate n 0)=n*n:=by
 unfold pot;rw[Aha];simp
structure SM(cs:List (Int×Ltl))(n:Nat)(L:List Int)(same:Bool)(L':List Int)(done:List (Int×Ltl)):Prop where
 good:Ng cs n L'
 t:same=true→L'=L∧∀c∈done,SK L c
 f:same=false→(∃M,Sol cs n M)→pot n L' + 1≤pot n L
theorem Aef{cs:List (Int×Ltl)}{n:Nat}{L:List Int}(g:Ng cs n L):SM cs n L true L []:=⟨g,fun _=>⟨rfl,by simp⟩,fun h=>by cases h⟩
theorem SM.keep{cs:List (Int×Ltl)}{n:Nat}{L L':List Int}{same:Bool}{done:List (Int×Ltl)}(x:SM cs n L same L' done){c:Int×Ltl}(h:¬lv L' c.1<lst L' c):SM cs n L same L' (done++[c]):=
 ⟨x.good,fun hs=>⟨(x.t hs).1,fun d hd=>by
  rcases Afu.1 hd with h1|h1
  ·exact(x.t hs).2 d h1
  ·rw[Afl.1 h1];have:=(x.t hs).1;subst this;unfold SK;omega⟩,x.f⟩
theorem SM.raise{cs:List (Int×Ltl)}{n:Nat}{L L':List Int}{same:Bool}{done:List (Int×Ltl)}(hr:InR cs n)(x:SM cs n L same L' done){c:Int×Ltl}(hc:c∈cs)(h:lv L' c.1<lst L' c):SM cs n L false (L'.set c.1.toNat (lst L' c)) (done++[c]):=by
 have hh:=hr.h c hc;refine⟨x.good.raise hr hc,(fun h=>by cases h),fun _ hs=>?_⟩;have h1:=KY (n:=n) hh.1 (by rw[x.good.len];exact hh.2) h (x.good.lt hr hs hh.1 hh.2);cases hsm:same
 ·have:=x.f hsm hs;omega
 ·have:=(x.t hsm).1;subst this;omega
theorem OI{cs:List (Int×Ltl)}{n:Nat}{L:List Int}{t:Int}(hr:InR cs n)(hl:L.length=n)(hb:∀i,lv L i≤t){c:Int×Ltl}(hc:c∈cs):∀i,lv (L.set c.1.toNat (lst L c)) i≤t+1:=fun i=>by
 have hh:=hr.h c hc;have h1:=hb c.2.atom.pred;have h2:=OH c.2;have key:∀i,0≤i→lv (L.set c.1.toNat (lst L c)) i≤t+1:=fun i h0=>by
  rw[Nf hh.1 (by rw[hl];exact hh.2) _ _ h0];split
  ·unfold lst;omega
  ·have:=hb i;omega
 by_cases h0:0≤i
 ·exact key i h0
 ·rw[Py _ (by omega)];exact key 0 (Ahh 0)
def bv(N:List Bool)(i:Int):Bool:=N.getD i.toNat false
def XS(cs:List (Int×Ltl))(N:List Bool):Prop:=∀c∈cs,bv N c.1=true→bv N c.2.atom.pred=true
def KZ(b:UInt8):Bool:=decide (97≤b.toNat) && decide (b.toNat≤122)
def isName(s:ByteArray):Bool:=decide (1≤s.size) && decide (s.size≤8) && s.data.toList.all KZ
def rulesErr(l:List Prd):List Rul→Int
 |[]=>0
 |r::rs=>if checkRule l r≠0 then checkRule l r else rulesErr l rs
theorem Bn{l:List Prd}{rs:List Rul}:rulesErr l rs=0↔∀r∈rs,checkRule l r=0:=by
 induction rs with
 |nil=>simp[rulesErr]
 |cons x r ih=>
  simp only[rulesErr,Afq,forall_eq_or_imp];by_cases h:checkRule l x=0
  ·simp[h,ih]
  ·simp[h]
theorem Jv{l:List Prd}{b:List Rul}{k:Nat}(hk:k<b.length)(h1:∀j,j<k→∀hj':j<b.length,checkRule l b[j]=0)(h2:checkRule l b[k]≠0):rulesErr l b=checkRule l b[k]:=by
 induction b generalizing k with
 |nil=>simp at hk
 |cons x r ih=>
  cases k with
  |zero=>simp only[Agd] at h2 ⊢;simp[rulesErr,h2]
  |succ k=>
   have h0:=h1 0 (by omega) (by simp);simp only[Agd] at h0;simp only[rulesErr,h0,Agc];simp only[Agc] at h2;exact ih (by simpa using hk) (fun j _ hj'=>by have:=h1 (j+1) (by omega) (by simpa using hj');simpa using this) h2
def Nh(l:List Prd)(k:Nat):Bool:=(l.take k).any fun y=>decide (y.name=(l.getD k default).name)
def G8(l:List Prd):Bool:=(List.range l.length).any (Nh l)
def CA(x:Prd):Bool:=decide (x.arity<0∨2<x.arity)
def badKind(x:Prd):Bool:=decide (x.kind<0∨3<x.kind)
open Classical in
noncomputable def Ac(p:Prg):Int:=
 if 5<p.preds.xs.length∨8<p.rules.xs.length then 2
 else if p.preds.xs.any (fun x=>!isName x.name) then 5
 else if G8 p.preds.xs then 6
 else if p.preds.xs.any CA then 3
 else if p.preds.xs.any badKind then 4
 else if rulesErr p.preds.xs p.rules.xs≠0 then rulesErr p.preds.xs p.rules.xs
 else if ∃M,Sol (AX p.rules.xs) p.preds.xs.length M then 0 else 8
theorem DX{l:List Prd}{r:Rul}(h:checkRule l r=0):checkAtom l r.head=0∧r.body.xs.length≤3∧∀x∈r.body.xs,checkAtom l x.atom=0:=by
 unfold checkRule at h;split at h
 ·rename_i h1;exact absurd h h1
 split at h
 ·cases h
 split at h
 ·rename_i h1;exact absurd h h1
 rename_i h1 h2 h3;exact⟨Afh.1 h1,by omega,C2.1 (Afh.1 h3)⟩
theorem ET{l:List Prd}{a:Atm}(h:checkAtom l a=0):0≤a.pred∧a.pred<l.length:=by
 unfold checkAtom at h;split at h
 ·cases h
 ·omega
theorem Jw{l:List Prd}{rs:List Rul}(h:rulesErr l rs=0):InR (AX rs) l.length:=by
 have key:∀c∈AX rs,∃r∈rs,∃x∈r.body.xs,c=(r.head.pred,x):=fun c hc=>by
  unfold AX at hc;obtain⟨r,hr,hc⟩:=Af1.1 hc;obtain⟨x,hx,rfl⟩:=AfE.1 hc;exact⟨r,hr,x,hx,rfl⟩
 refine⟨fun c hc=>?_,fun c hc=>?_⟩<;>obtain⟨r,hr,x,hx,rfl⟩:=key c hc<;>have h1:=DX (Bn.1 h r hr)
 ·exact ET h1.1
 ·exact ET (h1.2.2 x hx)
theorem AB{p:Prg}(h:Ac p=0):p.preds.xs.length≤5∧p.rules.xs.length≤8∧rulesErr p.preds.xs p.rules.xs=0∧∃M,Sol (AX p.rules.xs) p.preds.xs.length M:=by
 unfold Ac at h;split at h
 ·cases h
 split at h
 ·cases h
 split at h
 ·cases h
 split at h
 ·cases h
 split at h
 ·cases h
 split at h
 ·rename_i h1;exact absurd h h1
 split at h
 ·rename_i h1 _ _ _ _ h2 h3;exact⟨by omega,by omega,Afh.1 h2,h3⟩
 ·cases h
def Prg.Nm(p:Prg):Prop:=∀x∈p.preds.xs,x.name.size≤140737488355328
end
section
def GK(f:List Fct)(x:Vrs)(t:Ltl):Bool:=decide (isF f (groundF t.atom x)≠t.neg)
def Bv(f:List Fct)(r:Rul)(x:Vrs):Bool:=r.body.xs.all (GK f x)
def Jy(l:List Prd)(f:List Fct)(r:Rul)(x:Vrs):Int:=if 0≤r.src then liftV (Al l r.head.pred).kind ((lkF f (Ah (groundF (CO r r.src).atom x))).getD 0) r.n else r.n
def CP(l:List Prd)(f:List Fct)(r:Rul)(x:Vrs):Fct:=⟨r.head.pred,Em r.head x 0,Em r.head x 1,Jy l f r x⟩
def Cm(l:List Prd)(f:List Fct)(r:Rul)(x:Vrs):Bool×Fct:=if Bv f r x then (true,CP l f r x) else (false,default)
structure KE(x:Vrs):Prop where
 h0:0≤x.x0∧x.x0≤4
 h1:0≤x.x1∧x.x1≤4
 h2:0≤x.x2∧x.x2≤4
theorem KE.at{x:Vrs}(h:KE x)(v:Int):0≤x.at v∧x.at v≤4:=by
 unfold Vrs.at;(repeat' split)<;>first|exact h.h0|exact h.h1|exact h.h2
structure ROk(l:List Prd)(r:Rul):Prop where
 five:l.length≤5
 preds:∀p∈l,AE p=true
 head:checkAtom l r.head=0
 len:r.body.xs.length≤3
 body:∀x∈r.body.xs,checkAtom l x.atom=0
 free:∀v,v=0∨v=1∨v=2→Bf r v=false
 src:-1≤r.src∧r.src<r.body.xs.length
 pos:0≤r.src→(CO r r.src).neg=false∧(Al l (CO r r.src).atom.pred).kind=(Al l r.head.pred).kind
 n:0≤r.n∧r.n≤15
 plain:(Al l r.head.pred).kind=0→r.src=-1∧r.n=0
theorem Xq{l:List Prd}{r:Rul}(h5:l.length≤5)(hp:∀p∈l,AE p=true)(h:checkRule l r=0):ROk l r:=by
 unfold checkRule at h;split at h
 ·rename_i h1;exact absurd h h1
 split at h
 ·cases h
 split at h
 ·rename_i h1 h2 h3;exact absurd h h3
 split at h
 ·cases h
 split at h
 ·cases h
 split at h
 ·cases h
 split at h
 ·cases h
 split at h
 ·cases h
 rename_i h1 h2 h3 h4 h5' h6 h7 h8;simp only[Agl,not_or,Ag3] at h4;refine⟨h5,hp,Afh.1 h1,by omega,C2.1 (Afh.1 h3),fun v hv=>?_,by omega,fun h0=>?_,by omega,fun hk=>?_⟩
 ·rcases hv with rfl|rfl|rfl
  ·exact h4.1.1
  ·exact h4.1.2
  ·exact h4.2
 ·have:¬((CO r r.src).neg=true∨(Al l (CO r r.src).atom.pred).kind≠(Al l r.head.pred).kind):=fun hh=>h7 ⟨h0,hh⟩;rw[not_or,Ag3,Afh] at this;exact this
 ·have:¬(r.src≠-1∨r.n≠0):=fun hh=>h6 ⟨hk,hh⟩;omega
structure AOk(l:List Prd)(a:Atm):Prop where
 pred:0≤a.pred∧a.pred<l.length
 len:a.args.xs.length≤2
 err:B9 a.args.xs=0
 arity:(a.args.xs.length:Int)=(Al l a.pred).arity
theorem Ba{l:List Prd}{p:Int}(h:0≤p∧p<l.length):Al l p∈l:=Afk (Cs h.1 h.2)
theorem Bc{l:List Prd}{a:Atm}(hp:∀p∈l,AE p=true)(h:checkAtom l a=0):AOk l a:=by
 unfold checkAtom at h;split at h
 ·cases h
 split at h
 ·cases h
 rename_i h1 h2;have hpr:0≤a.pred∧a.pred<l.length:=by omega
 have:=hp _ (Ba hpr);simp only[AE,decide_eq_true_eq] at this;exact⟨hpr,by omega,h,by omega⟩
theorem AOk.arg{l:List Prd}{a:Atm}(h:AOk l a){x:Vrs}(hx:KE x)(i:Nat):0≤Em a x i∧Em a x i≤4:=by
 by_cases hi:i<a.args.xs.length
 ·rw[LW hi];unfold tv;split
  ·exact hx.at _
  ·rename_i hv;exact Jr h.err (Ae5 hi) (by simpa using hv)
 ·rw[En (by omega)];omega
theorem AOk.pf{l:List Prd}{a:Atm}(h5:l.length≤5)(h:AOk l a){x:Vrs}(hx:KE x)(v:Int):PF ⟨a.pred,Em a x 0,Em a x 1,v⟩:=
 ⟨h.pred.1,by have:=h.pred.2;show a.pred≤4;omega,(h.arg hx 0).1,(h.arg hx 0).2,(h.arg hx 1).1,(h.arg hx 1).2⟩
theorem AOk.var{l:List Prd}{a:Atm}(h:AOk l a){t:Trm}(ht:t∈a.args.xs)(hv:t.var=true):0≤t.n∧t.n<3:=GG h.err ht hv
theorem Jz{r:Rul}{k:Int}(h:0≤k∧k<r.body.xs.length):CO r k∈r.body.xs:=by
 have:k.toNat<r.body.xs.length:=by omega
 unfold CO;rw[Ae3,Ae4 this];exact Ae5 _
theorem Et{l:List Prd}{f:List Fct}{r:Rul}(ok:ROk l r)(okf:FOk l f){x:Vrs}(hx:KE x)(hh:Bv f r x=true):factFine l (CP l f r x)=true:=by
 have ha:=Bc ok.preds ok.head;have har:=ha.arity;have hz:∀i:Nat,(i:Int)+1≤(Al l r.head.pred).arity∨Em r.head x i=0:=fun i=>by
  by_cases hi:i<r.head.args.xs.length
  ·left;omega
  ·right;exact En (by omega)
 refine Ct.2 ⟨ha.pred,ha.arg hx 0,ha.arg hx 1,(show 1≤(Al l r.head.pred).arity∨Em r.head x 0=0 from by simpa using hz 0),(show 2≤(Al l r.head.pred).arity∨Em r.head x 1=0 from by simpa using hz 1),?_⟩;show VOk (Al l r.head.pred).kind (Jy l f r x);have hk:=ok.preds _ (Ba ha.pred);simp only[AE,decide_eq_true_eq] at hk;unfold Jy;split
 ·rename_i h0;have hm:=Jz ⟨h0,ok.src.2⟩;obtain⟨hn,hkd⟩:=ok.pos h0;have hl:=Aff.1 hh _ hm;have hb:=Bc ok.preds (ok.body _ hm);have pf:=hb.pf ok.five hx 0;unfold GK at hl;rw[hn,decide_eq_true_eq] at hl;have hs:isF f (groundF (CO r r.src).atom x)=true:=by simpa using hl
  unfold isF at hs;cases hlk:lkF f (Ah (groundF (CO r r.src).atom x)) with
  |none=>rw[hlk] at hs;cases hs
  |some v=>
   obtain⟨y,hy,e,rfl⟩:=DB hlk;have hyf:=okf.fine y hy;have hyp:=((By ok.five hyf).inj pf e).1;have hv:=Da hyf;rw[show y.pred=(CO r r.src).atom.pred from hyp,hkd] at hv;have hrn:VOk (Al l r.head.pred).kind r.n:=by
    rw[DA];refine⟨hk.2.2.1,hk.2.2.2,ok.n.1,ok.n.2,fun h=>(ok.plain h).2⟩
   exact Vj hv hrn
 ·rw[DA];exact⟨hk.2.2.1,hk.2.2.2,ok.n.1,ok.n.2,fun h=>(ok.plain h).2⟩
def AR(r:Rul)(v:Int):Bool:=AL r.head v || r.body.xs.any fun x=>AL x.atom v
def Za:List Vrs:=(List.range 5).flatMap fun (a:Nat)=>(List.range 5).flatMap fun (b:Nat)=>(List.range 5).map fun (c:Nat)=>(⟨(a:Int),(b:Int),(c:Int)⟩:Vrs)
def L0(r:Rul)(x:Vrs):Bool:=(decide (x.x0=0) || AR r 0) && (decide (x.x1=0) || AR r 1) && (decide (x.x2=0) || AR r 2)
def A6(f:List Fct)(n:Int)(r:Rul):List Stp:=(Za.filter fun x=>L0 r x && Bv f r x).map (Stp.mk n)
def ltV(x y:Vrs):Prop:=x.x0<y.x0∨x.x0=y.x0∧(x.x1<y.x1∨x.x1=y.x1∧x.x2<y.x2)
instance (x y:Vrs):Decidable (ltV x y):=inferInstanceAs (Decidable (_∨_))
theorem JA{x y z:Vrs}(h1:ltV x y)(h2:ltV y z):ltV x z:=by unfold ltV at *;omega
theorem K0(x:Vrs):¬ltV x x:=by unfold ltV;omega
theorem XT(x y:Vrs):ltV x y∨x=y∨ltV y x:=by
 obtain⟨a,b,c⟩:=x;obtain⟨a',b',c'⟩:=y;unfold ltV;simp only[Vrs.mk.injEq];omega
theorem Vo:Za.Pairwise ltV:=by decide +kernel
theorem G9{x:Vrs}:x∈Za↔KE x:=by
 constructor
 ·intro h;simp only[Za,Af1,AfE,Af0] at h;obtain⟨a,ha,b,hb,c,hc,rfl⟩:=h;exact⟨⟨by dsimp only;omega,by dsimp only;omega⟩,⟨by dsimp only;omega,by dsimp only;omega⟩,⟨by dsimp only;omega,by dsimp only;omega⟩⟩
 ·rintro⟨h0,h1,h2⟩;simp only[Za,Af1,AfE,Af0];obtain⟨a,b,c⟩:=x;dsimp only at h0 h1 h2;exact⟨a.toNat,by omega,b.toNat,by omega,c.toNat,by omega,by simp only[Vrs.mk.injEq];omega⟩
theorem Pz{α:Type}{lt:α→α→Prop}(hi:∀x,¬lt x x)(ht:∀x y z,lt x y→lt y z→lt x z):∀{l m:List α},l.Pairwise lt→m.Pairwise lt→(∀x,x∈l↔x∈m)→l=m
 |[],[],_,_,_=>rfl
 |[],y::m,_,_,h=>by have:=(h y).2 Ae7;cases this
 |x::l,[],_,_,h=>by have:=(h x).1 Ae7;cases this
 |x::l,y::m,hl,hm,h=>by
  obtain⟨l1,l2⟩:=AfB.1 hl;obtain⟨m1,m2⟩:=AfB.1 hm;have hxy:x=y:=by
   rcases Afq.1 ((h x).1 Ae7) with h1|h1
   ·exact h1
   ·rcases Afq.1 ((h y).2 Ae7) with h2|h2
    ·exact h2.symm
    ·exact absurd (ht _ _ _ (m1 x h1) (l1 y h2)) (hi _)
  subst hxy;congr 1;refine Pz hi ht l2 m2 fun z=>?_;constructor
  ·intro hz;rcases Afq.1 ((h z).1 (Ae8 _ hz)) with rfl|h1
   ·exact absurd (l1 _ hz) (hi _)
   ·exact h1
  ·intro hz;rcases Afq.1 ((h z).2 (Ae8 _ hz)) with rfl|h1
   ·exact absurd (m1 _ hz) (hi _)
   ·exact h1
def Vrs.set(b:Vrs)(v n:Int):Vrs:=if v=0 then ⟨n,b.x1,b.x2⟩ else if v=1 then ⟨b.x0,n,b.x2⟩ else ⟨b.x0,b.x1,n⟩
theorem Ac1{b:Vrs}{v n u:Int}(hv:0≤v∧v<3)(hu:0≤u∧u<3):(b.set v n).at u=if u=v then n else b.at u:=by
 have h1:v=0∨v=1∨v=2:=by omega
 have h2:u=0∨u=1∨u=2:=by omega
 rcases h1 with rfl|rfl|rfl<;>rcases h2 with rfl|rfl|rfl<;>rfl
def L3(b:Vrs)(t:Trm)(n:Int):Prop:=(t.var=false∧t.n≠n)∨(t.var=true∧0≤b.at t.n∧b.at t.n≠n)
instance (b:Vrs) (t:Trm) (n:Int):Decidable (L3 b t n):=inferInstanceAs (Decidable (_∨_))
def HZ(b:Vrs)(t:Trm)(n:Int):Vrs:=if t.var then b.set t.n n else b
def L4:Vrs→List (Trm×Int)→Option Vrs
 |b,[]=>some b
 |b,(t,n)::r=>if L3 b t n then none else L4 (HZ b t n) r
def FB(a:Atm)(x:Fct):List (Trm×Int):=a.args.xs.zip [x.a,x.b]
def Ni(b:Vrs)(a:Atm)(x:Fct):Option Vrs:=if a.pred≠x.pred then none else L4 b (FB a x)
def KF(f:List Fct):List Atm→Vrs→List Vrs
 |[],b=>[b]
 |a::l,b=>f.flatMap fun x=>match Ni b a x with|none=>[]|some c=>KF f l c
def mx0(b:Vrs):Vrs:=⟨max 0 b.x0,max 0 b.x1,max 0 b.x2⟩
theorem Xr(b:Vrs)(v:Int):(mx0 b).at v=max 0 (b.at v):=by unfold Vrs.at mx0;(repeat' split)<;>rfl
def b0:Vrs:=⟨-1,-1,-1⟩
def Aax(f:List Fct)(n:Int)(r:Rul):List Stp:=(((KF f (Gm r.body.xs) b0).map mx0).filter (Bv f r)).map (Stp.mk n)
def BOk(l:List Atm)(b:Vrs):Prop:=∀v,0≤v∧v<3→b.at v=-1∨(0≤b.at v∧b.at v≤4∧∃a∈l,AL a v=true)
theorem Rb{a:Atm}{t:Trm}(ht:t∈a.args.xs)(hv:t.var=true):AL a t.n=true:=by
 unfold AL;rw[AfG];exact⟨t,ht,by simp[hv]⟩
theorem JB{l:List Atm}{a:Atm}(ha:a∈l)(hv:∀t∈a.args.xs,t.var=true→0≤t.n∧t.n<3):∀{ps:List (Trm×Int)} {b c:Vrs},(∀p∈ps,p.1∈a.args.xs∧0≤p.2∧p.2≤4)→BOk l b→L4 b ps=some c→BOk l c
 |[],b,c,_,hb,h=>by simp only[L4,Option.some.injEq] at h;subst h;exact hb
 |(t,n)::r,b,c,hp,hb,h=>by
  rw[L4] at h;split at h
  ·cases h
  refine JB ha hv (fun p hpr=>hp p (Ae8 _ hpr)) ?_ h;obtain⟨p1,p2⟩:=hp (t,n) Ae7;dsimp only at p1 p2;unfold HZ;split
  ·rename_i htv;intro v hv3;have:=hv t p1 htv;rw[Ac1 this hv3];split
   ·rename_i e;subst e;exact .inr ⟨p2.1,p2.2,a,ha,Rb p1 htv⟩
   ·exact hb v hv3
  ·exact hb
theorem PA{a:Atm}{x:Fct}(hx:PF x):∀p∈FB a x,p.1∈a.args.xs∧0≤p.2∧p.2≤4:=fun p hp=>by
 have h1:=(Ag8 hp).1;have h2:=(Ag8 hp).2;refine⟨h1,?_⟩;simp only[Afq,Af8,or_false] at h2;rcases h2 with h2|h2<;>rw[h2]
 ·exact⟨hx.a0,hx.a1⟩
 ·exact⟨hx.b0,hx.b1⟩
theorem SN{l:List Atm}{f:List Fct}(hf:∀y∈f,PF y):∀{ats:List Atm} {b c:Vrs},(∀a∈ats,a∈l∧∀t∈a.args.xs,t.var=true→0≤t.n∧t.n<3)→BOk l b→c∈KF f ats b→BOk l c
 |[],b,c,_,hb,h=>by rw[KF,Afl] at h;subst h;exact hb
 |a::ats,b,c,ha,hb,h=>by
  rw[KF,Af1] at h;obtain⟨y,hy,h⟩:=h;cases hw:Ni b a y with
  |none=>rw[hw] at h;cases h
  |some d=>
   rw[hw] at h;obtain⟨a1,a2⟩:=ha a Ae7;refine SN hf (fun a' h'=>ha a' (Ae8 _ h')) ?_ h;unfold Ni at hw;split at hw
   ·cases hw
   ·exact JB a1 a2 (PA (hf y hy)) hb hw
def Bnd(b x:Vrs):Prop:=∀v,0≤v∧v<3→b.at v=-1∨b.at v=x.at v
theorem Nj{x:Vrs}:∀{ps:List (Trm×Int)} {b:Vrs},(∀p∈ps,p.2=tv p.1 x∧(p.1.var=true→0≤p.1.n∧p.1.n<3))→Bnd b x→
  ∃c,L4 b ps=some c∧Bnd c x∧(∀v,0≤v∧v<3→b.at v=x.at v→c.at v=x.at v)∧(∀p∈ps,p.1.var=true→c.at p.1.n=x.at p.1.n)
 |[],b,_,hb=>⟨b,rfl,hb,fun _ _ h=>h,fun p hp=>by cases hp⟩
 |(t,n)::r,b,hp,hb=>by
  obtain⟨p1,p2⟩:=hp (t,n) Ae7;dsimp only at p1 p2;have hc:¬L3 b t n:=by
   rintro(⟨h1,h2⟩|⟨h1,h2,h3⟩)
   ·rw[p1] at h2;simp[tv,h1] at h2
   ·have:=hb t.n (p2 h1);rw[p1] at h3;simp only[tv,h1,if_true] at h3;omega
  have hb':Bnd (HZ b t n) x∧(∀v,0≤v∧v<3→b.at v=x.at v→(HZ b t n).at v=x.at v)∧(t.var=true→(HZ b t n).at t.n=x.at t.n):=by
   unfold HZ;cases htv:t.var
   ·exact⟨hb,fun _ _ h=>h,fun h=>by cases h⟩
   ·have htn:=p2 htv;have hn:n=x.at t.n:=by rw[p1];simp[tv,htv]
    rw[if_pos rfl];refine⟨fun v hv=>?_,fun v hv h=>?_,fun _=>?_⟩
    ·rw[Ac1 htn hv];split
     ·rename_i e;subst e;exact .inr hn
     ·exact hb v hv
    ·rw[Ac1 htn hv];split
     ·rename_i e;subst e;exact hn
     ·exact h
    ·rw[Ac1 htn htn,if_pos rfl];exact hn
  obtain⟨c,hw,c1,c2,c3⟩:=Nj (fun p hpr=>hp p (Ae8 _ hpr)) hb'.1;refine⟨c,by rw[L4,if_neg hc];exact hw,c1,fun v hv h=>c2 v hv (hb'.2.1 v hv h),fun p hpm hpv=>?_⟩;rcases Afq.1 hpm with rfl|hpm
  ·exact c2 _ (p2 hpv) (hb'.2.2 hpv)
  ·exact c3 p hpm hpv
theorem SO{a:Atm}{x:Vrs}{y:Fct}(h2:a.args.xs.length≤2)(ha:y.a=Em a x 0)(hb:y.b=Em a x 1):∀p∈FB a y,p.2=tv p.1 x∧p.1∈a.args.xs:=by
 unfold FB;match hs:a.args.xs,h2 with
 |[],_=>simp
 |[t],_=>
  intro p hp;have:p=(t,y.a):=by simpa using hp
  subst this;exact⟨by rw[ha];simp[Em,hs],by simp⟩
 |[t,u],_=>
  intro p hp;have:p=(t,y.a)∨p=(u,y.b):=by simpa using hp
  rcases this with rfl|rfl
  ·exact⟨by rw[ha];simp[Em,hs],by simp⟩
  ·exact⟨by rw[hb];simp[Em,hs],by simp⟩
 |_::_::_::_,h2=>simp at h2
theorem Vp{a:Atm}{y:Fct}(h2:a.args.xs.length≤2){t:Trm}(ht:t∈a.args.xs):∃n,(t,n)∈FB a y:=by
 unfold FB;match hs:a.args.xs,h2 with
 |[],_=>rw[hs] at ht;cases ht
 |[u],_=>
  rw[hs] at ht;have:t=u:=by simpa using ht
  subst this;exact⟨y.a,by simp⟩
 |[u,w],_=>
  rw[hs] at ht;have:t=u∨t=w:=by simpa using ht
  rcases this with rfl|rfl
  ·exact⟨y.a,by simp⟩
  ·exact⟨y.b,by simp⟩
 |_::_::_::_,h2=>simp at h2
theorem SP{l:List Prd}{f:List Fct}{x:Vrs}(h5:l.length≤5)(hf:∀y∈f,PF y)(hx:KE x):∀{ats:List Atm} {b:Vrs},(∀a∈ats,AOk l a∧isF f (groundF a x)=true)→Bnd b x→
  ∃c∈KF f ats b,Bnd c x∧(∀v,0≤v∧v<3→b.at v=x.at v→c.at v=x.at v)∧(∀a∈ats,∀v,AL a v=true→c.at v=x.at v)
 |[],b,_,hb=>⟨b,by rw[KF];simp,hb,fun _ _ h=>h,fun a ha=>by cases ha⟩
 |a::ats,b,ha,hb=>by
  obtain⟨ao,ai⟩:=ha a Ae7;unfold isF at ai;cases hlk:lkF f (Ah (groundF a x)) with
  |none=>rw[hlk] at ai;cases ai
  |some w=>
   obtain⟨y,hy,e,_⟩:=DB hlk;obtain⟨e1,e2,e3⟩:=(hf y hy).inj (ao.pf h5 hx 0) e;dsimp only at e1 e2 e3;obtain⟨c,hw,c1,c2,c3⟩:=Nj (x:=x) (ps:=FB a y) (b:=b) (fun p hp=>⟨(SO ao.len e2 e3 p hp).1,fun hv=>ao.var (SO ao.len e2 e3 p hp).2 hv⟩) hb;obtain⟨d,hd,d1,d2,d3⟩:=SP h5 hf hx (fun a' h'=>ha a' (Ae8 _ h')) c1;refine⟨d,?_,d1,fun v hv h=>d2 v hv (c2 v hv h),fun a' ha' v hs=>?_⟩
   ·rw[KF,Af1];refine⟨y,hy,?_⟩;have:Ni b a y=some c:=by unfold Ni;rw[if_neg (by simp[e1]),hw]
    rw[this];exact hd
   ·rcases Afq.1 ha' with rfl|ha'
    ·unfold AL at hs;rw[AfG] at hs;obtain⟨t,ht,hs⟩:=hs;simp only[Afn,decide_eq_true_eq] at hs;obtain⟨n,hn⟩:=Vp (y:=y) ao.len ht;have:=c3 _ hn hs.1;dsimp only at this;rw[hs.2] at this;exact d2 v (by rw[←hs.2];exact ao.var ht hs.1) this
    ·exact d3 a' ha' v hs
theorem XU{v:Int}(hv:0≤v∧v<3):b0.at v=-1:=by
 have h:v=0∨v=1∨v=2:=by omega
 rcases h with rfl|rfl|rfl<;>rfl
theorem Rc{r:Rul}{v:Int}:CU r v=true↔∃a∈Gm r.body.xs,AL a v=true:=by rw[Jo,LT]
theorem XV{x y:Vrs}(h:∀v,0≤v∧v<3→x.at v=y.at v):x=y:=by
 have h0:=h 0 (by omega);have h1:=h 1 (by omega);have h2:=h 2 (by omega);cases x;cases y;simp only[Vrs.at] at h0 h1 h2;simp only[Vrs.mk.injEq];exact⟨by simpa using h0,by simpa using h1,by simpa using h2⟩
theorem XW{l:List Prd}{f:List Fct}{n:Int}{r:Rul}(ok:ROk l r)(okf:FOk l f)(s:Stp):s∈Aax f n r↔s∈A6 f n r:=by
 unfold Aax A6;simp only[AfE,AfN,Afn];have hpo:∀a∈Gm r.body.xs,AOk l a:=fun a ha=>by
  obtain⟨x,hx,_,rfl⟩:=ER.1 ha;exact Bc ok.preds (ok.body x hx)
 constructor
 ·rintro⟨x,⟨⟨b,hb,rfl⟩,hh⟩,rfl⟩;have hbk:=SN (l:=Gm r.body.xs) okf.pf (fun a ha=>⟨ha,fun t ht hv=>(hpo a ha).var ht hv⟩) (b:=b0) (fun v hv=>.inl (XU hv)) hb;have hv:∀v,0≤v∧v<3→(0≤(mx0 b).at v∧(mx0 b).at v≤4)∧((mx0 b).at v=0∨AR r v=true):=fun v hv=>by
   rw[Xr];rcases hbk v hv with h|⟨h1,h2,a,ha,hs⟩
   ·rw[h];exact⟨by omega,.inl (by omega)⟩
   ·refine⟨by omega,.inr ?_⟩;obtain⟨x,hx,_,rfl⟩:=ER.1 ha;unfold AR;rw[Agl,AfG];exact .inr ⟨x,hx,hs⟩
  have q0:=hv 0 (by omega);have q1:=hv 1 (by omega);have q2:=hv 2 (by omega);refine⟨mx0 b,⟨G9.2 ⟨q0.1,q1.1,q2.1⟩,?_,hh⟩,rfl⟩;simp only[L0,Afn,Agl,decide_eq_true_eq];exact⟨⟨q0.2,q1.2⟩,q2.2⟩
 ·rintro⟨x,⟨hx,hst,hh⟩,rfl⟩;have hxo:=G9.1 hx;have hbn:Bnd b0 x:=fun v hv=>.inl (XU hv);obtain⟨c,hc,c1,_,c3⟩:=SP (l:=l) ok.five okf.pf hxo (ats:=Gm r.body.xs) (b:=b0) (fun a ha=>⟨hpo a ha,by
   obtain⟨y,hy,hn,rfl⟩:=ER.1 ha;have:=Aff.1 hh y hy;unfold GK at this;rw[hn,decide_eq_true_eq] at this;simpa using this⟩) hbn
  have hmx:mx0 c=x:=XV fun v hv=>by
   rw[Xr];have h4:=hxo.at v;rcases c1 v hv with h|h
   ·rw[h];by_cases hb:CU r v=true
    ·obtain⟨a,ha,hs⟩:=Rc.1 hb;have:=c3 a ha v hs;omega
    ·have hv3:v=0∨v=1∨v=2:=by omega
     have hfr:=ok.free v hv3;have hsr:AR r v=false:=by
      unfold Bf at hfr;unfold AR;have:CU r v=false:=by simpa using hb
      rw[this] at hfr;simpa using hfr
     simp only[L0,Afn,Agl,decide_eq_true_eq] at hst;have hz:x.at v=0:=by
      rcases hv3 with rfl|rfl|rfl
      ·rcases hst.1.1 with h|h
       ·exact h
       ·rw[hsr] at h;cases h
      ·rcases hst.1.2 with h|h
       ·exact h
       ·rw[hsr] at h;cases h
      ·rcases hst.2 with h|h
       ·exact h
       ·rw[hsr] at h;cases h
     omega
   ·omega
  exact⟨x,⟨⟨c,hc,hmx⟩,hh⟩,rfl⟩
def ltS(x y:Stp):Prop:=ltV x.vars y.vars
theorem Re(f:List Fct)(n:Int)(r:Rul):(A6 f n r).Pairwise ltS:=by
 unfold A6;rw[List.pairwise_map];exact(Vo.filter _).imp fun h=>h
theorem Vq{l:List Prd}{f:List Fct}{n:Int}{r:Rul}(ok:ROk l r)(okf:FOk l f){s:List Stp}(hs:s.Pairwise ltS)(hm:∀x,x∈s↔x∈Aax f n r):s=A6 f n r:=
 Pz (lt:=ltS) (fun x=>K0 x.vars) (fun x y z h1 h2=>JA (x:=x.vars) (y:=y.vars) (z:=z.vars) h1 h2) hs (Re f n r) fun x=>(hm x).trans (XW ok okf x)
end
end Go.TF
