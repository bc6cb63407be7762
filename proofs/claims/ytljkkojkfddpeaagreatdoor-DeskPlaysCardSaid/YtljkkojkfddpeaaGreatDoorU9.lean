/- Texts Base19 Ask1 SlFuncs2 SlDel Ask2 Dsk3 Sum1 Base20 Base22 Sum2 Sum3 Dsk4 Semi1 Semi2 Semi3. -/
import Derived.Test.YtljkkojkfddpeaaGreatDoorU8
set_option maxRecDepth 20000
set_option maxHeartbeats 16000000
set_option linter.unusedVariables false
set_option linter.unusedSimpArgs false
namespace Go.TF
open Go Go.RowKit Go.Proofs Go.Proofs.Tryz
section
section
variable {P:Program}{e:Env}{w:World}{B:Aq}{h:Ae}{M:List SA}{t:TypeId}{pos:String}{af:Array Edge}{g:Option (Nat×Bool)}{d:Option Nat}{K:Value→World→Prop}
theorem Ads{hb:Ae}{f:FuncId}{args:Array Operand}{ts:Array TypeId}{vs:List Value}{r:Value}(I:Inv B h M w)(hf:BE P f)(hfn:Fn P f vs ⟨w,hb⟩ (fun v _=>v=r))
  (ha:args.toList.map (ev e)=vs) (k:∀w',Inv B h M w'→K r w'):Op1 P ⟨d,.call {callee:=.value (.func f),args:=args,argTypes:=ts},t,pos,af,g⟩ e w K:=by
 have ha':args.map (ev e)=vs.toArray:=by rw[←ha];apply Array.ext';simp
 have:(execOp (ev e) ⟨d,.call {callee:=.value (.func f),args:=args,argTypes:=ts},t,pos,af,g⟩).run P w=.ok (.enter f vs.toArray) w:=by
  simp[execOp,resolve,ev,Deferred.ofValue,invoke,ha',hf]
 unfold Op1;rw[this];refine Calls.mono hfn ?_;rintro x w' ⟨v,h',rfl,X,rfl⟩;exact k w' (I.grow X.below)
theorem Inv.unbox{b:Nat}{cs:List Value}{T:TypeId}(I:Inv B h M w)(hb:h b=some (.cells cs.toArray T (0,0)))(hB:B.h b=none) :
  ∃h',Inv B h' (box b cs T::M) w∧(∀h1:Ae,h1.le h→h1 b=none→h1.le h')∧h' b=none:=by
 have hnew:B.w.heap.size≤b:=by
  rcases I.new b _ hb with h1|h1
  ·rw[hB] at h1;cases h1
  ·exact h1
 refine⟨fun x=>if x=b then none else h x,⟨I.below,fun x o hx=>?_,fun x o hx=>?_,fun x o hx=>?_,fun A hA=>?_,AfB.2 ⟨fun C hC x hx hxC=>?_,I.apart⟩⟩,fun h1 hl hn=>AcH b hl hn,by simp⟩
 ·exact AcH b I.ext hB x o hx
 ·have:x≠b:=fun e=>by simp[e] at hx
  simp only[this,if_false] at hx;exact I.new x o hx
 ·have:x≠b:=fun e=>by simp[e] at hx
  simp only[this,if_false] at hx;exact I.imm x o hx
 ·rcases Afq.1 hA with rfl|hA
  ·exact⟨I.imm b _ hb,fun x hx=>by
    simp[box] at hx;subst hx;exact⟨hnew,I.lt hb,by simp⟩⟩
  ·obtain⟨h1,h2⟩:=I.own A hA;refine⟨h1,fun x hx=>?_⟩;obtain⟨k1,k2,k3⟩:=h2 x hx;exact⟨k1,k2,by by_cases e:x=b<;>simp[e,k3]⟩
 ·simp[box] at hx;subst hx;have:=((I.own C hC).2 x hxC).2.2;rw[hb] at this;cases this
theorem Inv.aa7{b:Nat}{cs:List Value}{T:TypeId}(I:Inv B h (box b cs T::M) w):∃h',h.le h'∧h' b=some (.cells cs.toArray T (0,0))∧Ci h' b cs∧Inv B h' M w∧h b=none∧B.h b=none:=by
 have hb:=I.at 0 rfl;have hn:=((I.own _ Ae7).2 b (by simp[box])).2.2;obtain⟨h',hle,hfp,J⟩:=I.settle;have:h' b=some (.cells cs.toArray T (0,0)):=(hfp b (by simp[box])).trans hb;refine⟨h',hle,this,⟨fun j v hv=>?_⟩,J,hn,?_⟩
 ·simp[Ae.cell,this,hv]
 ·cases hh:B.h b with
  |none=>rfl
  |some o=>rw[I.ext b o hh] at hn;cases hn
theorem Inv.rdG{α:Type}{enc:α→List Value}{k T gg n cap:Nat}{zs:List α}(hk:∀x,(enc x).length=k)(I:Inv B h M w)(n0:Nat)(hn:M[n0]?=some (Ao T k (.slice (some ⟨gg,0,none⟩) n cap) n (zs.flatMap enc))){i o:Nat}{y:α}(hy:zs[i]?=some y)(ho:o=i*k):Rd w gg o (enc y):=by
 subst ho;intro j v hj;have hp:w.ownsRow 0 T k (.slice (some ⟨gg,0,none⟩) n cap) n (zs.flatMap enc):=I.at n0 hn;have:=hp.cells (g:=gg) rfl (i*k+j) v (IE hk zs i j y v hy hj);rwa [BN,Agg] at this
theorem RI{α:Type}{enc:α→List Value}{k:Nat}(hk:∀x,(enc x).length=k)(zs:List α)(i:Nat)(y:α)(hi:i<zs.length):Im (zs.flatMap enc) (i*k) (enc y)=(zs.set i y).flatMap enc:=by
 unfold Im;rw[Dy hk,hk,show i*k+k=(i+1)*k by rw[AfP,Ahi],Ei hk,Agm,if_pos hi,Afm,AfK,Afe]
end
section
variable {P:Program}{N:Nat}{D:List Deferred}{e:Env}{w:World}{Q:Exit→Env→World→List Deferred→Prop}
theorem AdM{c:Operand}{x y:Code}{p:Prop}[Decidable p](hc:ev e c=.bool (decide p))(hp:p)(ht:WPD P N D x e w Q):WPD P N D (.cond c x y) e w Q:=
 AcL hc (fun _=>ht) (fun h=>(h hp).elim)
theorem AdN{c:Operand}{x y:Code}{p:Prop}[Decidable p](hc:ev e c=.bool (decide p))(hp:¬p)(hf:WPD P N D y e w Q):WPD P N D (.cond c x y) e w Q:=
 AcL hc (fun h=>(hp h).elim) (fun _=>hf)
theorem Ad5{id:Nat}{ops:Array Oper}{B:Aq}{h:Ae}{M:List SA}(hm:LH P)(I:Inv B h M w)(m:Nat)(hB:MV ops m=true)
  (k:AO P ops B M h [] (ops.toList.take m) e (fun L e'=>∀h1 w1,h.le h1→Inv B h1 M w1→CT (fun _=>true) h1 L e' fun e''=>Ops P ops (ops.toList.drop m) e'' w1 (fun e3 w3=>Q .normal e3 w3 D))):WPD P N D (.region id ops true) e w Q:=WPD.of (AbM hm I m hB k)
theorem Ad6{x:Code}{K:Env→World→List Deferred→Prop}{σ:Type}(kv:σ→List (Nat×Value))(J:σ→World→Prop)(Df:σ→List Deferred)
  (hx:WPD P N D x e w (Kz (fun e' w' D'=>∃s,Has e' (kv s)∧D'=Df s∧J s w') Q)) (hy:∀s e' w',J s w'→K (E e' (kv s)) w' (Df s)):WPD P N D x e w (Kz K Q):=by
 refine hx.mono fun x e' w' D' h=>?_;cases x<;>first|exact h|skip;obtain⟨s,h1,rfl,h2⟩:=h;have:=hy s e' w' h2;rwa [C9 h1] at this
end
theorem RJ{a b c d e f g:SA}{L:List SA}:([a,b,c,d,e,f,g]++L).Perm (g::([a,b,c,d,e,f]++L)):=Agi (l₁:=[a,b,c,d,e,f]) (l₂:=L)
theorem UD{α:Type}(zs:List α)(q:Nat)(y:α):(zs.set q y).take q=zs.take q:=by
 apply Ago;intro j;rw[AfF,AfF];split
 ·rw[Agw (by omega)]
 ·rfl
def E5{α:Type}(p:α→Bool)(xs:List α):List α:=xs.filter fun x=>!p x
section
variable {α:Type}{p:α→Bool}{xs:List α}
theorem Ij{k:Nat}(hk:k<xs.length):E5 p (xs.take (k+1))=E5 p (xs.take k)++if p xs[k]=true then [] else [xs[k]]:=by
 unfold E5;rw[Afi hk,AgD];cases h:p xs[k]<;>simp[h]
theorem Km(h:∀x∈xs,p x=false):E5 p xs=xs:=List.filter_eq_self.2 fun x hx=>by simp[h x hx]
theorem Pc(p:α→Bool)(xs:List α):(Hg p xs=-1∧∀x∈xs,p x=false)∨∃k,∃hk:k<xs.length,Hg p xs=(k:Int)∧p xs[k]=true∧E5 p (xs.take k)=xs.take k:=by
 unfold Hg;cases h:xs.findIdx? p with
 |none=>
  rw[Ag2] at h;exact .inl ⟨rfl,h⟩
 |some i=>
  rw[Agn] at h;obtain⟨hi,hp,hj⟩:=h;refine .inr ⟨i,hi,rfl,hp,Km fun x hx=>?_⟩;obtain⟨j,hjl,rfl⟩:=Afz hx;rw[Afj] at hjl;rw[AhN];have:=hj j (by omega);simpa using this
end
end
section
section
variable {P:Program}{e:Env}{w:World}{B:Aq}{h:Ae}{M:List SA}{t:TypeId}{pos:String}{af:Array Edge}{g:Option (Nat×Bool)}{d:Option Nat}
theorem Aes{T Kt Vt:TypeId}{ik:IntKind}{b:Nat}{es:List (Int×Int)}{x y:Operand}{i:Int}(I:Inv B h M w)(hT:Und P T (.map Kt Vt))(hK:Und P Kt (.int ik))(hz:Pj P Vt (.int .i64 0))(n:Nat)(hn:M[n]?=some (Ow b es))(hx:ev e x=.map (some b))(hy:ev e y=.int .i64 i) :
  Y P ⟨d,.lookup T x y true,t,pos,af,g⟩ e w (.tuple #[.int .i64 ((CS es i).getD 0),.bool (CS es i).isSome]):=by
 obtain⟨ents,clock,hm,h2⟩:=I.at n hn;have hg:(getObj b).run P w=.ok (.map ents.toArray clock) w:=BY hm (by intro c t f h;cases h);have hck:∀em,(Instr.checkKey em 10000 Kt (.int .i64 i)).run P w=.ok () w:=fun em=>Fj (n:=9999) hK;cases hl:CS es i with
 |none=>
  have hf:=DR (k:=ik) ents es 0 h2.is hl;simp[Y,execOp,hx,hy,Instr.lookup,run_underlying hT,hg,hck,Instr.findKey,run_underlying hK,hf,hz w]
 |some v=>
  obtain⟨j,_,hf,_⟩:=DS (k:=ik) ents es 0 h2.is hl;simp[Y,execOp,hx,hy,Instr.lookup,run_underlying hT,hg,hck,Instr.findKey,run_underlying hK,hf]
end
theorem ix2{x:Fct}{k:Nat}(hk:k<2):(([.int .i64 x.a,.int .i64 x.b]:List Value).drop ((k:Int).toNat*1)).take 1=[.int .i64 (xv x k)]:=by
 have:k=0∨k=1:=by omega
 rcases this with rfl|rfl<;>rfl
theorem YQ(B:Aq)(hB:B.ok)(a:Atm)(ha:a.In B.h)(h2:a.args.xs.length≤2)(x:Fct):Fn prog 188 [a.val,x.val] B (fun v _=>v=.bool (Ia a x)):=by
 refine Fo hB func188 rfl ntmps188 fun e I=>Sr<|Abj (O.box (v:=.agg #[_,_]) I rfl rfl fun b2 w I=>Abj (O.box (v:=.agg #[_,_,_,_]) I rfl rfl fun b3 w I=>Ab Ag<|Abh<|Abi<|Sr<|Ap (Abu AW rfl)<|Ai (Ld I An 1 0 1 rfl rfl rfl)<|Ap (Abu Bu rfl)<|Ai (Ld I An 0 0 1 rfl rfl rfl)<|Ad (AbK rfl rfl)<|Abh ?_));refine Abl rfl (fun h1=>?_) (fun h1=>?_)
 ·refine Sr<|Ab Ag<|Abh<|Wr ?_;exact Rm (v:=.bool _) rfl rfl I (by unfold Ia;rw[decide_eq_false h1];rfl)
 have h1:=Afh.1 h1;refine Abk<|Sr<|Abj (Ael I fun b16 w I=>AbB (v:=.map _) Ag<|Abh<|Abi<|Sr<|Ap (Abr Bb rfl)<|As0 (Ld I CN 2 1 1 rfl rfl rfl)<|Ai (AbA Aid rfl)<|Ai Mv<|Abh<|WP.block ?_);refine Abx (σ:=Nat×List (Int×Int)) (fun s=>[(2,Pt b2),(3,Pt b3),(5,.map (some b16)),(18,a.args.val),(19,.int .i64 a.args.xs.length),(20,.int .i64 s.1)])
  (fun s w=>Inv B B.h [Ow b16 s.2,box b3 x.enc 83,box b2 a.enc 61] w∧s.1≤a.args.xs.length∧RX a.args.xs x s.1=true∧∀n,CS s.2 n=NW a.args.xs x s.1 n) (fun s=>a.args.xs.length-s.1)
  ⟨(0,[]),⟨rfl,rfl,rfl,rfl,rfl,rfl,trivial⟩,I,Afa _,rfl,fun _=>rfl⟩ ?_
 rintro⟨k,es⟩ e w ⟨I,hk,hf,hes⟩;dsimp only at I hk hf hes ⊢;refine Sr<|Ad (AbC rfl rfl)<|Abh<|Abi ?_;refine Abl rfl (fun h5=>?_) (fun h5=>?_)
 ·have hk':k<a.args.xs.length:=by omega
  have hk2:k<2:=by omega
  have E:=Sl.Is.at ha hk';obtain⟨t,ht⟩:∃t,a.args.xs[k]=t:=⟨_,rfl⟩;have hgd:a.args.xs.getD k default=t:=by rw[Ae3,Ae4 hk',ht];rfl
  rw[ht] at E;refine Abk<|Abi<|WP.block<|Sr<|Ai Mv<|Ap (Ix E Aid Aik rfl rfl)<|Ax (Abn BZ rfl (I.rd (E.rd.part 0 2)) rfl rfl)<|Abj (O.alloc I Aig rfl fun b7 w I=>Ai Ag<|Abj (Sx I BZ 0 rfl rfl rfl rfl fun w I=>Abh<|Sr<|Ap (Abr BG rfl)<|Ai (Ld I An 2 1 1 rfl rfl rfl)<|Ap (Abr B8 rfl)<|Ai (Ld I An 2 2 1 rfl rfl rfl)<|AbB (v:=.agg #[.int .i64 _,.int .i64 _]) (AcW Aiz zeroValue255 Aij rfl rfl)<|Ai Mv<|Ai (AcG Aiz An rfl rfl (by omega) (by omega) (ix2 hk2) rfl rfl)<|Ai Ag<|Abh<|Abi<|Sr<|Ap (Abu AK rfl)<|Ab (Ld I Br 0 0 1 rfl rfl rfl)<|Ab (Y.not rfl)<|Abh ?_));refine AbG rfl (fun h8=>?_) (fun h8=>?_)
  ·have hv:t.var=false:=by simpa using h8
   obtain⟨o1,o2⟩:=QG (x:=x) hgd hv;refine Abi<|Sr<|Ap (Abr AI rfl)<|Ai (Ld I An 0 1 1 rfl rfl rfl)<|Ai Mv<|Ad (AbK rfl rfl)<|Abh ?_;refine Abl rfl (fun h9=>?_) (fun h9=>?_)
   ·refine Sr<|Ab Ag<|Abh<|Wr ?_;exact Rm (v:=.bool _) rfl rfl I (by rw[Mu hk' (o1.trans (decide_eq_false h9))];rfl)
   have h9:=Afh.1 h9;refine Abk<|Abz<|Abg<|Ai (Dd rfl rfl)<|Ai Mv<|Abh ?_;exact⟨(k+1,es),⟨⟨rfl,rfl,rfl,rfl,rfl,rfl,trivial⟩,I.drop,by dsimp only;omega,by rw[RX,hf,o1,decide_eq_true h9];rfl,fun n=>by dsimp only;rw[hes,o2]⟩,by dsimp only;omega⟩
  have hv:t.var=true:=by simpa using h8
  obtain⟨o1,o2⟩:=QH (x:=x) hgd hv;refine Abk<|Abi<|Sr<|AbB (v:=.map _) Mv<|Ap (Abr AI rfl)<|Ai (Ld I An 0 1 1 rfl rfl rfl)<|AbB (v:=.tuple #[.int .i64 _,.bool _]) (Aes I AiI Ait AiG 1 rfl rfl rfl)<|Au Mv<|Ai (Y.extract rfl rfl)<|Ab (Y.extract rfl rfl)<|Ai Ag<|Ab Ag<|Abh ?_;have next:RW a.args.xs x k=true→∀n,CS (iset es t.n (xv x k)) n=NW a.args.xs x (k+1) n:=fun _ n=>by rw[KN,o2,hes]
  cases hb:NW a.args.xs x k t.n with
  |none=>
   have ho:RW a.args.xs x k=true:=by rw[o1,hb];exact decide_eq_true rfl
   refine Sr<|Ab Mv<|AF (Y.b Mv ((by rw[hes,hb];rfl)))<|Gg<|Gg<|Gg<|Ab (Abp rfl rfl)<|Abh<|Abq rfl<|Abk<|Abg<|AbB (v:=.map _) Mv<|Ap (Abr AI rfl)<|Ai (Ld I An 0 1 1 rfl rfl rfl)<|Ai Mv<|Abj (Adz I AiI Ait 1 rfl rfl rfl rfl fun w I=>Abh<|Abg<|Ai (Dd rfl rfl)<|Ai Mv<|Abh ?_);exact⟨(k+1,iset es t.n (xv x k)),⟨⟨rfl,rfl,rfl,rfl,rfl,rfl,trivial⟩,I.drop,by dsimp only;omega,by rw[RX,hf,ho];rfl,next ho⟩,by dsimp only;omega⟩
  |some v=>
   by_cases hvx:v=xv x k
   ·have ho:RW a.args.xs x k=true:=by rw[o1,hb];exact decide_eq_true hvx
    refine Sr<|Ab Mv<|AT (Y.b Mv ((by rw[hes,hb];rfl)))<|Gi Mv<|Gi Mv<|GF (Abt (AbK rfl rfl) ((by rw[hes,hb];exact fun h=>h hvx)))<|Ab (Abo rfl rfl)<|Abh<|Abq rfl<|Abk<|Abg<|AbB (v:=.map _) Mv<|Ap (Abr AI rfl)<|Ai (Ld I An 0 1 1 rfl rfl rfl)<|Ai Mv<|Abj (Adz I AiI Ait 1 rfl rfl rfl rfl fun w I=>Abh<|Abg<|Ai (Dd rfl rfl)<|Ai Mv<|Abh ?_);exact⟨(k+1,iset es t.n (xv x k)),⟨⟨rfl,rfl,rfl,rfl,rfl,rfl,trivial⟩,I.drop,by dsimp only;omega,by rw[RX,hf,ho];rfl,next ho⟩,by dsimp only;omega⟩
   ·refine Sr<|Ab Mv<|AT (Y.b Mv ((by rw[hes,hb];rfl)))<|Gi Mv<|Gi Mv<|GT (Abs (AbK rfl rfl) ((by rw[hes,hb];exact hvx)))<|Ab (Abo rfl rfl)<|Abh<|Abw rfl<|Sr<|Ab Ag<|Abh<|Wr ?_;exact Rm (v:=.bool _) rfl rfl I (by rw[Mu hk' (by rw[o1,hb];exact decide_eq_false hvx)];rfl)
 obtain rfl:k=a.args.xs.length:=by omega
 refine Abz<|Sr<|Ab Ag<|Abh<|Wr ?_;exact Rm (v:=.bool _) rfl rfl I (by unfold Ia;rw[decide_eq_true h1,hf];rfl)
theorem YR{L:List Int}{i n v:Int}(hL:L.length=3)(h0:0≤i)(h3:i<3)(n0:0≤n):lv (L.set i.toNat v) n=if n=i then v else lv L n:=by
 unfold lv;rw[Ae3,Ae3,Ahe];by_cases h:n=i
 ·subst h;rw[if_pos rfl,if_pos (by omega),if_pos rfl];rfl
 ·rw[if_neg (by omega),if_neg h]
theorem WF(B:Aq)(hB:B.ok)(a:Atm)(ha:a.In B.h)(h2:a.args.xs.length≤2)(hva:∀t∈a.args.xs,t.var=true→0≤t.n∧t.n<3)(x:Fct)(hxa:0≤x.a)(hxb:0≤x.b):Fn prog 152 [a.val,x.val] B (fun v _=>v=.bool (Ia a x)):=by
 refine Fo hB func152 rfl ntmps152 fun e I=>Sr<|Abj (O.box (v:=.agg #[_,_]) I rfl rfl fun b2 w I=>Abj (O.box (v:=.agg #[_,_,_,_]) I rfl rfl fun b3 w I=>Ab Ag<|Abh<|Sr<|AbB (v:=.agg #[.int .i64 _,.int .i64 _,.int .i64 _]) (AcW Aiq zeroValue167 Aij rfl rfl)<|Abj (O.alloc I zeroValue167 rfl fun b5 w I=>Abj (Sy I CI 0 rfl rfl rfl rfl fun w I=>Abh<|Abi<|Sr<|Ai Ag<|Abh<|WP.block ?_))));refine Abx (σ:=Nat×List Int) (fun s=>[(2,Pt b2),(3,Pt b3),(5,Pt b5),(6,.int .i64 s.1)])
  (fun s w=>Inv B B.h [box b5 (s.2.map vI) 167,box b3 x.enc 83,box b2 a.enc 61] w∧s.1≤a.args.xs.length∧RX a.args.xs x s.1=true∧s.2.length=3∧∀n,0≤n→n<3→lv s.2 n=(NW a.args.xs x s.1 n).getD (-1)) (fun s=>a.args.xs.length-s.1)
  ⟨(0,[-1,-1,-1]),⟨rfl,rfl,rfl,rfl,trivial⟩,I,Afa _,rfl,rfl,fun n n0 n3=>by
   have:n=0∨n=1∨n=2:=by omega
   rcases this with rfl|rfl|rfl<;>rfl⟩ ?_
 rintro⟨k,L⟩ e w ⟨I,hk,hf,hL,hes⟩;dsimp only at I hk hf hL hes ⊢;have hsm:a.args.xs.length≤140737488355328:=Sl.Is.small ha;refine Abi<|Sr<|Ai Mv<|Ap (Abr Bb rfl)<|As0 (Ld I CN 2 1 1 rfl rfl rfl)<|Ai (AbA Aid rfl)<|Ad (AbC rfl rfl)<|Abh ?_;refine Abl rfl (fun h3=>?_) (fun h3=>?_)
 ·have hk':k<a.args.xs.length:=by omega
  have hk2:k<2:=by omega
  have E:=Sl.Is.at ha hk';obtain⟨t,ht⟩:∃t,a.args.xs[k]=t:=⟨_,rfl⟩;have hgd:a.args.xs.getD k default=t:=by rw[Ae3,Ae4 hk',ht];rfl
  have htv:t.var=true→0≤t.n∧t.n<3:=fun h=>hva t (ht▸Ae5 hk') h;rw[ht] at E;refine Abk<|Abi<|WP.block<|Sr<|Ap (Abr BG rfl)<|Ai (Ld I An 1 1 1 rfl rfl rfl)<|Ai Ag<|Abh<|Abi<|Sr<|Ai Mv<|Ad (AbI rfl rfl)<|Abh ?_;refine Ack (σ:=Unit) (fun _=>[(2,Pt b2),(3,Pt b3),(5,Pt b5),(6,.int .i64 k),(7,.int .i64 (xv x k))])
   (fun _ w=>Inv B B.h [box b5 (L.map vI) 167,box b3 x.enc 83,box b2 a.enc 61] w) ?_ ?_
  ·refine Abl rfl (fun h6=>?_) (fun h6=>?_)
   ·obtain rfl:k=1:=by omega
    exact Abg<|Ap (Abr B8 rfl)<|Ai (Ld I An 1 2 1 rfl rfl rfl)<|Ai Ag<|Abh<|⟨(),⟨rfl,rfl,rfl,rfl,rfl,trivial⟩,I⟩
   obtain rfl:k=0:=by omega
   exact Abk<|⟨(),⟨rfl,rfl,rfl,rfl,rfl,trivial⟩,I⟩
  rintro _ e w I;refine Sr<|Ap (Abr Bb rfl)<|As0 (Ld I CN 2 1 1 rfl rfl rfl)<|Ai Mv<|Ap (Ix E Aid Aik rfl rfl)<|Ax (Abn BZ rfl (I.rd (E.rd.part 0 2)) rfl rfl)<|Abj (O.alloc I Aig rfl fun b8 w I=>Abj (Sx I BZ 0 rfl rfl rfl rfl fun w I=>Abh ?_));cases hv:t.var
  ·obtain⟨o1,o2⟩:=QG (x:=x) hgd hv;by_cases hn:t.n=xv x k
   ·refine Abi<|Sr<|Ap (Abu AK rfl)<|Ab (Ld I Br 0 0 1 rfl rfl rfl)<|AT (Y.b (Y.not rfl) ((by rw[hv];rfl)))<|Ab Mv<|Gp (Abr AI rfl)<|Gi (Ld I An 0 1 1 rfl rfl rfl)<|Gi Mv<|GF (Abt (AbK rfl rfl) ((fun h=>h hn)))<|Ab (Abo rfl rfl)<|Ab Mv<|Gp (Abu AK rfl)<|GF (Y.b (Ld I Br 0 0 1 rfl rfl rfl) (hv))<|Gb Mv<|Gg<|Gg<|Gg<|Gg<|Gg<|Gb (Abp rfl rfl)<|Gb Mv<|Gg<|Gg<|Gg<|Gg<|Gg<|Gg<|Gb (Abp rfl rfl)<|Ab (Abp rfl rfl)<|Abh<|Abq rfl<|Abk<|Sr<|Ap (Abu AK rfl)<|AF (Y.b (Ld I Br 0 0 1 rfl rfl rfl) (hv))<|Abh<|Abq rfl<|Abk<|Abg<|Ai Mv<|Ai (Dd rfl rfl)<|Ai Ag<|Abh ?_;exact⟨(k+1,L),⟨⟨rfl,rfl,rfl,rfl,trivial⟩,I.drop,by dsimp only;omega,by rw[RX,hf,o1,decide_eq_true hn];rfl,hL,fun n n0 n3=>by dsimp only;rw[hes n n0 n3,o2]⟩,by dsimp only;omega⟩
   ·refine Abi<|Sr<|Ap (Abu AK rfl)<|Ab (Ld I Br 0 0 1 rfl rfl rfl)<|AT (Y.b (Y.not rfl) ((by rw[hv];rfl)))<|Ab Mv<|Gp (Abr AI rfl)<|Gi (Ld I An 0 1 1 rfl rfl rfl)<|Gi Mv<|GT (Abs (AbK rfl rfl) (hn))<|Ab (Abo rfl rfl)<|Ab Mv<|Gg<|Gg<|Gg<|Gg<|Gg<|Gg<|Gg<|Gg<|Gg<|Gg<|Gg<|Gg<|Gg<|Gg<|Gg<|Gg<|Gg<|Ab (Abo rfl rfl)<|Abh<|Abw rfl<|Sr<|Ab Ag<|Abh<|Wr ?_;exact Rm (v:=.bool _) rfl rfl I (by rw[Mu hk' (o1.trans (decide_eq_false hn))];rfl)
  ·obtain⟨o1,o2⟩:=QH (x:=x) hgd hv;obtain⟨n0,n3⟩:=htv hv;have next:∀n,0≤n→n<3→lv (L.set t.n.toNat (xv x k)) n=(NW a.args.xs x (k+1) n).getD (-1):=fun n m0 m3=>by
    rw[YR hL n0 n3 m0,o2];split
    ·rfl
    ·exact hes n m0 m3
   have hlv:=hes t.n n0 n3;have hLs:=DG (n:=3) hL n0 n3;cases hb:NW a.args.xs x k t.n with
   |none=>
    have ho:RW a.args.xs x k=true:=by rw[o1,hb];exact decide_eq_true rfl
    rw[hb] at hlv;refine Abi<|Sr<|Ap (Abu AK rfl)<|Ab (Ld I Br 0 0 1 rfl rfl rfl)<|AF (Y.b (Y.not rfl) ((by rw[hv];rfl)))<|Ab Mv<|Gg<|Gg<|Gg<|Gg<|Ab (Abp rfl rfl)<|Ab Mv<|Gp (Abu AK rfl)<|GT (Y.b (Ld I Br 0 0 1 rfl rfl rfl) (hv))<|Gb Mv<|Gp (Abr AI rfl)<|Gi (Ld I An 0 1 1 rfl rfl rfl)<|Gp (Ab1 Aiq Aij rfl rfl n0 n3)<|Gi (Abn An rfl (I.w9 1 rfl (by omega) hLs) rfl rfl)<|GF (Abt (AbK rfl rfl) ((by rw[hlv];exact fun h=>h rfl)))<|Gb (Abo rfl rfl)<|Gb Mv<|Gg<|Gg<|Gg<|Gg<|Gg<|Gg<|Gb (Abp rfl rfl)<|Ab (Abp rfl rfl)<|Abh<|Abq rfl<|Abk<|Sr<|Ap (Abu AK rfl)<|AT (Y.b (Ld I Br 0 0 1 rfl rfl rfl) (hv))<|Abh<|Abw rfl<|Abg<|Ap (Abr AI rfl)<|Ai (Ld I An 0 1 1 rfl rfl rfl)<|Ai Mv<|Ap (Ab1 Aiq Aij rfl rfl n0 n3)<|Abj (AcQ I An 1 rfl rfl (f:=vI) (L:=L) (i:=t.n.toNat) (by omega) (by omega) rfl rfl rfl fun w I=>Abh<|Abg<|Ai Mv<|Ai (Dd rfl rfl)<|Ai Ag<|Abh ?_);exact⟨(k+1,L.set t.n.toNat (xv x k)),⟨⟨rfl,rfl,rfl,rfl,trivial⟩,I.drop,by dsimp only;omega,by rw[RX,hf,ho];rfl,by simpa using hL,next⟩,by dsimp only;omega⟩
   |some v=>
    rw[hb] at hlv;have hv1:v≠-1:=by have:=XD hxa hxb hb;omega
    by_cases hvx:v=xv x k
    ·have ho:RW a.args.xs x k=true:=by rw[o1,hb];exact decide_eq_true hvx
     refine Abi<|Sr<|Ap (Abu AK rfl)<|Ab (Ld I Br 0 0 1 rfl rfl rfl)<|AF (Y.b (Y.not rfl) ((by rw[hv];rfl)))<|Ab Mv<|Gg<|Gg<|Gg<|Gg<|Ab (Abp rfl rfl)<|Ab Mv<|Gp (Abu AK rfl)<|GT (Y.b (Ld I Br 0 0 1 rfl rfl rfl) (hv))<|Gb Mv<|Gp (Abr AI rfl)<|Gi (Ld I An 0 1 1 rfl rfl rfl)<|Gp (Ab1 Aiq Aij rfl rfl n0 n3)<|Gi (Abn An rfl (I.w9 1 rfl (by omega) hLs) rfl rfl)<|GT (Abs (AbK rfl rfl) ((by rw[hlv];exact hv1)))<|Gb (Abo rfl rfl)<|Gb Mv<|Gp (Abr AI rfl)<|Gi (Ld I An 0 1 1 rfl rfl rfl)<|Gp (Ab1 Aiq Aij rfl rfl n0 n3)<|Gi (Abn An rfl (I.w9 1 rfl (by omega) hLs) rfl rfl)<|Gi Mv<|GF (Abt (AbK rfl rfl) ((by rw[hlv];exact fun h=>h hvx)))<|Gb (Abo rfl rfl)<|Ab (Abp rfl rfl)<|Abh<|Abq rfl<|Abk<|Sr<|Ap (Abu AK rfl)<|AT (Y.b (Ld I Br 0 0 1 rfl rfl rfl) (hv))<|Abh<|Abw rfl<|Abg<|Ap (Abr AI rfl)<|Ai (Ld I An 0 1 1 rfl rfl rfl)<|Ai Mv<|Ap (Ab1 Aiq Aij rfl rfl n0 n3)<|Abj (AcQ I An 1 rfl rfl (f:=vI) (L:=L) (i:=t.n.toNat) (by omega) (by omega) rfl rfl rfl fun w I=>Abh<|Abg<|Ai Mv<|Ai (Dd rfl rfl)<|Ai Ag<|Abh ?_);exact⟨(k+1,L.set t.n.toNat (xv x k)),⟨⟨rfl,rfl,rfl,rfl,trivial⟩,I.drop,by dsimp only;omega,by rw[RX,hf,ho];rfl,by simpa using hL,next⟩,by dsimp only;omega⟩
    ·refine Abi<|Sr<|Ap (Abu AK rfl)<|Ab (Ld I Br 0 0 1 rfl rfl rfl)<|AF (Y.b (Y.not rfl) ((by rw[hv];rfl)))<|Ab Mv<|Gg<|Gg<|Gg<|Gg<|Ab (Abp rfl rfl)<|Ab Mv<|Gp (Abu AK rfl)<|GT (Y.b (Ld I Br 0 0 1 rfl rfl rfl) (hv))<|Gb Mv<|Gp (Abr AI rfl)<|Gi (Ld I An 0 1 1 rfl rfl rfl)<|Gp (Ab1 Aiq Aij rfl rfl n0 n3)<|Gi (Abn An rfl (I.w9 1 rfl (by omega) hLs) rfl rfl)<|GT (Abs (AbK rfl rfl) ((by rw[hlv];exact hv1)))<|Gb (Abo rfl rfl)<|Gb Mv<|Gp (Abr AI rfl)<|Gi (Ld I An 0 1 1 rfl rfl rfl)<|Gp (Ab1 Aiq Aij rfl rfl n0 n3)<|Gi (Abn An rfl (I.w9 1 rfl (by omega) hLs) rfl rfl)<|Gi Mv<|GT (Abs (AbK rfl rfl) ((by rw[hlv];exact hvx)))<|Gb (Abo rfl rfl)<|Ab (Abp rfl rfl)<|Abh<|Abw rfl<|Sr<|Ab Ag<|Abh<|Wr ?_;exact Rm (v:=.bool _) rfl rfl I (by rw[Mu hk' (by rw[o1,hb];exact decide_eq_false hvx)];rfl)
 obtain rfl:k=a.args.xs.length:=by omega
 refine Abz<|Sr<|Ap (Abu Bu rfl)<|Ai (Ld I An 1 0 1 rfl rfl rfl)<|Ap (Abu AW rfl)<|Ai (Ld I An 2 0 1 rfl rfl rfl)<|Ad (AbI rfl rfl)<|Ab Ag<|Abh<|Wr ?_;exact Rm (v:=.bool _) rfl rfl I (by unfold Ia;rw[hf,Ahy];exact congrArg Value.bool (decide_eq_decide.2 eq_comm))
end
section
set_option maxRecDepth 10000
theorem Kn(B:Aq)(hB:B.ok)(l:Sl Ltl)(hl:l.Is 3 Ltl.enc B.h)(f:FuncId)(ent:BE prog f)(fs cs:List Value)(p:Ltl→Bool)(hp:Ex prog f fs cs B.h Ltl.val l.xs p) :
  Fn prog 225 [l.val,.func (.func f) fs.toArray cs.toArray] B (fun v _=>v=.int .i64 (Hg p l.xs)):=by
 refine Fo hB func225 rfl ntmps225 fun e I=>Sr<|Ai Ag<|Abh<|Abi<|Sr<|As0 Mv<|Ai (AbA Aib rfl)<|Ai Mv<|Abh<|WP.block ?_;refine Abx (σ:=Nat) (fun k=>[(0,l.val),(1,.func (.func f) fs.toArray cs.toArray),(7,.int .i64 l.xs.length),(8,.int .i64 k)]) (fun k w=>Inv B B.h [] w∧k≤l.xs.length∧∀j (hj:j<k) (hj':j<l.xs.length),p l.xs[j]=false) (fun k=>l.xs.length-k)
  ⟨0,⟨rfl,rfl,rfl,rfl,trivial⟩,I,Afa _,fun j hj=>(by omega)⟩ ?_
 rintro k e w ⟨I,hk,hn⟩;have hsm:=hl.small;refine Sr<|Ad (AbC rfl rfl)<|Abh<|Abi ?_;refine Abl rfl (fun h=>?_) (fun h=>?_)
 ·have hk':k<l.xs.length:=by omega
  have E1:=hl.at hk';refine Abk<|Abi<|WP.block<|Sr<|Ai Mv<|Ai Ag<|Abh<|Sr<|Af Mv<|As0 Mv<|Ai Mv<|Ap (Ix E1 Aib Ail rfl rfl)<|Ay (Abn EQ rfl (I.rd (E1.rd.part 0 3)) rfl rfl)<|Abj (Acd I ent rfl (hp ⟨w,B.h⟩ I.j6 (Ae.le.refl _) l.xs[k] (Ae5 hk')) rfl fun w I=>Abh ?_);refine AbG rfl (fun hb=>?_) (fun hb=>?_)
  ·refine Sr<|Ai Mv<|Ai Ag<|Abh<|Wr ?_;exact Rm (v:=.int .i64 _) rfl rfl I (by simp only[tup];rw[F2 hk' (fun j hj=>hn j hj (by omega)) hb])
  refine Abk<|Abg<|Ai (Dd rfl rfl)<|Ai Mv<|Abh ?_;exact⟨k+1,⟨⟨rfl,rfl,rfl,rfl,trivial⟩,I,by omega,fun j hj hj'=>by
   rcases Afd.1 hj with h'|h'
   ·exact hn j h' hj'
   ·subst h';exact hb⟩,by omega⟩
 refine Abz<|Sr<|Ai Ag<|Abh<|Wr ?_;exact Rm (v:=.int .i64 _) rfl rfl I (by simp only[tup];rw[F1];intro x hx;obtain⟨j,hj,rfl⟩:=Afz hx;exact hn j (by omega) hj)
theorem HO(B:Aq)(hB:B.ok)(l:Sl Ltl)(hl:l.Is 3 Ltl.enc B.h)(f:FuncId)(ent:BE prog f)(fs cs:List Value)(p:Ltl→Bool)(hp:Ex prog f fs cs B.h Ltl.val l.xs p) :
  Fn prog 181 [l.val,.func (.func f) fs.toArray cs.toArray] B (fun v _=>v=.bool (l.xs.any p)):=by
 refine Fo hB func181 rfl ntmps181 fun e I=>Sr<|Ab Ag<|Abh<|Sr<|As0 Mv<|Af Mv<|Abj (Abm I call225 (Kn _ I.j6 l hl f ent fs cs p hp) rfl fun w I=>Ad (AbZ rfl rfl)<|Ab Ag<|Abh<|Wr ?_);exact Rm (v:=.bool _) rfl rfl I (by simp only[tup];rw[JL])
end
section
theorem Do(x:Fct):x.enc.length=4:=rfl
theorem Ob{B:Aq}{h:Ae}{M:List SA}{w:World}{a:Option Addr}{c m:Nat}{xs:List Fct}(I:Inv B h (Ao 83 4 (.slice a m c) m (xs.flatMap Fct.enc)::M) w)(hm:m=xs.length)(hsz:m≤1000000000)
  (f:FuncId) (ent:BE prog f) (fs cs:List Value) (p:Fct→Bool) (hp:Ex prog f fs cs h Fct.val xs p) :
  Calls prog 139 [.slice a m c,.func (.func f) fs.toArray cs.toArray].toArray w
   (fun ed w'=>∃v m',ed=.returned v∧m'=(E5 p xs).length∧Inv B h (Ao 83 4 v m' ((E5 p xs).flatMap Fct.enc)::M) w'):=by
 obtain⟨hv,s,hle,hsv,hsx,hin,Iv⟩:=I.p8 Do hm;have hi:=JN ⟨w,hv⟩ Iv.j6 s ⟨hin,by rw[hsx];omega⟩ f ent fs cs p (by rw[hsx];exact fun B' ok hl x hx=>hp B' ok (hle.trans hl) x hx);rw[hsv,hsx] at hi;rcases Pc p xs with ⟨hx,hno⟩|⟨k0,hk0,hx,hpk,hkt⟩
 ·rw[hx] at hi;refine AbV (args:=[.slice a m c,.func (.func f) fs.toArray cs.toArray]) func139 rfl ntmps139 (by kernel_rfl) (by simp) fun e=>Sr<|As0 Ag<|Abh<|Sr<|As0 Mv<|Af Mv<|Abj (Ads I call184 (hi) rfl fun w I=>Ai Ag<|Abh<|Abi<|Sr<|Ai Mv<|Ad (AbI rfl rfl)<|Abh<|Aco rfl (rfl)<|Sr<|As0 Mv<|As0 Ag<|Abh<|Wr ?_);exact⟨.inl rfl,[.slice a m c],⟨rfl,trivial⟩,_,m,rfl,by rw[Km hno];exact hm,by rw[Km hno];exact I⟩
 rw[hx] at hi;rcases(I.at 0 rfl).2 with ⟨h0,hn⟩|⟨gg,cap,cur,he,_,hg,hnc,hcm,_⟩
 ·injection h0 with e1 e2 e3;omega
 injection he with e1 e2 e3;subst e1;subst e3;simp only[maxLen] at hcm;refine AbV (args:=[.slice (some ⟨gg,0,none⟩) m c,.func (.func f) fs.toArray cs.toArray]) func139 rfl ntmps139 (by kernel_rfl) (by simp) fun e=>Sr<|As0 Ag<|Abh<|Sr<|As0 Mv<|Af Mv<|Abj (Ads I call184 (hi) rfl fun w I=>Ai Ag<|Abh<|Abi<|Sr<|Ai Mv<|Ad (AbI rfl rfl)<|Abh<|Ach rfl ((by omega))<|Abk<|Abi<|Sr<|Ai Mv<|Ai (Dd rfl rfl)<|Ai Ag<|Abh ?_);refine Acc (σ:=Nat) (fun q=>[(0,.slice (some ⟨gg,0,none⟩) m c),(5,.int .i64 q)]) (fun q w=>∃zs:List Fct,Inv B h (Ao 83 4 (.slice (some ⟨gg,0,none⟩) m c) m (zs.flatMap Fct.enc)::M) w∧zs.take q=E5 p xs∧q=(E5 p xs).length∧q<m) ?_ ?_
 ·refine WP.block ?_;refine Abx (σ:=Nat×Nat×List Fct) (fun s=>[(0,.slice (some ⟨gg,0,none⟩) m c),(1,.func (.func f) fs.toArray cs.toArray),(5,.int .i64 s.2.1),(6,.int .i64 s.1)])
   (fun s w=>Inv B h (Ao 83 4 (.slice (some ⟨gg,0,none⟩) m c) m (s.2.2.flatMap Fct.enc)::M) w∧s.1≤m∧s.2.2.length=m∧s.2.1<s.1∧s.2.2.take s.2.1=E5 p (xs.take s.1)∧s.2.1=(E5 p (xs.take s.1)).length∧(∀j,s.1≤j→s.2.2[j]?=xs[j]?)) (fun s=>m-s.1)
   ⟨(k0+1,k0,xs),⟨rfl,rfl,rfl,rfl,trivial⟩,I,by dsimp only;omega,hm.symm,Ahu _,by dsimp only;rw[Ij hk0,if_pos hpk,Aft,hkt],by dsimp only;rw[Ij hk0,if_pos hpk,Aft,hkt,Afj];omega,fun _ _=>rfl⟩ ?_
  rintro⟨j,q,zs⟩ e w ⟨I,h2,hzl,hq1,hq2,hq3,hz⟩;dsimp only at I h2 hzl hq1 hq2 hq3 hz ⊢;refine Abi<|Sr<|Ai Mv<|As0 Mv<|Ai (AbA Ah8 rfl)<|Ad (AbC rfl rfl)<|Abh ?_;refine Abl rfl (fun h5=>?_) (fun h5=>?_)
  ·have hj:j<xs.length:=by omega
   have f1:zs[j]?=some xs[j]:=by rw[hz _ (Afg _)];exact Ae4 hj
   have hkt:=Ij (p:=p) hj;refine Abk<|Abi<|WP.block<|Sr<|As0 Mv<|Ai Mv<|Ap (Acy Ah8 Aih rfl rfl (by omega) (by omega))<|Az (Abn AH rfl (I.rdG Do 0 rfl f1 (by omega)) rfl rfl)<|Abj (O.alloc I Aii rfl fun b7 w I=>Abj (Ab3 (v:=xs[j].val) I AH 0 rfl rfl rfl rfl rfl rfl (Nb rfl) rfl fun w I=>Abh<|Sr<|Af Mv<|Az (Ld I AH 0 0 4 rfl rfl rfl)<|Abj (Acd I ent rfl (hp ⟨w,h⟩ I.j6 (Ae.le.refl _) xs[j] (Ae5 hj)) rfl fun w I=>Ab (Y.not rfl)<|Abh ?_)));refine AbG rfl (fun h8=>?_) (fun h8=>?_)
   ·have h8:p xs[j]=false:=by simpa using h8
    rw[h8] at hkt;refine Sr<|As0 Mv<|Ai Mv<|Az (Ld I AH 0 0 4 rfl rfl rfl)<|Ap (Acy Ah8 Aih rfl rfl (by omega) (by omega))<|Abj (Ad3 (vs:=xs[j].enc) I AH D6 1 rfl rfl rfl rfl rfl rfl (by rw[Cr Do,Do];omega) fun w I=>Abh ?_);have I:Inv B h (Ao 83 4 (.slice (some ⟨gg,0,none⟩) m c) m ((zs.set q xs[j]).flatMap Fct.enc)::M) w:=by
     rw[←RI Do _ _ _ (by omega)];have J:=I.drop;simp only[Afs,Agg] at J;exact J
    refine Abg<|Ai Mv<|Ai (Dd rfl rfl)<|Ai Ag<|Abh<|Abg<|Ai Mv<|Ai (Dd rfl rfl)<|Ai Ag<|Abh ?_;refine⟨(j+1,q+1,zs.set q xs[j]),⟨⟨rfl,rfl,rfl,rfl,trivial⟩,I,by dsimp only;omega,by simpa using hzl,by dsimp only;omega,?_,?_,fun i hi=>?_⟩,by dsimp only;omega⟩
    ·dsimp only;rw[hkt,←hq2,Afi (by simp;omega),UD];simp
    ·dsimp only;rw[hkt,Ae2,←hq3];rfl
    ·dsimp only at hi ⊢;rw[Agw (by omega)];exact hz i (by omega)
   ·have h8:p xs[j]=true:=by simpa using h8
    rw[h8,if_pos rfl,Aft] at hkt;refine Abk<|Abg<|Ai Mv<|Ai (Dd rfl rfl)<|Ai Ag<|Abh ?_;exact⟨(j+1,q,zs),⟨⟨rfl,rfl,rfl,rfl,trivial⟩,I.drop,by dsimp only;omega,hzl,by dsimp only;omega,by dsimp only;rw[hkt];exact hq2,by dsimp only;rw[hkt];exact hq3,fun i hi=>hz i (by dsimp only at hi;omega)⟩,by dsimp only;omega⟩
  ·have hjm:j=xs.length:=by omega
   rw[hjm,Afo] at hq2 hq3;refine Abz ?_;exact⟨q,⟨rfl,rfl,trivial⟩,zs,I,hq2,hq3,by omega⟩
 rintro q e w ⟨zs,I,hq2,hq3,hq4⟩;have I:=I.y7 (m:=q) (by omega);rw[Dy Do,hq2] at I;refine Sr<|As0 Mv<|Ai Mv<|As0 (AcC (l:=q) (h':=m) Ah8 Aih rfl (.inr ⟨_,_,rfl,rfl⟩) (.inl ⟨rfl,rfl⟩) (by omega) (by omega) (by omega))<|Abj (AdE I Ah8 D6 (by simp[Value.cells,Value.oneCell']) rfl (by omega) rfl (by omega) fun w I=>Abh<|Sr<|As0 Mv<|Ai Mv<|As0 (AcC (l:=0) (h':=q) Ah8 Aih rfl (.inl ⟨rfl,rfl⟩) (.inr ⟨_,_,rfl,rfl⟩) (by omega) (by omega) (by omega))<|As0 Ag<|Abh<|Wr ?_);exact⟨.inl rfl,[.slice (some ⟨gg,0,none⟩) q c],⟨rfl,trivial⟩,_,q,rfl,hq3,I⟩
theorem Ko{B:Aq}{h:Ae}{M:List SA}{w:World}{v:Value}{m:Nat}{xs:List Fct}(I:Inv B h (Ao 83 4 v m (xs.flatMap Fct.enc)::M) w)(hm:m=xs.length)(hsz:m≤1000000000)
  (f:FuncId) (ent:BE prog f) (fs cs:List Value) (p:Fct→Bool) (hp:Ex prog f fs cs h Fct.val xs p) :
  Calls prog 139 [v,.func (.func f) fs.toArray cs.toArray].toArray w
   (fun ed w'=>∃v m',ed=.returned v∧m'=(E5 p xs).length∧Inv B h (Ao 83 4 v m' ((E5 p xs).flatMap Fct.enc)::M) w'):=by
 obtain⟨_,s,_,rfl,hsx,_,_⟩:=I.p8 Do hm;obtain rfl:m=s.xs.length:=by rw[hsx];exact hm
 exact Ob I hm hsz f ent fs cs p hp
end
section
theorem Pd{α:Type}(p:α→Bool)(xs:List α):E5 (fun x=>!p x) xs=xs.filter p:=by unfold E5;simp
theorem RK(a:Atm)(b:Nat)(g:List Fct){h:Ae}(kb:Ci h b a.enc)(ha:a.In h)(h2:a.args.xs.length≤2):Ex prog 187 [] [Pt b] h Fct.val g (fun x=>!Ia a x):=by
 intro B hB hle x _;have kb:=kb.le hle;have ha:=ha.le hle;show Fn prog 187 [x.val,Pt b] B _;refine Fo hB func187 rfl ntmps187 fun e I=>Sr<|Abj (O.box (v:=.agg #[_,_,_,_]) I rfl rfl fun b2 w I=>Ab Ag<|Abh<|Sr<|Ax (Abn AP rfl (I.rd (kb.rd.part 0 2)) rfl rfl)<|Az (Ld I AH 0 0 4 rfl rfl rfl)<|Abj (Abm I call188 (YQ _ I.j6 a ha h2 x) rfl fun w I=>Ab (Y.not rfl)<|Ab Ag<|Abh<|Wr ?_));exact Rm (v:=.bool _) rfl rfl I (rfl)
def U6(r:List Fct×Int)(v:Value)(h:Ae):Prop:=∃s:Sl Fct,v=.tuple #[s.val,.int .i64 r.2]∧s.xs=r.1∧Cv s h
theorem WG(B:Aq)(hB:B.ok)(p:Prg)(hp:p.In B.h)(hnm:p.Nm)(f:Sl Fct)(hf:Cv f B.h)(a:Atm)(ha:a.In B.h):Fn prog 143 [p.val,f.val,a.val] B (U6 (DH p f.xs a)):=by
 refine Fo hB func143 rfl ntmps143 fun e I=>Sr<|Abj (O.box (v:=.agg #[_,_]) I rfl rfl fun b3 w I=>Abj (O.box (v:=.agg #[_,_]) I rfl rfl fun b5 w I=>As0 Ag<|Ai Ag<|Abh<|Abi<|Sr<|Ax (Ld I As 1 0 2 rfl rfl rfl)<|Abj (Abm I call22 (Hl _ I.j6 p hp hnm) rfl fun w I=>Ai Ag<|Abh<|Sr<|Ai Mv<|Ad (AbK rfl rfl)<|Abh ?_)));refine Abl rfl (fun h2=>?_) (fun h2=>?_)
 ·refine Sr<|Ai Mv<|As0 Ag<|Ai Ag<|Abh<|Wr ?_;exact BH.mk (vs:=[.slice _ _ _,.int .i64 _]) rfl ⟨rfl,rfl,trivial⟩ I.j5 (by unfold DH TD;rw[if_pos h2,if_pos h2];exact⟨⟨none,0,[]⟩,rfl,rfl,nilF⟩)
 have hpr:=Afh.1 h2;have hA:TD p f.xs=checkFacts p.preds.xs f.xs:=by unfold TD;rw[if_neg h2]
 refine Abk<|Abi<|Sr<|Ap (Abu At rfl)<|As0 (Ld I A7 1 0 1 rfl rfl rfl)<|As0 Mv<|Abj (Abm I call50 (Tv _ I.j6 p.preds hp.preds f hf) rfl fun w I=>Ai Ag<|Abh<|Sr<|Ai Mv<|Ad (AbK rfl rfl)<|Abh ?_);refine Abl rfl (fun h5=>?_) (fun h5=>?_)
 ·refine Sr<|Ai Mv<|As0 Ag<|Ai Ag<|Abh<|Wr ?_;exact BH.mk (vs:=[.slice _ _ _,.int .i64 _]) rfl ⟨rfl,rfl,trivial⟩ I.j5 (by unfold DH;rw[hA,if_pos h5];exact⟨⟨none,0,[]⟩,rfl,rfl,nilF⟩)
 have okf:=ES.1 (Afh.1 h5);have h125:=okf.aa6;refine Abk<|Abi<|Sr<|Ap (Abu At rfl)<|As0 (Ld I A7 1 0 1 rfl rfl rfl)<|Ax (Ld I AP 0 0 2 rfl rfl rfl)<|Abj (Abm I call117 (H6 _ I.j6 p.preds hp.preds a ha) rfl fun w I=>Ai Ag<|Abh<|Sr<|Ai Mv<|Ad (AbK rfl rfl)<|Abh ?_);refine Abl rfl (fun h8=>?_) (fun h8=>?_)
 ·refine Sr<|Ai Mv<|As0 Ag<|Ai Ag<|Abh<|Wr ?_;exact BH.mk (vs:=[.slice _ _ _,.int .i64 _]) rfl ⟨rfl,rfl,trivial⟩ I.j5 (by unfold DH;rw[hA,if_neg h5,if_pos h8];exact⟨⟨none,0,[]⟩,rfl,rfl,nilF⟩)
 have h8':=Afh.1 h8;have ao:=Bc okf.preds h8';obtain⟨h6,le6,_,kb5,I,_,_⟩:=I.aa7;have hB6:=I.ext;refine Abk<|Sr<|As0 Mv<|Abj (AbE I call137 (C4 _ I.j6 f (hf.le le6) (by omega)) rfl ?_);rintro _ h7 w I le7 ⟨gs,rfl,eg,og,_⟩;obtain⟨h9,I,mono9,_⟩:=I.x9 og hB6;rw[eg] at I;have gl9:h6.le h9:=mono9 _ le7 (Ae.le.refl _);refine AbB (v:=.func (.func 187) #[] #[Pt b5]) (Acq rfl rfl)<|Abj (Ace call139 (Ko I rfl (by omega) 187 call187 [] [Pt b5] (fun x=>!Ia a x) (RK a b5 f.xs (kb5.le gl9) ((ha.le le6).le gl9) ao.len)) rfl ?_);rintro ed w ⟨v,m,rfl,rfl,I⟩;refine⟨_,rfl,?_⟩;refine AbB (v:=v) Ag<|Ai Ag<|Abh ?_;obtain⟨h10,s,le10,rfl,hx,is,I⟩:=I.p8 Do rfl;rw[Pd] at hx;have hsl:s.xs.length≤f.xs.length:=by rw[hx];exact AfO ..
 refine Wr ?_;exact BH.mk (vs:=[.slice _ _ _,.int .i64 _]) rfl ⟨rfl,rfl,trivial⟩ I.j5 (by unfold DH;rw[hA,if_neg h5,if_neg h8];exact⟨s,rfl,hx,is,by omega⟩)
theorem Kp{α:Type}(q:α→Bool){l:List α}{k:Nat}(hk:k<l.length):(l.take (k+1)).filter q=(l.take k).filter q++if q l[k]=true then [l[k]] else []:=by
 rw[Afi hk,AgD];congr 1;by_cases h:q l[k]=true
 ·rw[if_pos h,Agv,if_pos h];rfl
 ·rw[if_neg h,Agv,if_neg h];rfl
theorem RL(B:Aq)(hB:B.ok)(p:Prg)(hp:p.In B.h)(hnm:p.Nm)(f:Sl Fct)(hf:Cv f B.h)(a:Atm)(ha:a.In B.h):Fn prog 102 [p.val,f.val,a.val] B (U6 (DH p f.xs a)):=by
 refine Fo hB func102 rfl ntmps102 fun e I=>Sr<|Abj (O.box (v:=.agg #[_,_]) I rfl rfl fun b3 w I=>Abj (O.box (v:=.agg #[_,_]) I rfl rfl fun b5 w I=>As0 Ag<|Ai Ag<|Abh<|Abi<|Sr<|Ax (Ld I As 1 0 2 rfl rfl rfl)<|As0 Mv<|Abj (Abm I call20 (Mk _ I.j6 p hp hnm f hf) rfl fun w I=>Ai Ag<|Abh<|Sr<|Ai Mv<|Ad (AbK rfl rfl)<|Abh ?_)));refine Abl rfl (fun h2=>?_) (fun h2=>?_)
 ·refine Sr<|Ai Mv<|As0 Ag<|Ai Ag<|Abh<|Wr ?_;exact BH.mk (vs:=[.slice _ _ _,.int .i64 _]) rfl ⟨rfl,rfl,trivial⟩ I.j5 (by unfold DH;rw[if_pos h2];exact⟨⟨none,0,[]⟩,rfl,rfl,nilF⟩)
 obtain⟨hpr,okf⟩:=P4.1 (Afh.1 h2);have h125:=okf.aa6;refine Abk<|Abi<|Sr<|Ap (Abu At rfl)<|As0 (Ld I A7 1 0 1 rfl rfl rfl)<|Ax (Ld I AP 0 0 2 rfl rfl rfl)<|Abj (Abm I call105 (CK _ I.j6 p.preds hp.preds a ha) rfl fun w I=>Ai Ag<|Abh<|Sr<|Ai Mv<|Ad (AbK rfl rfl)<|Abh ?_);refine Abl rfl (fun h5=>?_) (fun h5=>?_)
 ·refine Sr<|Ai Mv<|As0 Ag<|Ai Ag<|Abh<|Wr ?_;exact BH.mk (vs:=[.slice _ _ _,.int .i64 _]) rfl ⟨rfl,rfl,trivial⟩ I.j5 (by unfold DH;rw[if_neg h2,if_pos h5];exact⟨⟨none,0,[]⟩,rfl,rfl,nilF⟩)
 have ao:=Bc okf.preds (Afh.1 h5);refine Abk<|Sr<|As0 Ag<|Abh<|Abi<|Sr<|Ai Ag<|Abh<|WP.block ?_;refine Abx (σ:=Nat×Value×Ae) (fun s=>[(1,f.val),(3,Pt b3),(5,Pt b5),(10,s.2.1),(11,.int .i64 s.1)])
  (fun s w=>Inv B s.2.2 [Ao 83 4 s.2.1 ((f.xs.take s.1).filter (Ia a)).length (((f.xs.take s.1).filter (Ia a)).flatMap Fct.enc),box b5 a.enc 61,box b3 p.enc 25] w∧s.1≤f.xs.length∧B.h.le s.2.2) (fun s=>f.xs.length-s.1)
  ⟨(0,.slice none 0 0,B.h),⟨rfl,rfl,rfl,rfl,rfl,trivial⟩,I.l9 83 4,Afa _,Ae.le.refl _⟩ ?_
 rintro⟨k,v,hh⟩ e w ⟨I,hk,gl⟩;dsimp only at I hk gl ⊢;have hfl:((f.xs.take k).filter (Ia a)).length≤k:=AfY (AfO ..) (by rw[Afj];omega);refine Abi<|Sr<|Ai Mv<|As0 Mv<|Ai (AbA Ah8 rfl)<|Ad (AbC rfl rfl)<|Abh ?_;refine Abl rfl (fun h9=>?_) (fun h9=>?_)
 ·have hk':k<f.xs.length:=by omega
  have E:=(hf.le gl).at hk';have hfi:=okf.fine _ (Ae5 hk');have px:=By okf.len hfi;have hn:=Kp (Ia a) hk';refine Abk<|Abi<|WP.block<|Abi<|AbD AC I (by kernel_rfl)<|Qx (fun w I=>Ld I AP 1 0 2 rfl rfl rfl)<|Qs (fun w I=>Mv)<|Qi (fun w I=>Mv)<|Qp (fun w I=>Ix E Ah8 Aih rfl rfl)<|Qz (fun w I=>Abn AH rfl (I.rd (E.rd.part 0 4)) rfl rfl)<|Am.c (fun w I=>AbO I call152 (WF _ I.j6 a (ha.le gl) ao.len (fun t ht hv=>ao.var ht hv) f.xs[k] px.a0 px.b0) rfl)<|AbH fun w I=>?_;refine AbG rfl (fun h11=>?_) (fun h11=>?_)
  ·have h11:Ia a f.xs[k]=true:=h11;rw[if_pos h11] at hn;refine Abg<|AbB (v:=v) Mv<|As0 Mv<|Ai Mv<|Ap (Ix E Ah8 Aih rfl rfl)<|Az (Abn AH rfl (I.rd (E.rd.part 0 4)) rfl rfl)<|Abj (AbY (xs:=[f.xs[k]]) (enc:=Fct.enc) I Ah8 Aih Aii rfl (Nb rfl) rfl rfl (by decide) (fun _=>rfl) fun b42 h42 w I le42 sl42=>Abj (Ab0 I Ah8 D6 0 rfl rfl rfl (I.rd (sl42 0 _ rfl).2) rfl rfl (by decide) ((by omega)) (by omega) fun b43 c43 w I=>As0 Ag<|Abh<|Abg<|Ai Mv<|Ai (Dd rfl rfl)<|Ai Ag<|Abh ?_));refine⟨(k+1,.slice (some ⟨b43,0,none⟩) (((f.xs.take k).filter (Ia a)).length+1) c43,h42),⟨⟨rfl,rfl,rfl,rfl,rfl,trivial⟩,?_,by dsimp only;omega,gl.trans le42⟩,by dsimp only;omega⟩;dsimp only;rw[hn,Ae2,Afv,Afm,AfT];exact I
  ·have h11:Ia a f.xs[k]=false:=by simpa using h11
   rw[h11,if_neg (by decide),Aft] at hn;refine Abk<|Abg<|Ai Mv<|Ai (Dd rfl rfl)<|Ai Ag<|Abh ?_;exact⟨(k+1,v,hh),⟨⟨rfl,rfl,rfl,rfl,rfl,trivial⟩,by dsimp only;rw[hn];exact I,by dsimp only;omega,gl⟩,by dsimp only;omega⟩
 obtain rfl:k=f.xs.length:=by omega
 rw[Afo] at I hfl;obtain⟨h10,s,le10,rfl,hx,is,I⟩:=I.p8 Do rfl;refine Abz<|Sr<|As0 Mv<|As0 Ag<|Ai Ag<|Abh<|Wr ?_;exact BH.mk (vs:=[.slice _ _ _,.int .i64 _]) rfl ⟨rfl,rfl,trivial⟩ I.j5 (by unfold DH;rw[if_neg h2,if_neg h5];exact⟨s,rfl,hx,is,by rw[hx];omega⟩)
end
section
theorem U6.mono{r:List Fct×Int}:Bt (U6 r):=fun _ _ _ hl ⟨s,a,b,c⟩=>⟨s,a,b,c.le hl⟩
section
variable (B:Aq)(hB:B.ok)(V:Iq B.h)(l:Sl Prd)(hl:HQ l B.h)(hp:∀p∈l.xs,AE p=true)(hnm:∀p∈l.xs,p.name.size≤140737488355328)(s:ByteArray)(hs:s.size≤4096)
include hB V hl hp hnm hs
theorem WH(hn:IC l.xs (tx s)=none):Fn prog 142 [l.val,.string s] B (fun v _=>v=.tuple #[.agg #[.int .i64 0,.slice none 0 0],.bool false]):=
 (XI B hB V l hl hp hnm s hs).mono fun v h' _ hv=>by unfold Uz at hv;rw[hn] at hv;exact hv
theorem WI{c:Atm}(hn:IC l.xs (tx s)=some c):Fn prog 142 [l.val,.string s] B (fun v h=>∃a:Atm,v=.tuple #[a.val,.bool true]∧a.In h∧a.er=c):=
 (XI B hB V l hl hp hnm s hs).mono fun v h' _ hv=>by unfold Uz at hv;rw[hn] at hv;exact hv
end
theorem Oc{p:Prg}(hc:Ac p=0){f:List Fct}{rs:List Int}(m:GB p (Ak p) (Ds (Ak p)) f rs){a c:Atm}(ae:a.er=c)(ca:checkAtom p.preds.xs c=0):DH p f a=(f.filter (Ia c),0):=by
 have ok:=EX hc m;have h1:TD p f=0:=P4.2 ⟨hc,ok⟩;have h2:checkAtom p.preds.xs a=0:=by rw[←BQ,ae,ca]
 have h3:Ia a=Ia c:=by rw[←ae];rfl
 unfold DH;rw[if_neg (fun h=>h h1),if_neg (fun h=>h h2),h3]
theorem AaI{B:Aq}{h:Ae}{M:List SA}{w:World}{bt:Nat}{p:Prg}(V:Iq h)(I:Inv B h (box bt p.enc 89::M) w)(hp:p.In h)(hnm:p.Nm)(hc:Ac p=0)(s:ByteArray)(hs:s.size≤4096) :
  Calls prog 91 [Pt bt,.string s].toArray w (fun ed w'=>∃o h',ed=.returned (.string (mk o))∧h.le h'∧Inv B h' (box bt p.enc 89::M) w'∧Ot p (tx s) o):=by
 have hpf:=Cd hc;refine AbV (args:=[Pt bt,.string s]) func91 rfl ntmps91 (by kernel_rfl) (by simp) fun e=>Sr<|At0 Ag<|Abh ?_;cases hone:IC p.preds.xs (tx s) with
 |none=>
  refine Sr<|Ap Mv<|Ap (Ab4 rfl)<|Ap (Abu Dl rfl)<|Ap (Abu At rfl)<|As0 (Ld I A7 0 0 1 rfl rfl rfl)<|At0 Mv<|Abj (Abm I call142 (WH _ I.j6 V p.preds hp.preds hpf hnm s hs hone) rfl fun w I=>Au Mv<|Ax (Y.extract rfl rfl)<|Ab (Y.extract rfl rfl)<|Abj (O.alloc I Ain rfl fun b5 w I=>Abj (Sx I AP 0 rfl rfl rfl rfl fun w I=>Ab Ag<|Abh<|Abi<|Sr<|Ab Mv<|AT (Y.b (Y.not rfl) (rfl))<|Abh<|Abw rfl<|Sr<|Abj (Abm I call93 (CM _ I.j6 1 (by decide)) rfl fun w I=>At0 Ag<|Abh<|Acv ?_))));exact⟨.inl rfl,[.string (mk (EY 1))],⟨rfl,trivial⟩,EY 1,_,rfl,Ae.le.refl _,I.drop,by unfold Ot;rw[hone]⟩
 |some c=>
  obtain⟨_,cc,_⟩:=N3 hone;refine Sr<|Ap Mv<|Ap (Ab4 rfl)<|Ap (Abu Dl rfl)<|Ap (Abu At rfl)<|As0 (Ld I A7 0 0 1 rfl rfl rfl)<|At0 Mv<|Abj (AbE I call142 (WI _ I.j6 V p.preds hp.preds hpf hnm s hs hone) rfl ?_);rintro _ h1 w I le1 ⟨a,rfl,ai,ae⟩;refine Au Mv<|Ax (Y.extract rfl rfl)<|Ab (Y.extract rfl rfl)<|Abj (O.alloc I Ain rfl fun b5 w I=>Abj (Sx I AP 0 rfl rfl rfl rfl fun w I=>Ab Ag<|Abh<|Abi<|Sr<|Ab Mv<|AF (Y.b (Y.not rfl) (rfl))<|Abh<|Abq rfl<|Abk<|Sr<|Ap Mv<|Ap (Ab4 rfl)<|Ap (Abu Dl rfl)<|Ax (Ld I As 1 0 2 rfl rfl rfl)<|Abj (AbE I call33 (NU _ I.j6 p (hp.le le1) hc) rfl ?_)));rintro _ h3 w I le3 ⟨f,r,rfl,hf,hr,hm⟩;refine Au Mv<|As0 (Y.extract rfl rfl)<|As0 (Y.extract rfl rfl)<|As0 Ag<|As0 Ag<|Abh ?_;have hmat:=Oc hc hm ae cc;have hok:=(FL (EX hc hm) (Ia c)).1;obtain⟨g,hg⟩:∃g,f.xs.filter (Ia c)=g:=⟨_,rfl⟩;rw[hg] at hmat hok;have gl3:=le1.trans le3;refine Abi<|AbM AC I 12 (by kernel_rfl)<|Fp (fun _ w us hl I=>Mv)<|Fp (fun _ w us hl I=>Ab4 rfl)<|Fp (fun _ w us hl I=>Abu Dl rfl)<|Fx (fun _ w us hl I=>Ld I As 1 0 2 rfl rfl rfl)<|Fs (fun _ w us hl I=>Mv)<|Fx (fun _ w us hl I=>Ld I AP 0 0 2 rfl rfl rfl) ?_;refine AbR (Φ:=U6 (g,0)) U6.mono (fun _=>Aj _) ?_ ?_
  ·intro _ w hl I;try unfold CT
   refine AbE I call143 (hmat▸WG _ I.j6 p ((hp.le gl3).le hl) hnm f (hf.le hl) a ((ai.le le3).le hl)) rfl ?_;rintro _ h6 w I hl' ⟨s9,rfl,e9,i9⟩;exact⟨_,hl',I,⟨s9,rfl,e9,i9⟩⟩
  refine AbR (Φ:=U6 (g,0)) U6.mono (fun _=>Aj _) ?_ ?_
  ·intro _ w hl I u42 q42;exact AcJ I Mv (q42 rfl)
  refine AbR (Φ:=SlS 4 Fct.enc g) SlS.mono (fun _=>Aj _) ?_ ?_
  ·intro _ w hl I u42 q42 u35 q35;obtain⟨s6,rfl,e6,i6⟩:=q35 rfl;exact AcJ I (Y.extract rfl rfl) (⟨s6,rfl,e6,i6⟩)
  refine AcE (v:=.int .i64 0) (fun _=>Aj _) ?_ ?_
  ·intro _ w hl I u42 q42 u35 q35 u43 q43;obtain⟨s6,rfl,e6,i6⟩:=q35 rfl;exact AeD I (Y.extract rfl rfl) (rfl)
  refine AbR (Φ:=SlS 4 Fct.enc g) SlS.mono (fun _=>Aj _) ?_ ?_
  ·intro _ w hl I u42 q42 u35 q35 u43 q43;exact AcJ I Ag (q43 rfl)
  refine Fi (fun _ w us hl I=>Ag)<|AbX fun _ w hl I u42 q42 u35 q35 u43 q43 u9 q9=>Abh ?_;obtain⟨s6,rfl,hs6,is6⟩:=q9 rfl;have is6:Cv s6 _:=is6;have hans:∀o,o=FO p.preds.xs g→Ot p (tx s) o:=fun o ho=>by unfold Ot;rw[hone];exact⟨f.xs,r.xs,hm,by rw[hg];exact ho⟩
  subst hs6;refine Abi<|Sr<|As0 Mv<|Ai (AbA Ah8 rfl)<|Ad (AbI rfl rfl)<|Abh ?_;refine Abl rfl (fun h47=>?_) (fun h47=>?_)
  ·refine Sr<|At0 Ag<|Abh<|Acv ?_;exact⟨.inl rfl,[.string (mk [110,111,110,101])],⟨rfl,trivial⟩,[110,111,110,101],_,rfl,gl3.trans hl,I.drop,hans _ (by unfold FO;rw[if_pos (Agh.1 (by omega))])⟩
  have hne:s6.xs≠[]:=fun e=>h47 (by rw[e];rfl);have h125:=hok.aa6;refine Abk<|Sr<|As0 Ag<|Abh<|Abi<|Sr<|As0 Mv<|Ai (AbA Ah8 rfl)<|Ai Mv<|Abh<|WP.block ?_;refine Abx (σ:=Nat×Option Addr×Nat×Ae) (fun z=>[(0,Pt bt),(11,.slice z.2.1 z.1 z.2.2.1),(48,s6.val),(49,.int .i64 s6.xs.length),(50,.int .i64 z.1)])
   (fun z w=>Inv B z.2.2.2 (Ao 9 1 (.slice z.2.1 z.1 z.2.2.1) z.1 (((s6.xs.take z.1).map fun x=>mk (CF p.preds.xs x)).flatMap sEn)::box b5 a.enc 61::box bt p.enc 89::M) w∧z.1≤s6.xs.length∧h3.le z.2.2.2∧Cv s6 z.2.2.2) (fun z=>s6.xs.length-z.1)
   ⟨(0,none,0,_),⟨rfl,rfl,rfl,rfl,rfl,trivial⟩,I.l9 9 1,Afa _,hl,is6⟩ ?_
  rintro⟨k,q,c',hh⟩ e w ⟨I,hk,gl,is⟩;dsimp only at I hk gl is ⊢;refine Sr<|Ad (AbC rfl rfl)<|Abh<|Abi ?_;refine Abl rfl (fun h51=>?_) (fun h51=>?_)
  ·have hk':k<s6.xs.length:=by omega
   have E:=Sl.Is.at is hk';have fr:=ZL hok (Ae5 hk');have hnl:=D3 hc (Ba fr.pred);obtain⟨x,hx⟩:∃x,s6.xs[k]=x:=⟨_,rfl⟩;have hnx:s6.xs.take (k+1)=s6.xs.take k++[x]:=by rw[AfS,Ae4 hk',hx];rfl
   rw[hx] at E fr hnl;refine Abk<|Abi<|WP.block<|Sr<|Ap (Ix E Ah8 Aih rfl rfl)<|Az (Abn AH rfl (I.rd (E.rd.part 0 4)) rfl rfl)<|Abj (O.alloc I Aii rfl fun b13 w I=>Abj (Sz I AH 0 rfl rfl rfl rfl fun w I=>Abh<|AbM AC I 9 (by kernel_rfl)<|Fs (fun _ w us hl I=>Mv)<|Fp (fun _ w us hl I=>Mv)<|Fp (fun _ w us hl I=>Ab4 rfl)<|Fp (fun _ w us hl I=>Abu Dl rfl)<|Fp (fun _ w us hl I=>Abu At rfl)<|Fs (fun _ w us hl I=>Ld I A7 3 0 1 rfl rfl rfl)<|Fz (fun _ w us hl I=>Ld I AH 0 0 4 rfl rfl rfl) ?_));refine AcE (v:=.string (mk (CF p.preds.xs x))) (fun _=>Aj _) ?_ ?_
   ·intro _ w hl I;try unfold CT
    exact Abm I call51 (Yk _ I.j6 p.preds ((hp.preds.le (gl3.trans gl)).le hl) x fr hnl) rfl (fun w' I'=>⟨rfl,I'⟩)
   refine AbR (Φ:=Xz 1 sEn [mk (CF p.preds.xs x)]) Xz.mono (fun _=>Aj _) ?_ ?_
   ·intro _ w hl I;exact AbY (xs:=[mk (CF p.preds.xs x)]) (enc:=sEn) I Ais AiJ zeroValue9 rfl (Nb rfl) rfl rfl (by decide) (fun _=>rfl) (fun b h w I le sl=>⟨h,le,I,⟨⟨some ⟨b,0,none⟩,_,[mk (CF p.preds.xs x)]⟩,rfl,rfl,⟨sl,by simp⟩,rfl,Afg _⟩⟩)
   refine AbX fun _ w hl I u62 q62=>?_;obtain⟨⟨sa,sc,sx⟩,rfl,e9,is9,at9,_⟩:=q62 rfl;dsimp only at e9;subst e9;obtain⟨-,rd9⟩:=is9.el 0 _ rfl;refine Abj (Ab0 I Ais Aah 1 rfl rfl (congrArg (fun z=>Value.slice z 1 sc) at9) (I.rd rd9) rfl rfl (by decide) (by omega) (by omega) fun b16 c16 w I=>As0 Ag<|Abh<|Abg<|Ai (Dd rfl rfl)<|Ai Mv<|Abh ?_);refine⟨(k+1,some ⟨b16,0,none⟩,c16,_),⟨⟨rfl,rfl,rfl,rfl,rfl,trivial⟩,?_,by dsimp only;omega,gl.trans hl,is.le hl⟩,by dsimp only;omega⟩;dsimp only;rw[hnx,AfM,Afm];exact I.drop
  obtain rfl:k=s6.xs.length:=by omega
  rw[Afo] at I;have hcap:=FC (I.at 0 rfl);obtain⟨h10,s1,le10,hv,hx,is1,J⟩:=I.p8 (fun _=>rfl) (by simp);clear I;obtain⟨sa,sc,sx⟩:=s1;dsimp only at hx;subst hx;have hv':=hv;unfold Sl.val at hv';dsimp only at hv';injection hv' with e1 e2 e3;subst e1;subst e3;have I:=J;have hlen:(s6.xs.map fun x=>mk (CF p.preds.xs x)).map tx=s6.xs.map (CF p.preds.xs):=by rw[AgJ];rfl
  have hfo:FO p.preds.xs s6.xs=joinT [59,32] (s6.xs.map (CF p.preds.xs)):=by unfold FO;rw[if_neg hne]
  have hj:=Lz hc hok;rw[hfo] at hj;have hjo:=IU ⟨w,h10⟩ I.j6 ⟨sa,sc,s6.xs.map fun x=>mk (CF p.preds.xs x)⟩ ⟨is1,by simp;omega⟩ (by simpa using hcap) ⟨#[59,32]⟩ (by rw[hlen];show(joinT [59,32] _).length≤_;omega);rw[hlen] at hjo;unfold Sl.val at hjo;simp only[Afw] at hjo;exact Abz<|Sr<|As0 Mv<|Abj (Abm I call26 (hjo) rfl fun w I=>At0 Ag<|Abh<|Acv<|⟨.inl rfl,[.string (mk (joinT [59,32] (s6.xs.map (CF p.preds.xs))))],⟨rfl,trivial⟩,_,_,rfl,(gl3.trans gl).trans le10,I.drop,hans _ hfo.symm⟩)
end
end Go.TF
section
end
namespace Go.TF
open Go Go.RowKit Go.Proofs Go.Proofs.Tryz
section
structure DlS where
 h:Ae
 o2:Option Value
 o4:Option Value
def pcD(T k n m:Nat)(c2 c4:List Value)(o2 o4:Option Value):List SA:=match o4 with
 |some v=>[Ao T k v m c4]
 |none=>match o2 with
  |some v=>[Ao T k v n c2]
  |none=>[]
structure JDl(B:Aq)(M:List SA)(T k n m:Nat)(c2 c4:List Value)(i2 i4:Nat)(D:Nat→Bool)(s:DlS)(w:World):Prop where
 h2:s.o2.isSome=D i2
 h4:s.o4.isSome=D i4
 ord:D i4=true→D i2=true
 inv:Inv B s.h (pcD T k n m c2 c4 s.o2 s.o4++M) w
structure RDl(s s':DlS):Prop where
 h:s.h.le s'.h
 h2:∀v,s.o2=some v→s'.o2=some v
 h4:∀v,s.o4=some v→s'.o4=some v
theorem RDl.pre:Pre RDl:=⟨fun _=>⟨Ae.le.refl _,fun _ h=>h,fun _ h=>h⟩,fun _ _ _ h k=>⟨h.h.trans k.h,fun b e=>k.h2 b (h.h2 b e),fun b e=>k.h4 b (h.h4 b e)⟩⟩
def Z3(u:Value)(s:DlS):Prop:=s.o2=some u
def Aap(u:Value)(s:DlS):Prop:=s.o4=some u
theorem Z3.mono:Cj RDl Z3:=fun _ _ _ r h=>r.h2 _ h
theorem Aap.mono:Cj RDl Aap:=fun _ _ _ r h=>r.h4 _ h
section
variable {P:Program}{o:Oper}{e:Env}{B:Aq}{M:List SA}{T k n m:Nat}{c2 c4:List Value}{i2 i4 i:Nat}{D:Nat→Bool}{s:DlS}{w:World}
theorem JDl.base(j:JDl B M T k n m c2 c4 i2 i4 D s w):Inv B s.h M w:=j.inv.weak (AfJ _ _)
theorem JDl.set(h:i2≠i∧i4≠i):∀D s w,JDl B M T k n m c2 c4 i2 i4 D s w→JDl B M T k n m c2 c4 i2 i4 (AZ D i) s w:=fun D s w j=>by
 have e:∀x,x≠i→AZ D i x=D x:=fun x hx=>by simp[AZ,hx]
 exact⟨by rw[e _ h.1];exact j.h2,by rw[e _ h.2];exact j.h4,by rw[e _ h.1,e _ h.2];exact j.ord,j.inv⟩
theorem JDl.first(j:JDl B M T k n m c2 c4 i2 i4 D s w)(hD:D i2=false)(h24:i4≠i2)(hop:Inv B s.h M w→Op1 P o e w fun u w'=>∃h',s.h.le h'∧Inv B h' (Ao T k u n c2::M) w') :
  Op1 P o e w fun u w'=>∃s',RDl s s'∧JDl B M T k n m c2 c4 i2 i4 (AZ D i2) s' w'∧Z3 u s':=by
 have h2:s.o2=none:=by have:=j.h2;rw[hD] at this;cases h:s.o2<;>simp_all
 have hD4:D i4=false:=by
  cases h:D i4
  ·rfl
  ·rw[j.ord h] at hD;cases hD
 have h4:s.o4=none:=by have:=j.h4;rw[hD4] at this;cases h:s.o4<;>simp_all
 refine(hop j.base).mono fun u w' ⟨h',hl,I⟩=>⟨⟨h',some u,none⟩,⟨hl,fun v hv=>(by rw[h2] at hv;cases hv),fun v hv=>(by rw[h4] at hv;cases hv)⟩,⟨?_,?_,fun hh=>?_,I⟩,rfl⟩
 ·simp[AZ]
 ·rw[show AZ D i2 i4=D i4 by simp[AZ,h24],hD4];rfl
 ·simp[AZ]
theorem JDl.second(j:JDl B M T k n m c2 c4 i2 i4 D s w)(hD:D i4=false)(h24:i2≠i4){u2:Value}(hu:Z3 u2 s)(hop:Inv B s.h (Ao T k u2 n c2::M) w→Op1 P o e w fun u w'=>∃h',s.h.le h'∧Inv B h' (Ao T k u m c4::M) w') :
  Op1 P o e w fun u w'=>∃s',RDl s s'∧JDl B M T k n m c2 c4 i2 i4 (AZ D i4) s' w'∧Aap u s':=by
 have h4:s.o4=none:=by have:=j.h4;rw[hD] at this;cases h:s.o4<;>simp_all
 have h2:s.o2=some u2:=hu;have I:=j.inv;rw[h4,h2] at I;have hD2:D i2=true:=by rw[←j.h2,h2];rfl
 refine(hop I).mono fun u w' ⟨h',hl,I⟩=>⟨⟨h',some u2,some u⟩,⟨hl,fun v hv=>(by rw[h2] at hv;exact hv),fun v hv=>(by rw[h4] at hv;cases hv)⟩,⟨?_,?_,fun _=>?_,I⟩,rfl⟩
 ·rw[show AZ D i4 i2=D i2 by simp[AZ,h24],hD2];rfl
 ·simp[AZ]
 ·rw[show AZ D i4 i2=D i2 by simp[AZ,h24],hD2]
end
theorem Ad7{σ:Type}{P:Program}{N:Nat}{D:List Deferred}{e:Env}{w:World}{Q:Exit→Env→World→List Deferred→Prop}{id:Nat}{ops:Array Oper}{J:(Nat→Bool)→σ→World→Prop}{R:σ→σ→Prop}(hm:LH P)(hR:Pre R)(s0:σ)(I:J (fun _=>false) s0 w.drew)(m:Nat)(hB:MV ops m=true)
  (k:AD P ops J R s0 0 [] (ops.toList.take m) e (fun L e'=>∀D' h1 w1,(∀j,j<m→D' j=true)→R s0 h1→J D' h1 w1→FR (fun _=>true) h1 L e' fun e''=>Ops P ops (ops.toList.drop m) e'' w1 (fun e3 w3=>Q .normal e3 w3 D))):WPD P N D (.region id ops true) e w Q:=WPD.of (Ab9 hm hR s0 I m hB k)
end
section
structure UnS where
 h:Ae
 o2:Option Value
 o4:Option Value
 o7:Option Nat
def pcB(o7:Option Nat)(z:List Value)(Tb:TypeId):List SA:=match o7 with
 |none=>[]
 |some b=>[box b z Tb]
structure JUn(B:Aq)(M:List SA)(T k n m:Nat)(c2 c4:List Value)(Tb:TypeId)(z:List Value)(i2 i4 i7:Nat)(D:Nat→Bool)(s:UnS)(w:World):Prop where
 h2:s.o2.isSome=D i2
 h4:s.o4.isSome=D i4
 h7:s.o7.isSome=D i7
 ord:D i4=true→D i2=true
 inv:Inv B s.h (pcD T k n m c2 c4 s.o2 s.o4++(pcB s.o7 z Tb++M)) w
structure RUn(s s':UnS):Prop where
 h:s.h.le s'.h
 h2:∀v,s.o2=some v→s'.o2=some v
 h4:∀v,s.o4=some v→s'.o4=some v
 h7:∀v,s.o7=some v→s'.o7=some v
theorem RUn.pre:Pre RUn:=⟨fun _=>⟨Ae.le.refl _,fun _ h=>h,fun _ h=>h,fun _ h=>h⟩,fun _ _ _ h k=>⟨h.h.trans k.h,fun b e=>k.h2 b (h.h2 b e),fun b e=>k.h4 b (h.h4 b e),fun b e=>k.h7 b (h.h7 b e)⟩⟩
def Zh(u:Value)(s:UnS):Prop:=s.o2=some u
def Z4(u:Value)(s:UnS):Prop:=s.o4=some u
def Z5(Φ:Sp)(u:Value)(s:UnS):Prop:=Φ u s.h
theorem Zh.mono:Cj RUn Zh:=fun _ _ _ r h=>r.h2 _ h
theorem Z4.mono:Cj RUn Z4:=fun _ _ _ r h=>r.h4 _ h
theorem Z5.mono{Φ:Sp}(hm:Bt Φ):Cj RUn (Z5 Φ):=fun _ _ _ r h=>hm _ _ _ r.h h
def PrU(Ψ:Sp)(u:Value)(s:UnS):Prop:=∃x v,u=.agg #[x,v]∧Ψ x s.h∧s.o4=some v
theorem PrU.mono{Ψ:Sp}(hm:Bt Ψ):Cj RUn (PrU Ψ):=fun _ _ _ r ⟨x,v,a,b,c⟩=>⟨x,v,a,hm _ _ _ r.h b,r.h4 _ c⟩
section
variable {P:Program}{o:Oper}{e:Env}{B:Aq}{M:List SA}{T k n m:Nat}{c2 c4:List Value}{Tb:TypeId}{z:List Value}{i2 i4 i7 i:Nat}{D:Nat→Bool}{s:UnS}{w:World}
theorem JUn.base(j:JUn B M T k n m c2 c4 Tb z i2 i4 i7 D s w):Inv B s.h M w:=j.inv.weak ((AfJ _ _).trans (AfJ _ _))
theorem JUn.set(h:i2≠i∧i4≠i∧i7≠i):∀D s w,JUn B M T k n m c2 c4 Tb z i2 i4 i7 D s w→JUn B M T k n m c2 c4 Tb z i2 i4 i7 (AZ D i) s w:=fun D s w j=>by
 have e:∀x,x≠i→AZ D i x=D x:=fun x hx=>by simp[AZ,hx]
 exact⟨by rw[e _ h.1];exact j.h2,by rw[e _ h.2.1];exact j.h4,by rw[e _ h.2.2];exact j.h7,by rw[e _ h.1,e _ h.2.1];exact j.ord,j.inv⟩
theorem JUn.know{Φ:Sp}(j:JUn B M T k n m c2 c4 Tb z i2 i4 i7 D s w)(h:i2≠i∧i4≠i∧i7≠i)(hop:∀N,Inv B s.h N w→Op1 P o e w fun u w'=>∃h',s.h.le h'∧Inv B h' N w'∧Φ u h') :
  Op1 P o e w fun u w'=>∃s',RUn s s'∧JUn B M T k n m c2 c4 Tb z i2 i4 i7 (AZ D i) s' w'∧Z5 Φ u s':=
 (hop _ j.inv).mono fun u w' ⟨h',hl,I,hu⟩=>by
  have e:∀x,x≠i→AZ D i x=D x:=fun x hx=>by simp[AZ,hx]
  exact⟨⟨h',s.o2,s.o4,s.o7⟩,⟨hl,fun _ e=>e,fun _ e=>e,fun _ e=>e⟩,⟨by rw[e _ h.1];exact j.h2,by rw[e _ h.2.1];exact j.h4,by rw[e _ h.2.2];exact j.h7,by rw[e _ h.1,e _ h.2.1];exact j.ord,I⟩,hu⟩
theorem JUn.first(j:JUn B M T k n m c2 c4 Tb z i2 i4 i7 D s w)(hD:D i2=false)(h24:i4≠i2)(h27:i7≠i2)(hop:∀N,Inv B s.h N w→Op1 P o e w fun u w'=>∃h',s.h.le h'∧Inv B h' (Ao T k u n c2::N) w') :
  Op1 P o e w fun u w'=>∃s',RUn s s'∧JUn B M T k n m c2 c4 Tb z i2 i4 i7 (AZ D i2) s' w'∧Zh u s':=by
 have h2:s.o2=none:=by have:=j.h2;rw[hD] at this;cases h:s.o2<;>simp_all
 have hD4:D i4=false:=by
  cases h:D i4
  ·rfl
  ·rw[j.ord h] at hD;cases hD
 have h4:s.o4=none:=by have:=j.h4;rw[hD4] at this;cases h:s.o4<;>simp_all
 have I:=j.inv;rw[h2,h4] at I;refine(hop _ I).mono fun u w' ⟨h',hl,I⟩=>⟨⟨h',some u,none,s.o7⟩,⟨hl,fun v hv=>(by rw[h2] at hv;cases hv),fun v hv=>(by rw[h4] at hv;cases hv),fun v hv=>hv⟩,⟨?_,?_,?_,fun hh=>?_,I⟩,rfl⟩
 ·simp[AZ]
 ·rw[show AZ D i2 i4=D i4 by simp[AZ,h24],hD4];rfl
 ·rw[show AZ D i2 i7=D i7 by simp[AZ,h27]];exact j.h7
 ·simp[AZ]
theorem JUn.second(j:JUn B M T k n m c2 c4 Tb z i2 i4 i7 D s w)(hD:D i4=false)(h24:i2≠i4)(h47:i7≠i4){u2:Value}(hu:Zh u2 s)(hop:∀N,Inv B s.h (Ao T k u2 n c2::N) w→Op1 P o e w fun u w'=>∃h',s.h.le h'∧Inv B h' (Ao T k u m c4::N) w') :
  Op1 P o e w fun u w'=>∃s',RUn s s'∧JUn B M T k n m c2 c4 Tb z i2 i4 i7 (AZ D i4) s' w'∧Z4 u s':=by
 have h4:s.o4=none:=by have:=j.h4;rw[hD] at this;cases h:s.o4<;>simp_all
 have h2:s.o2=some u2:=hu;have I:=j.inv;rw[h4,h2] at I;have hD2:D i2=true:=by rw[←j.h2,h2];rfl
 refine(hop _ I).mono fun u w' ⟨h',hl,I⟩=>⟨⟨h',some u2,some u,s.o7⟩,⟨hl,fun v hv=>(by rw[h2] at hv;exact hv),fun v hv=>(by rw[h4] at hv;cases hv),fun v hv=>hv⟩,⟨?_,?_,?_,fun _=>?_,I⟩,rfl⟩
 ·rw[show AZ D i4 i2=D i2 by simp[AZ,h24],hD2];rfl
 ·simp[AZ]
 ·rw[show AZ D i4 i7=D i7 by simp[AZ,h47]];exact j.h7
 ·rw[show AZ D i4 i2=D i2 by simp[AZ,h24],hD2]
theorem JUn.turned(j:JUn B M T k n m c2 c4 Tb z i2 i4 i7 D s w){v:Value}(h:s.o4=some v):Inv B s.h (Ao T k v m c4::M) w:=by
 have I:=j.inv;rw[h] at I;exact I.weak (.cons_cons _ (AfJ _ _))
theorem JUn.look{Φ:Sq UnS}{v:Value}(j:JUn B M T k n m c2 c4 Tb z i2 i4 i7 D s w)(h:i2≠i∧i4≠i∧i7≠i)(hy:Y P o e w v)(hv:Φ v s) :
  Op1 P o e w fun u w'=>∃s',RUn s s'∧JUn B M T k n m c2 c4 Tb z i2 i4 i7 (AZ D i) s' w'∧Φ u s':=by
 unfold Op1;rw[hy];exact⟨s,RUn.pre.refl s,JUn.set h _ _ _ j,hv⟩
end
structure U3S where
 h:Ae
 o1:Option Value
 o2:Option Value
 o4:Option Value
 o7:Option Nat
def pc3(T k n m:Nat)(c2 c4:List Value)(o1 o2 o4:Option Value):List SA:=match o2,o4,o1 with
 |some _,some v,_=>[Ao T k v m c4]
 |some v,none,_=>[Ao T k v n c2]
 |none,_,some v=>[Ao T k v 0 []]
 |none,_,none=>[]
structure JU3(B:Aq)(M:List SA)(T k n m:Nat)(c2 c4:List Value)(Tb:TypeId)(z:List Value)(i1 i2 i4 i7:Nat)(D:Nat→Bool)(s:U3S)(w:World):Prop where
 h1:s.o1.isSome=D i1
 h2:s.o2.isSome=D i2
 h4:s.o4.isSome=D i4
 h7:s.o7.isSome=D i7
 ord:D i4=true→D i2=true
 ord1:D i2=true→D i1=true
 inv:Inv B s.h (pc3 T k n m c2 c4 s.o1 s.o2 s.o4++(pcB s.o7 z Tb++M)) w
structure RU3(s s':U3S):Prop where
 h:s.h.le s'.h
 h1:∀v,s.o1=some v→s'.o1=some v
 h2:∀v,s.o2=some v→s'.o2=some v
 h4:∀v,s.o4=some v→s'.o4=some v
 h7:∀v,s.o7=some v→s'.o7=some v
theorem RU3.pre:Pre RU3:=⟨fun _=>⟨Ae.le.refl _,fun _ h=>h,fun _ h=>h,fun _ h=>h,fun _ h=>h⟩,fun _ _ _ h k=>⟨h.h.trans k.h,fun b e=>k.h1 b (h.h1 b e),fun b e=>k.h2 b (h.h2 b e),fun b e=>k.h4 b (h.h4 b e),fun b e=>k.h7 b (h.h7 b e)⟩⟩
def Zi(u:Value)(s:U3S):Prop:=s.o1=some u
def Zj(u:Value)(s:U3S):Prop:=s.o2=some u
def WJ(u:Value)(s:U3S):Prop:=s.o4=some u∧s.o2.isSome=true
def YS(Φ:Sp)(u:Value)(s:U3S):Prop:=Φ u s.h
theorem Zi.mono:Cj RU3 Zi:=fun _ _ _ r h=>r.h1 _ h
theorem Zj.mono:Cj RU3 Zj:=fun _ _ _ r h=>r.h2 _ h
theorem WJ.mono:Cj RU3 WJ:=fun _ _ _ r ⟨h,k⟩=>⟨r.h4 _ h,by obtain⟨v,hv⟩:=Agt.1 k;rw[r.h2 _ hv];rfl⟩
theorem YS.mono{Φ:Sp}(hm:Bt Φ):Cj RU3 (YS Φ):=fun _ _ _ r h=>hm _ _ _ r.h h
def Pr3(Ψ:Sp)(u:Value)(s:U3S):Prop:=∃x v,u=.agg #[x,v]∧Ψ x s.h∧WJ v s
theorem Pr3.mono{Ψ:Sp}(hm:Bt Ψ):Cj RU3 (Pr3 Ψ):=fun _ _ _ r ⟨x,v,a,b,c⟩=>⟨x,v,a,hm _ _ _ r.h b,WJ.mono _ _ _ r c⟩
section
variable {P:Program}{o:Oper}{e:Env}{B:Aq}{M:List SA}{T k n m:Nat}{c2 c4:List Value}{Tb:TypeId}{z:List Value}{i1 i2 i4 i7 i:Nat}{D:Nat→Bool}{s:U3S}{w:World}
theorem JU3.base(j:JU3 B M T k n m c2 c4 Tb z i1 i2 i4 i7 D s w):Inv B s.h M w:=j.inv.weak ((AfJ _ _).trans (AfJ _ _))
theorem JU3.set(h:i1≠i∧i2≠i∧i4≠i∧i7≠i):∀D s w,JU3 B M T k n m c2 c4 Tb z i1 i2 i4 i7 D s w→JU3 B M T k n m c2 c4 Tb z i1 i2 i4 i7 (AZ D i) s w:=fun D s w j=>by
 have e:∀x,x≠i→AZ D i x=D x:=fun x hx=>by simp[AZ,hx]
 exact⟨by rw[e _ h.1];exact j.h1,by rw[e _ h.2.1];exact j.h2,by rw[e _ h.2.2.1];exact j.h4,by rw[e _ h.2.2.2];exact j.h7,by rw[e _ h.2.1,e _ h.2.2.1];exact j.ord,by rw[e _ h.1,e _ h.2.1];exact j.ord1,j.inv⟩
theorem JU3.know{Φ:Sp}(j:JU3 B M T k n m c2 c4 Tb z i1 i2 i4 i7 D s w)(h:i1≠i∧i2≠i∧i4≠i∧i7≠i)(hop:∀N,Inv B s.h N w→Op1 P o e w fun u w'=>∃h',s.h.le h'∧Inv B h' N w'∧Φ u h') :
  Op1 P o e w fun u w'=>∃s',RU3 s s'∧JU3 B M T k n m c2 c4 Tb z i1 i2 i4 i7 (AZ D i) s' w'∧YS Φ u s':=
 (hop _ j.inv).mono fun u w' ⟨h',hl,I,hu⟩=>by
  have q:=JU3.set (B:=B) (M:=M) (T:=T) (k:=k) (n:=n) (m:=m) (c2:=c2) (c4:=c4) (Tb:=Tb) (z:=z) h D s w j;exact⟨⟨h',s.o1,s.o2,s.o4,s.o7⟩,⟨hl,fun _ e=>e,fun _ e=>e,fun _ e=>e,fun _ e=>e⟩,⟨q.h1,q.h2,q.h4,q.h7,q.ord,q.ord1,I⟩,hu⟩
theorem JU3.look{Φ:Sq U3S}{v:Value}(j:JU3 B M T k n m c2 c4 Tb z i1 i2 i4 i7 D s w)(h:i1≠i∧i2≠i∧i4≠i∧i7≠i)(hy:Y P o e w v)(hv:Φ v s) :
  Op1 P o e w fun u w'=>∃s',RU3 s s'∧JU3 B M T k n m c2 c4 Tb z i1 i2 i4 i7 (AZ D i) s' w'∧Φ u s':=by
 unfold Op1;rw[hy];exact⟨s,RU3.pre.refl s,JU3.set h _ _ _ j,hv⟩
theorem JU3.first(j:JU3 B M T k n m c2 c4 Tb z i1 i2 i4 i7 D s w)(hD:D i1=false)(h:i2≠i1∧i4≠i1∧i7≠i1)(hop:∀N,Inv B s.h N w→Op1 P o e w fun u w'=>∃h',s.h.le h'∧Inv B h' (Ao T k u 0 []::N) w') :
  Op1 P o e w fun u w'=>∃s',RU3 s s'∧JU3 B M T k n m c2 c4 Tb z i1 i2 i4 i7 (AZ D i1) s' w'∧Zi u s':=by
 have e:∀x,x≠i1→AZ D i1 x=D x:=fun x hx=>by simp[AZ,hx]
 have h1:s.o1=none:=by have:=j.h1;rw[hD] at this;cases h:s.o1<;>simp_all
 have hD2:D i2=false:=by
  cases h:D i2
  ·rfl
  ·rw[j.ord1 h] at hD;cases hD
 have h2:s.o2=none:=by have:=j.h2;rw[hD2] at this;cases h:s.o2<;>simp_all
 have I:=j.inv;have hpc:pc3 T k n m c2 c4 s.o1 s.o2 s.o4=[]:=by rw[h1,h2];cases s.o4<;>rfl
 rw[hpc] at I;refine(hop _ I).mono fun u w' ⟨h',hl,I⟩=>⟨⟨h',some u,none,s.o4,s.o7⟩,⟨hl,fun v hv=>(by rw[h1] at hv;cases hv),fun v hv=>(by rw[h2] at hv;cases hv),fun v hv=>hv,fun v hv=>hv⟩,⟨?_,?_,?_,?_,?_,?_,?_⟩,rfl⟩
 ·simp[AZ]
 ·rw[e _ h.1,hD2];rfl
 ·rw[e _ h.2.1];exact j.h4
 ·rw[e _ h.2.2];exact j.h7
 ·rw[e _ h.1,e _ h.2.1];exact j.ord
 ·rw[e _ h.1,hD2];exact fun h=>by cases h
 ·cases s.o4<;>exact I
theorem JU3.second(j:JU3 B M T k n m c2 c4 Tb z i1 i2 i4 i7 D s w)(hD:D i2=false)(h:i1≠i2∧i4≠i2∧i7≠i2){u2:Value}(hu:Zi u2 s)(hop:∀N,Inv B s.h (Ao T k u2 0 []::N) w→Op1 P o e w fun u w'=>∃h',s.h.le h'∧Inv B h' (Ao T k u n c2::N) w') :
  Op1 P o e w fun u w'=>∃s',RU3 s s'∧JU3 B M T k n m c2 c4 Tb z i1 i2 i4 i7 (AZ D i2) s' w'∧Zj u s':=by
 have e:∀x,x≠i2→AZ D i2 x=D x:=fun x hx=>by simp[AZ,hx]
 have h2:s.o2=none:=by have:=j.h2;rw[hD] at this;cases h:s.o2<;>simp_all
 have h1:s.o1=some u2:=hu;have hD4:D i4=false:=by
  cases h:D i4
  ·rfl
  ·rw[j.ord h] at hD;cases hD
 have h4:s.o4=none:=by have:=j.h4;rw[hD4] at this;cases h:s.o4<;>simp_all
 have hD1:D i1=true:=by rw[←j.h1,h1];rfl
 have I:=j.inv;rw[h1,h2,h4] at I;refine(hop _ I).mono fun u w' ⟨h',hl,I⟩=>⟨⟨h',some u2,some u,none,s.o7⟩,⟨hl,fun v hv=>(by rw[h1] at hv;exact hv),fun v hv=>(by rw[h2] at hv;cases hv),fun v hv=>(by rw[h4] at hv;cases hv),fun v hv=>hv⟩,⟨?_,?_,?_,?_,?_,?_,I⟩,rfl⟩
 ·rw[e _ h.1,hD1];rfl
 ·simp[AZ]
 ·rw[e _ h.2.1,hD4];rfl
 ·rw[e _ h.2.2];exact j.h7
 ·rw[e _ h.2.1,hD4];exact fun h=>by cases h
 ·rw[e _ h.1];exact fun _=>hD1
theorem JU3.third(j:JU3 B M T k n m c2 c4 Tb z i1 i2 i4 i7 D s w)(hD:D i4=false)(h:i1≠i4∧i2≠i4∧i7≠i4){u2:Value}(hu:Zj u2 s)(hop:∀N,Inv B s.h (Ao T k u2 n c2::N) w→Op1 P o e w fun u w'=>∃h',s.h.le h'∧Inv B h' (Ao T k u m c4::N) w') :
  Op1 P o e w fun u w'=>∃s',RU3 s s'∧JU3 B M T k n m c2 c4 Tb z i1 i2 i4 i7 (AZ D i4) s' w'∧WJ u s':=by
 have e:∀x,x≠i4→AZ D i4 x=D x:=fun x hx=>by simp[AZ,hx]
 have h4:s.o4=none:=by have:=j.h4;rw[hD] at this;cases h:s.o4<;>simp_all
 have h2:s.o2=some u2:=hu;have hD2:D i2=true:=by rw[←j.h2,h2];rfl
 have I:=j.inv;rw[h2,h4] at I;have I:Inv B s.h (Ao T k u2 n c2::(pcB s.o7 z Tb++M)) w:=by cases h:s.o1<;>rw[h] at I<;>exact I
 refine(hop _ I).mono fun u w' ⟨h',hl,I⟩=>⟨⟨h',s.o1,some u2,some u,s.o7⟩,⟨hl,fun v hv=>hv,fun v hv=>(by rw[h2] at hv;exact hv),fun v hv=>(by rw[h4] at hv;cases hv),fun v hv=>hv⟩,⟨?_,?_,?_,?_,?_,?_,?_⟩,rfl,rfl⟩
 ·rw[e _ h.1];exact j.h1
 ·rw[e _ h.2.1,hD2];rfl
 ·simp[AZ]
 ·rw[e _ h.2.2];exact j.h7
 ·rw[e _ h.2.1];exact fun _=>hD2
 ·rw[e _ h.1,e _ h.2.1];exact j.ord1
 ·cases s.o1<;>exact I
theorem JU3.piece(j:JU3 B M T k n m c2 c4 Tb z i1 i2 i4 i7 D s w){v:Value}(h:WJ v s):Inv B s.h (Ao T k v m c4::(pcB s.o7 z Tb++M)) w:=by
 have I:=j.inv;obtain⟨u,hu⟩:=Agt.1 h.2;rw[hu,h.1] at I;cases h1:s.o1<;>rw[h1] at I<;>exact I
theorem JU3.turned(j:JU3 B M T k n m c2 c4 Tb z i1 i2 i4 i7 D s w){v:Value}(h:WJ v s):Inv B s.h (Ao T k v m c4::M) w:=(j.piece h).weak (.cons_cons _ (AfJ _ _))
end
end
section
def OwS{α:Type}(T k:Nat)(enc:α→List Value)(h0:Ae)(xs:List α):Sp:=fun v h=>∃s:Sl α,v=s.val∧s.xs=xs∧Di T k s enc h0 h
theorem OwS.mono{α:Type}{T k:Nat}{enc:α→List Value}{h0:Ae}{xs:List α}:Bt (OwS T k enc h0 xs):=fun _ _ _ hl ⟨s,a,b,c⟩=>⟨s,a,b,c.le hl⟩
section
variable {P:Program}{e:Env}{w:World}{t:TypeId}{pos:String}{af:Array Edge}{g:Option (Nat×Bool)}{d:Option Nat}
theorem AeK{T el k b n c i j m:Nat}{x lo hi mx:Operand}{k1 k2 k3:IntKind}(hT:Und P T (.slice el))(hk:∀w,(sizeOf el).run P w=.ok k w)(hx:ev e x=.slice (some ⟨b,0,none⟩) n c)
  (hl:ev e lo=.int k1 (i:Int)) (hh:ev e hi=.int k2 (j:Int)) (hm:ev e mx=.int k3 (m:Int)) (h1:i≤j) (h2:j≤m) (h3:m≤c) :
  Y P ⟨d,.slice T x (some lo) (some hi) (some mx),t,pos,af,g⟩ e w (.slice (some (if m=i then ⟨b,0,none⟩ else ⟨b,i*k,none⟩)) (j-i) (m-i)):=by
 simp_all [Y,execOp,Instr.sliceAt,Instr.slice,Instr.sliceBounds,Instr.sliceBound,run_underlying hT,asIntOf,BN]
 split<;>rfl
theorem Ae0{T el k b n c l:Nat}{x q:Operand}{ik:IntKind}(hT:Und P T (.slice el))(hk:∀w,(sizeOf el).run P w=.ok k w)(hx:ev e x=.slice (some ⟨b,0,none⟩) n c)(hq:ev e q=.int ik (l:Int))(h1:l≤n)(h2:n≤c) :
  Y P ⟨d,.slice T x (some q) none none,t,pos,af,g⟩ e w (.slice (some ⟨b,if c=l then 0 else l*k,none⟩) (n-l) (c-l)):=by
 refine(AcF hT hk hx (.inr ⟨q,ik,rfl,hq⟩) (.inl ⟨rfl,rfl⟩) h1 h2).is ?_;split<;>simp
end
theorem Kq(x:Rul):x.enc.length=5:=rfl
theorem MG(x:Rul):AJ x.enc=true:=rfl
theorem YT(xs:List Rul):AJ (xs.flatMap Rul.enc)=true:=by
 simp only[AJ,AhQ];rw[Aff];intro x _;exact MG x
theorem UE{B:Aq}{h:Ae}{M:List SA}{w:World}{gg c m i:Nat}{xs:List Rul}(I:Inv B h (Ao 64 5 (.slice (some ⟨gg,0,none⟩) m c) m (xs.flatMap Rul.enc)::M) w)(hm:m=xs.length)(hi:i<m)(hsz:m≤1000) :
  Calls prog 190 [.slice (some ⟨gg,0,none⟩) m c,.int .i64 i,.int .i64 (i+1)].toArray w
   (fun ed w'=>∃v h',ed=.returned v∧h.le h'∧Inv B h' (Ao 64 5 v (m-1) ((xs.eraseIdx i).flatMap Rul.enc)::M) w'):=by
 obtain⟨_,hcap⟩:=I.y9 0 rfl;refine AbV (args:=[.slice (some ⟨gg,0,none⟩) m c,.int .i64 i,.int .i64 (i+1)]) func190 rfl ntmps190 (by kernel_rfl) (by simp) fun e=>Sr<|As0 Ag<|Abh<|Sr<|As0 Mv<|Ai Mv<|Ai Mv<|As0 Mv<|Ai (AbA Aic rfl)<|As0 (AeK (i:=i) (j:=i+1) (m:=m) Aic Aiv rfl rfl rfl rfl (by omega) (by omega) (by omega))<|Abh<|Abi<|Sr<|Ai Mv<|Ai Mv<|AF (Abt (AbI rfl rfl) ((by omega)))<|Abh<|Abq rfl<|Abk<|Sr<|As0 Mv<|Ai (AbA Aic rfl)<|Ai Ag<|Abh ?_;have hfl:(xs.flatMap Rul.enc).take (i*5)++(xs.flatMap Rul.enc).drop ((i+1)*5)=(xs.eraseIdx i).flatMap Rul.enc:=by rw[Dy Kq,Ei Kq,←Afm,Agr]
 refine Abi<|AbM AC I 6 (by kernel_rfl)<|Fs (fun _ w us hl I=>Mv)<|Fi (fun _ w us hl I=>Mv)<|Fs (fun _ w us hl I=>AcC (l:=0) (h':=i) Aic Aiv rfl (.inl ⟨rfl,rfl⟩) (.inr ⟨_,_,rfl,rfl⟩) (by omega) (by omega) (by omega))<|Fs (fun _ w us hl I=>Mv)<|Fi (fun _ w us hl I=>Mv)<|Fs (fun _ w us hl I=>Ae0 (l:=i+1) Aic Aiv rfl rfl (by omega) (by omega))<|AbX fun _ w hl I=>?_;try unfold CT
 refine Abj (Aep (i:=i) (j:=i+1) I Aic OC (YT xs) (by omega) (by omega) rfl rfl (by split<;>omega) fun w I=>As0 Ag<|Abh ?_);rw[hfl] at I;refine Sr<|As0 Mv<|As0 Mv<|Ai (AbA Aic rfl)<|Ai Mv<|As0 (AcC (l:=i+(m-(i+1))) (h':=m) Aic Aiv rfl (.inr ⟨_,_,rfl,rfl⟩) (.inr ⟨_,_,rfl,rfl⟩) (by omega) (by omega) (by omega))<|Abj (AdE I Aic OC (by simp[Value.cells,Value.oneCell']) rfl (by omega) rfl (by omega) fun w I=>Abh<|Sr<|As0 Mv<|As0 Ag<|Abh<|Wr ?_);rw[show i+(m-(i+1))=m-1 by omega] at I;exact⟨.inl rfl,[.slice (some ⟨gg,0,none⟩) (i+(m-(i+1))) c],⟨rfl,trivial⟩,_,_,rfl,hl,by rw[show i+(m-(i+1))=m-1 by omega];exact I⟩
theorem WK{B:Aq}{h:Ae}{M:List SA}{w:World}{v:Value}{m i:Nat}{xs:List Rul}(I:Inv B h (Ao 64 5 v m (xs.flatMap Rul.enc)::M) w)(hm:m=xs.length)(hi:i<m)(hsz:m≤1000) :
  Calls prog 190 [v,.int .i64 i,.int .i64 (i+1)].toArray w
   (fun ed w'=>∃v h',ed=.returned v∧h.le h'∧Inv B h' (Ao 64 5 v (m-1) ((xs.eraseIdx i).flatMap Rul.enc)::M) w'):=by
 rcases(I.at 0 rfl).2 with ⟨_,h0⟩|⟨gg,cap,cur,rfl,_⟩
 ·omega
 ·exact UE I hm hi hsz
section
variable {P:Program}{e:Env}{w:World}{t:TypeId}{pos:String}{af:Array Edge}{g:Option (Nat×Bool)}{d:Option Nat}{α:Type}
@[reducible] def Sl.takeS(s:Sl α)(l:Nat):Sl α:=⟨s.at_,s.cap,s.xs.take l⟩
@[reducible] def Sl.dropS(s:Sl α)(k l:Nat):Sl α:=⟨some (if s.cap=l then ⟨s.blk,s.off,none⟩ else ⟨s.blk,s.off+l*k,none⟩),s.cap-l,s.xs.drop l⟩
theorem Y.takeS{T el k l:Nat}{ik:IntKind}{x q:Operand}{s:Sl α}(ha:s.at_=some ⟨s.blk,s.off,none⟩)(hT:Und P T (.slice el))(hk:∀w,(sizeOf el).run P w=.ok k w)(hx:ev e x=s.val)(hq:ev e q=.int ik (l:Int))(hl:l≤s.xs.length)(hc:s.xs.length≤s.cap) :
  Y P ⟨d,.slice T x none (some q) none,t,pos,af,g⟩ e w (s.takeS l).val:=by
 have hx':ev e x=.slice (some ⟨s.blk,s.off,none⟩) s.xs.length s.cap:=by rw[hx];unfold Sl.val;rw[←ha]
 refine(AcF (l:=0) (h:=l) hT hk hx' (.inl ⟨rfl,rfl⟩) (.inr ⟨q,ik,rfl,hq⟩) (Afa _) (by omega)).is ?_;simp[Sl.val,Ags hl];exact ha.symm
theorem Y.dropS{T el k l:Nat}{ik:IntKind}{x q:Operand}{s:Sl α}(ha:s.at_=some ⟨s.blk,s.off,none⟩)(hT:Und P T (.slice el))(hk:∀w,(sizeOf el).run P w=.ok k w)(hx:ev e x=s.val)(hq:ev e q=.int ik (l:Int))(hl:l≤s.xs.length)(hc:s.xs.length≤s.cap) :
  Y P ⟨d,.slice T x (some q) none none,t,pos,af,g⟩ e w (s.dropS k l).val:=by
 have hx':ev e x=.slice (some ⟨s.blk,s.off,none⟩) s.xs.length s.cap:=by rw[hx];unfold Sl.val;rw[←ha]
 refine(AcF (l:=l) (h:=s.xs.length) hT hk hx' (.inr ⟨q,ik,rfl,hq⟩) (.inl ⟨rfl,rfl⟩) hl hc).is ?_;simp[Sl.val]
theorem WL{s:Sl α}{k l:Nat}{enc:α→List Value}{h:Ae}(hs:s.Is k enc h):(s.takeS l).Is k enc h:=by
 refine⟨fun i x hx=>hs.el i x ?_,?_⟩
 ·rw[AfF] at hx;split at hx
  ·exact hx
  ·cases hx
 ·have:=hs.small;show(s.xs.take l).length≤_;rw[Afj];omega
theorem WM{s:Sl α}{k l:Nat}{enc:α→List Value}{h:Ae}(hs:s.Is k enc h)(hl:l≤s.xs.length)(hc:s.xs.length≤s.cap):(s.dropS k l).Is k enc h:=by
 refine⟨fun i x hx=>?_,?_⟩
 ·rw[Af9] at hx;have hlt:=(Ae9.1 hx).1;have hne:s.cap≠l:=by omega
  have e:s.dropS k l=⟨some ⟨s.blk,s.off+l*k,none⟩,s.cap-l,s.xs.drop l⟩:=by unfold Sl.dropS;rw[if_neg hne]
  obtain⟨_,h2⟩:=hs.el (l+i) x hx;rw[e];refine⟨rfl,?_⟩;show RdH h s.blk (s.off+l*k+i*k) (enc x);rw[Ahw,←AfP];exact h2
 ·have:=hs.small;show(s.xs.drop l).length≤_;rw[AfD];omega
end
end
section
@[reducible] def PdS(h0:Ae)(xs:List Prd):Sp:=OwS 53 3 Prd.enc h0 xs
theorem PdS.mono{h0:Ae}{xs:List Prd}:Bt (PdS h0 xs):=OwS.mono
def UF(h0:Ae)(r:(List Prd×List Rul)×Int)(v:Value)(h:Ae):Prop:=∃a:Prg,v=.tuple #[a.val,.int .i64 r.2]∧a.preds.xs=r.1.1∧a.rules.xs=r.1.2∧Di 53 3 a.preds Prd.enc h0 h∧Di 64 5 a.rules Rul.enc h0 h
theorem UG{a:Prg}{h0 h:Ae}(hl:h0.le h)(o1:Di 53 3 a.preds Prd.enc h0 h)(o2:Di 64 5 a.rules Rul.enc h0 h)(h1:a.preds.xs.length≤5)(h2:a.rules.xs.length≤16)(he:∀r∈a.rules.xs,r.In h0):a.In h:=
 ⟨⟨o1.in (fun _=>rfl),by omega⟩,⟨⟨o2.in Kq,by omega⟩,fun x hx=>(he x hx).le hl⟩⟩
theorem UF.err{h0 h:Ae}{e:Int}:UF h0 (([],[]),e) (.tuple #[.agg #[.slice none 0 0,.slice none 0 0],.int .i64 e]) h:=⟨⟨⟨none,0,[]⟩,⟨none,0,[]⟩⟩,rfl,rfl,rfl,.inl rfl,.inl rfl⟩
theorem Od{rs:List Rul}{i:Nat}(h:i<rs.length):rs.length-1=(rs.eraseIdx i).length:=by rw[List.length_eraseIdx,if_pos h]
theorem Pe(B:Aq)(hB:B.ok)(p:Prg)(hp:p.In B.h)(hnm:p.Nm)(n:Int):Fn prog 144 [p.val,.int .i64 n] B (UF B.h (AQ p n)):=by
 refine Fo hB func144 rfl ntmps144 fun e I=>Sr<|Abj (O.box (v:=.agg #[_,_]) I rfl rfl fun b2 w I=>Abj (O.alloc I Aio rfl fun b4 w I=>Ai Ag<|Abh<|Abi<|Sr<|Ax (Ld I As 1 0 2 rfl rfl rfl)<|Abj (Abm I call22 (Hl _ I.j6 p hp hnm) rfl fun w I=>Ai Ag<|Abh<|Sr<|Ai Mv<|Ad (AbK rfl rfl)<|Abh ?_)));refine Abl rfl (fun h2=>?_) (fun h2=>?_)
 ·refine Sr<|AbB (v:=.agg #[.slice _ _ _,.slice _ _ _]) (Y.build It Aio rfl rfl)<|Ai Mv<|Abj (Sx I As 0 rfl rfl rfl rfl fun w I=>Ai Ag<|Abh<|Wr ?_);exact BH.mk (vs:=[.agg #[_,_],.int .i64 _]) rfl ⟨⟨_,_,_,_,_,rfl,As,I.l5 0 rfl 0 2,rfl,rfl⟩,rfl,trivial⟩ I.j5 (by unfold AQ;rw[if_pos h2];exact UF.err)
 have hpr:=Afh.1 h2;obtain⟨n5,n8,_⟩:=AB hpr;refine Abk<|Abi<|Abi ?_;by_cases o0:n<0
 ·refine Abg<|Ai Mv<|AT (Abs (AbC rfl rfl) (o0))<|Ab Mv<|Gg<|Gg<|Gg<|Gg<|Gg<|Ab (Abo rfl rfl)<|Abh<|Abw rfl<|Sr<|AbB (v:=.agg #[.slice _ _ _,.slice _ _ _]) (Y.build It Aio rfl rfl)<|Abj (Sx I As 0 rfl rfl rfl rfl fun w I=>Ai Ag<|Abh<|Wr ?_);exact BH.mk (vs:=[.agg #[_,_],.int .i64 _]) rfl ⟨⟨_,_,_,_,_,rfl,As,I.l5 0 rfl 0 2,rfl,rfl⟩,rfl,trivial⟩ I.j5 (by unfold AQ;rw[if_neg (by rw[hpr];decide),if_pos (by omega)];exact UF.err)
 by_cases o1:(p.rules.xs.length:Int)≤n
 ·refine Abg<|Ai Mv<|AF (Abt (AbC rfl rfl) (o0))<|Ab Mv<|Gi Mv<|Gp (Abr AU rfl)<|Gs (Ld I Cc 1 1 1 rfl rfl rfl)<|Gi (AbA Aic rfl)<|GT (Abs (AbZ rfl rfl) (o1))<|Ab (Abp rfl rfl)<|Abh<|Abw rfl<|Sr<|AbB (v:=.agg #[.slice _ _ _,.slice _ _ _]) (Y.build It Aio rfl rfl)<|Abj (Sx I As 0 rfl rfl rfl rfl fun w I=>Ai Ag<|Abh<|Wr ?_);exact BH.mk (vs:=[.agg #[_,_],.int .i64 _]) rfl ⟨⟨_,_,_,_,_,rfl,As,I.l5 0 rfl 0 2,rfl,rfl⟩,rfl,trivial⟩ I.j5 (by unfold AQ;rw[if_neg (by rw[hpr];decide),if_pos (by omega)];exact UF.err)
 refine Abg<|Ai Mv<|AF (Abt (AbC rfl rfl) (o0))<|Ab Mv<|Gi Mv<|Gp (Abr AU rfl)<|Gs (Ld I Cc 1 1 1 rfl rfl rfl)<|Gi (AbA Aic rfl)<|GF (Abt (AbZ rfl rfl) (o1))<|Ab (Abp rfl rfl)<|Abh<|Abq rfl ?_;obtain⟨i,rfl⟩:∃i:Nat,n=i:=⟨n.toNat,by omega⟩;have hi:i<p.rules.xs.length:=by omega
 refine Abk<|Abi<|Ab9 AC RUn.pre ⟨B.h,none,none,none⟩ (J:=JUn B [box b4 [.slice none 0 0,.slice none 0 0] 25,box b2 p.enc 25] 64 5 p.rules.xs.length (p.rules.xs.length-1) (p.rules.xs.flatMap Rul.enc) ((p.rules.xs.eraseIdx i).flatMap Rul.enc) 25 [.slice none 0 0,.slice none 0 0] 5 9 97) ⟨rfl,rfl,rfl,fun h=>(by cases h),I.drew⟩ 11 (by kernel_rfl)<|Aby (v:=.pointer (some ⟨_,_,none⟩)) (fun _=>Aa _) RUn.pre (JUn.set (by decide)) (fun _ s w us hl hj=>have I:=hj.base;have hl:=hl.h;Abu At rfl)<|Aby (v:=.slice _ _ _) (fun _=>Aa _) RUn.pre (JUn.set (by decide)) (fun _ s w us hl hj=>have I:=hj.base;have hl:=hl.h;Ld I A7 1 0 1 rfl rfl rfl) ?_;refine AbT (Φ:=Z5 (PdS B.h p.preds.xs)) (Z5.mono PdS.mono) (fun _=>Aa _) (fun D' z w hDk hl hj=>?_) ?_
 ·refine FR.all fun us=>hj.know (by decide) fun N I=>?_;have hl:=hl.h;refine AbE I call189 (OS _ I.j6 p.preds (hp.preds.le hl) (by omega)) rfl ?_;rintro _ h1 w I hl' ⟨s,rfl,es,os,_⟩;exact⟨_,hl',I,⟨s,rfl,es,os.older hl⟩⟩
 refine Aby (v:=.pointer (some ⟨_,_,none⟩)) (fun _=>Aa _) RUn.pre (JUn.set (by decide)) (fun _ s w us hl hj=>have I:=hj.base;have hl:=hl.h;Abr AU rfl)<|Aby (v:=.slice _ _ _) (fun _=>Aa _) RUn.pre (JUn.set (by decide)) (fun _ s w us hl hj=>have I:=hj.base;have hl:=hl.h;Ld I Cc 1 1 1 rfl rfl rfl) ?_;refine AbT (Φ:=Zh) (Zh.mono) (fun _=>Aa _) (fun D' z w hDk hl hj=>?_) ?_
 ·intro u25 q25;refine hj.first hDk (by decide) (by decide) fun N I=>AbE I call191 (OT _ I.j6 p.rules (hp.rules.is.le hl.h) (by omega)) rfl ?_;rintro _ h7 w I hl' ⟨gs,rfl,eg,og,_⟩;obtain⟨h8,I,mono8,_⟩:=I.x9 og hl.h;exact⟨h8,mono8 _ hl' (Ae.le.refl _),by rw[eg] at I;exact I⟩
 refine Aby (v:=.int .i64 _) (fun _=>Aa _) RUn.pre (JUn.set (by decide)) (fun _ s w us hl hj=>have I:=hj.base;have hl:=hl.h;Mv)<|Aby (v:=.int .i64 _) (fun _=>Aa _) RUn.pre (JUn.set (by decide)) (fun _ s w us hl hj=>have I:=hj.base;have hl:=hl.h;Mv)<|Aby (v:=.int .i64 _) (fun _=>Aa _) RUn.pre (JUn.set (by decide)) (fun _ s w us hl hj=>have I:=hj.base;have hl:=hl.h;Dd rfl rfl) ?_;refine AbT (Φ:=Z4) (Z4.mono) (fun _=>Aa _) (fun D' z w hDk hl hj=>?_) ?_
 ·intro u25 q25 u28 q28;refine hj.second hDk (by decide) (by decide) (q28 rfl) fun N I=>Ace call190 (WK I rfl hi (by omega)) rfl ?_;rintro ed w ⟨v,h8,rfl,hl8,I⟩;exact⟨_,rfl,h8,hl8,I⟩
 refine AbT (Φ:=PrU (PdS B.h p.preds.xs)) (PrU.mono PdS.mono) (fun _=>Aa _) (fun D' z w hDk hl hj=>?_) ?_
 ·intro u25 q25 u28 q28 u32 q32;obtain⟨s1,rfl,e1,o1⟩:=q25 rfl;rcases((hj.turned (q32 rfl)).at 0 rfl).2 with ⟨rfl,_⟩|⟨gg,cap,cur,rfl,_⟩;all_goals exact hj.look (by decide) (Y.build It Aio rfl rfl) ⟨_,_,rfl,⟨s1,rfl,e1,o1⟩,q32 rfl⟩
 refine Acl fun D z w hD hl hj u25 q25 u28 q28 u32 q32 u33 q33=>?_;obtain⟨_,v4,rfl,⟨s1,rfl,e1,o1⟩,h4⟩:=q33 rfl;have I:=hj.turned h4;obtain⟨h8,s2,le8,rfl,e2,o2,I⟩:=I.y5 (Od hi);refine Abj (Sx I As 0 rfl rfl rfl rfl fun w I=>Ai Ag<|Abh<|Wr ?_);exact BH.mk (vs:=[.agg #[_,_],.int .i64 _]) rfl ⟨⟨_,_,_,_,_,rfl,As,I.l5 0 rfl 0 2,rfl,rfl⟩,rfl,trivial⟩ I.j5 (by unfold AQ;rw[if_neg (by rw[hpr];decide),if_neg (by omega)];exact⟨⟨s1,s2⟩,rfl,e1,e2,o1.le le8,o2.older hl.h⟩)
def EmS{α:Type}(T k:Nat)(enc:α→List Value)(h0:Ae):Sp:=fun v h=>∃s:Sl α,v=s.val∧Di T k s enc h0 h∧s.xs=[]∧s.cap=0∧∃b,s.at_=some ⟨b,0,none⟩
theorem EmS.mono{α:Type}{T k:Nat}{enc:α→List Value}{h0:Ae}:Bt (EmS T k enc h0):=fun _ _ _ hl ⟨s,a,b,c⟩=>⟨s,a,b.le hl,c⟩
theorem MH(B:Aq)(hB:B.ok)(p:Prg)(hp:p.In B.h)(hnm:p.Nm)(hcap:p.rules.xs.length≤p.rules.cap)(n:Int):Fn prog 104 [p.val,.int .i64 n] B (UF B.h (AQ p n)):=by
 refine Fo hB func104 rfl ntmps104 fun e I=>Sr<|Abj (O.box (v:=.agg #[_,_]) I rfl rfl fun b2 w I=>Abj (O.alloc I Aio rfl fun b4 w I=>Ai Ag<|Abh<|Abi<|Sr<|Ax (Ld I As 1 0 2 rfl rfl rfl)<|Abj (Abm I call16 (De _ I.j6 p hp hnm) rfl fun w I=>Ai Ag<|Abh<|Sr<|Ai Mv<|Ad (AbK rfl rfl)<|Abh ?_)));refine Abl rfl (fun h2=>?_) (fun h2=>?_)
 ·refine Sr<|AbB (v:=.agg #[.slice _ _ _,.slice _ _ _]) (Y.build It Aio rfl rfl)<|Ai Mv<|Abj (Sx I As 0 rfl rfl rfl rfl fun w I=>Ai Ag<|Abh<|Wr ?_);exact BH.mk (vs:=[.agg #[_,_],.int .i64 _]) rfl ⟨⟨_,_,_,_,_,rfl,As,I.l5 0 rfl 0 2,rfl,rfl⟩,rfl,trivial⟩ I.j5 (by unfold AQ;rw[if_pos h2];exact UF.err)
 have hpr:=Afh.1 h2;obtain⟨n5,n8,_⟩:=AB hpr;refine Abk<|Abi<|Sr<|Ai Mv<|Ap (Abr AU rfl)<|As0 (Ld I Cc 1 1 1 rfl rfl rfl)<|Ai (AbA Aic rfl)<|Ai (AcA rfl rfl ⟨by omega,by omega⟩)<|Abj (Abm I call42 (A2 _ I.j6 n 0 (p.rules.xs.length-1)) rfl fun w I=>Ab (Y.not rfl)<|Abh ?_);refine AbG rfl (fun h4=>?_) (fun h4=>?_)
 ·have h4:¬within n 0 ((p.rules.xs.length:Int)-1):=by simpa using h4
  refine Sr<|AbB (v:=.agg #[.slice _ _ _,.slice _ _ _]) (Y.build It Aio rfl rfl)<|Abj (Sx I As 0 rfl rfl rfl rfl fun w I=>Ai Ag<|Abh<|Wr ?_);exact BH.mk (vs:=[.agg #[_,_],.int .i64 _]) rfl ⟨⟨_,_,_,_,_,rfl,As,I.l5 0 rfl 0 2,rfl,rfl⟩,rfl,trivial⟩ I.j5 (by unfold AQ;rw[if_neg (by rw[hpr];decide),if_pos (by unfold within at h4;omega)];exact UF.err)
 have h4:within n 0 ((p.rules.xs.length:Int)-1):=by simpa using h4
 have hn:0≤n∧n<p.rules.xs.length:=by unfold within at h4;omega
 obtain⟨i,rfl⟩:∃i:Nat,n=i:=⟨n.toNat,by omega⟩;have hi:i<p.rules.xs.length:=by omega
 have hat:=(hp.rules.is.at hi).at_;have hit:(p.rules.takeS i).xs.length=i:=by show(p.rules.xs.take i).length=i;rw[Afj];omega
 have hdl:i+(p.rules.dropS 5 (i+1)).xs.length=p.rules.xs.length-1:=by show i+(p.rules.xs.drop (i+1)).length=_;rw[AfD];omega
 have hdc:(p.rules.xs.take i).flatMap Rul.enc++(p.rules.dropS 5 (i+1)).xs.flatMap Rul.enc=(p.rules.xs.eraseIdx i).flatMap Rul.enc:=by rw[←Afm,Agr]
 refine Abk<|Abi<|Ab9 AC RU3.pre ⟨B.h,none,none,none,none⟩ (J:=JU3 B [box b4 [.slice none 0 0,.slice none 0 0] 25,box b2 p.enc 25] 64 5 i (p.rules.xs.length-1) ((p.rules.xs.take i).flatMap Rul.enc) ((p.rules.xs.eraseIdx i).flatMap Rul.enc) 25 [.slice none 0 0,.slice none 0 0] 4 9 15 97) ⟨rfl,rfl,rfl,rfl,fun h=>(by cases h),fun h=>(by cases h),I.drew⟩ 17 (by kernel_rfl) ?_;refine AbT (Φ:=YS (EmS 53 3 Prd.enc B.h)) (YS.mono EmS.mono) (fun _=>Aa _) (fun D' z w hDk hl hj=>?_) ?_
 ·refine FR.all fun us=>hj.know (by decide) fun N I=>?_;have hl:=hl.h;exact AdD (α:=Prd) Prd.enc I Aia Aim fun s h w I le e c a o=>⟨h,le,I,s,rfl,o.older hl,e,c,a⟩
 refine Aby (v:=.pointer (some ⟨_,_,none⟩)) (fun _=>Aa _) RU3.pre (JU3.set (by decide)) (fun _ s w us hl hj=>have I:=hj.base;have hl:=hl.h;Abu At rfl)<|Aby (v:=.slice _ _ _) (fun _=>Aa _) RU3.pre (JU3.set (by decide)) (fun _ s w us hl hj=>have I:=hj.base;have hl:=hl.h;Ld I A7 1 0 1 rfl rfl rfl) ?_;refine AbT (Φ:=YS (PdS B.h p.preds.xs)) (YS.mono PdS.mono) (fun _=>Aa _) (fun D' z w hDk hl hj=>?_) ?_
 ·intro u21 q21;obtain⟨s0,rfl,o0,e0,c0,a0⟩:=q21 rfl;refine hj.know (by decide) fun N I=>?_;have hl:=hl.h;exact AcP (α:=Prd) I Aia Vg (fun _=>rfl) o0 hl e0 c0 a0 (hp.preds.el.le hl) rfl rfl (by omega) (by omega) (fun r h' w' I hl hr o2 r0=>⟨h',hl,I,r,rfl,hr,o2⟩)
 refine AbT (Φ:=Zi) (Zi.mono) (fun _=>Aa _) (fun D' z w hDk hl hj=>?_) ?_
 ·intro u21 q21 u24 q24;refine hj.first hDk (by decide) fun N I=>AdD (α:=Rul) Rul.enc I Aic Aiv fun s h8 w I le e c a o=>?_;obtain⟨h9,I,mono9,_⟩:=I.x9 o hl.h;rw[e] at I;exact⟨h9,mono9 _ le (Ae.le.refl _),I⟩
 refine Aby (v:=.pointer (some ⟨_,_,none⟩)) (fun _=>Aa _) RU3.pre (JU3.set (by decide)) (fun _ s w us hl hj=>have I:=hj.base;have hl:=hl.h;Abr AU rfl)<|Aby (v:=.slice _ _ _) (fun _=>Aa _) RU3.pre (JU3.set (by decide)) (fun _ s w us hl hj=>have I:=hj.base;have hl:=hl.h;Ld I Cc 1 1 1 rfl rfl rfl)<|Aby (v:=.int .i64 _) (fun _=>Aa _) RU3.pre (JU3.set (by decide)) (fun _ s w us hl hj=>have I:=hj.base;have hl:=hl.h;Mv)<|Aby (v:=.slice _ _ _) (fun _=>Aa _) RU3.pre (JU3.set (by decide)) (fun _ s w us hl hj=>have I:=hj.base;have hl:=hl.h;Y.takeS (l:=i) hat Aic Aiv rfl rfl (by omega) hcap) ?_;refine AbT (Φ:=Zj) (Zj.mono) (fun _=>Aa _) (fun D' z w hDk hl hj=>?_) ?_
 ·intro u21 q21 u24 q24 u25 q25;refine hj.second hDk (by decide) (q25 rfl) fun N I=>AdP (u:=p.rules.takeS i) I Aic OC 0 rfl Kq MG (WL (hp.rules.is.le hl.h)).el rfl rfl (by omega) (by omega) fun v' w I=>?_;refine⟨z.h,Ae.le.refl _,?_⟩;rw[hit,Agg] at I;exact I
 refine Aby (v:=.pointer (some ⟨_,_,none⟩)) (fun _=>Aa _) RU3.pre (JU3.set (by decide)) (fun _ s w us hl hj=>have I:=hj.base;have hl:=hl.h;Abr AU rfl)<|Aby (v:=.slice _ _ _) (fun _=>Aa _) RU3.pre (JU3.set (by decide)) (fun _ s w us hl hj=>have I:=hj.base;have hl:=hl.h;Ld I Cc 1 1 1 rfl rfl rfl)<|Aby (v:=.int .i64 _) (fun _=>Aa _) RU3.pre (JU3.set (by decide)) (fun _ s w us hl hj=>have I:=hj.base;have hl:=hl.h;Mv)<|Aby (v:=.int .i64 _) (fun _=>Aa _) RU3.pre (JU3.set (by decide)) (fun _ s w us hl hj=>have I:=hj.base;have hl:=hl.h;Dd rfl rfl)<|Aby (v:=.slice _ _ _) (fun _=>Aa _) RU3.pre (JU3.set (by decide)) (fun _ s w us hl hj=>have I:=hj.base;have hl:=hl.h;Y.dropS (l:=i+1) hat Aic Aiv rfl rfl (by omega) hcap) ?_;refine AbT (Φ:=WJ) (WJ.mono) (fun _=>Aa _) (fun D' z w hDk hl hj=>?_) ?_
 ·intro u21 q21 u24 q24 u25 q25 u30 q30;refine hj.third hDk (by decide) (q30 rfl) fun N I=>AdP (u:=p.rules.dropS 5 (i+1)) I Aic OC 0 rfl Kq MG (WM (hp.rules.is.le hl.h) (by omega) hcap).el rfl rfl (by omega) (by omega) fun v' w I=>?_;refine⟨z.h,Ae.le.refl _,?_⟩;rw[hdl,hdc] at I;exact I
 refine AbT (Φ:=Pr3 (PdS B.h p.preds.xs)) (Pr3.mono PdS.mono) (fun _=>Aa _) (fun D' z w hDk hl hj=>?_) ?_
 ·intro u21 q21 u24 q24 u25 q25 u30 q30 u36 q36;obtain⟨s1,rfl,e1,o1⟩:=q24 rfl;rcases((hj.turned (q36 rfl)).at 0 rfl).2 with ⟨rfl,_⟩|⟨gg,cap,cur,rfl,_⟩;all_goals exact hj.look (by decide) (Y.build It Aio rfl rfl) ⟨_,_,rfl,⟨s1,rfl,e1,o1⟩,q36 rfl⟩
 refine Acl fun D z w hD hl hj u21 q21 u24 q24 u25 q25 u30 q30 u36 q36 u37 q37=>?_;obtain⟨_,v4,rfl,⟨s1,rfl,e1,o1⟩,h4⟩:=q37 rfl;have I:=hj.turned h4;obtain⟨h8,s2,le8,rfl,e2,o2,I⟩:=I.y5 (Od hi);refine Abj (Sx I As 0 rfl rfl rfl rfl fun w I=>Ai Ag<|Abh<|Wr ?_);exact BH.mk (vs:=[.agg #[_,_],.int .i64 _]) rfl ⟨⟨_,_,_,_,_,rfl,As,I.l5 0 rfl 0 2,rfl,rfl⟩,rfl,trivial⟩ I.j5 (by unfold AQ;rw[if_neg (by rw[hpr];decide),if_neg (by omega)];exact⟨⟨s1,s2⟩,rfl,e1,e2,o1.le le8,o2.older hl.h⟩)
def AaZ(r:(List Prd×List Rul)×Int)(v:Value)(h:Ae):Prop:=∃a:Prg,v=.tuple #[a.val,.int .i64 r.2]∧a.preds.xs=r.1.1∧a.rules.xs=r.1.2∧a.In h∧a.Nm
theorem BS{p:Prg}{n:Int}:(AQ p n).1.1.length≤5∧(AQ p n).1.2.length≤16∧(∀x∈(AQ p n).1.1,x∈p.preds.xs)∧∀r∈(AQ p n).1.2,r∈p.rules.xs:=by
 by_cases h:(AQ p n).2=0
 ·obtain⟨h1,h2,e⟩:=NX h;obtain⟨n5,n8,_⟩:=AB h1;rw[e];exact⟨n5,by have:=(HD (rs:=p.rules.xs) (n:=n.toNat)).1;show(p.rules.xs.eraseIdx n.toNat).length≤16;omega,fun x hx=>hx,HD.2⟩
 ·have e:(AQ p n).1=([],[]):=by
   unfold AQ at h ⊢;split
   ·rfl
   rename_i h1;rw[if_neg h1] at h;split
   ·rfl
   rename_i h2;rw[if_neg h2] at h;exact absurd rfl h
  rw[e];simp
theorem UF.sum{r:(List Prd×List Rul)×Int}{h0 h:Ae}{v:Value}(x:UF h0 r v h)(hl:h0.le h)(h5:r.1.1.length≤5)(h16:r.1.2.length≤16)(hn:∀x∈r.1.1,x.name.size≤140737488355328)(hr:∀y∈r.1.2,y.In h0):AaZ r v h:=by
 obtain⟨a,rfl,e1,e2,o1,o2⟩:=x;exact⟨a,rfl,e1,e2,UG hl o1 o2 (by rw[e1];exact h5) (by rw[e2];exact h16) (by rw[e2];exact hr),by unfold Prg.Nm;rw[e1];exact hn⟩
section
variable (B:Aq)(hB:B.ok)(p q:Prg)(hp:p.In B.h)(hq:q.In B.h)(hnm:p.Nm)(hnq:q.Nm)
include hB hp hq hnm hnq
end
section
variable (B:Aq)(hB:B.ok)(p:Prg)(hp:p.In B.h)(hnm:p.Nm)(n:Int)
include hB hp hnm
theorem LD:Fn prog 144 [p.val,.int .i64 n] B (AaZ (AQ p n)):=
 (Pe B hB p hp hnm n).mono fun _ _ hl x=>x.sum hl BS.1 BS.2.1 (fun y hy=>hnm y (BS.2.2.1 y hy)) fun y hy=>hp.rules.each y (BS.2.2.2 y hy)
end
end
section
theorem LE{p:Prg}{n:Nat}(hc:Ac p=0)(h:n<p.rules.xs.length):AQ p n=((p.preds.xs,p.rules.xs.eraseIdx n),0):=by
 unfold AQ;rw[if_neg (fun h=>h hc),if_neg (by omega),Afs]
theorem Kr{p:Prg}{n:Nat}(hc:Ac p=0)(h:¬n<p.rules.xs.length):AQ p n=(([],[]),7):=by
 unfold AQ;rw[if_neg (fun h=>h hc),if_pos (by omega)]
theorem Z6{a p:Prg}{n:Nat}(e1:a.preds.xs=p.preds.xs)(e2:a.rules.xs=p.rules.xs.eraseIdx n):a.er=mkP p.preds.xs ((p.rules.xs.map Rul.er).eraseIdx n):=by
 unfold Prg.er mkP;rw[e2,show a.preds.er=⟨none,0,a.preds.xs⟩ from rfl,e1,Agr,Agr,AfM,List.map_take,List.map_drop]
section
variable (B:Aq)(hB:B.ok)(V:Iq B.h)(s:ByteArray)(hs:s.size≤140737488355328)
include hB V hs
theorem UH{n:Int}(hn:Du (tx s)=some n):Fn prog 127 [.string s] B (fun v _=>v=.tuple #[.int .i64 n,.nilIface]):=(L7 B hB V s hs).mono fun v h' _ hv=>by
 rcases hv with ⟨m,h1,h2⟩|⟨h1,_⟩
 ·rw[hn] at h1;cases h1;exact h2
 ·rw[hn] at h1;cases h1
theorem UI(hn:Du (tx s)=none):Fn prog 127 [.string s] B (fun v _=>∃n te pe,v=.tuple #[.int .i64 n,.iface te pe]):=(L7 B hB V s hs).mono fun v h' _ hv=>by
 rcases hv with ⟨m,h1,h2⟩|⟨_,h1⟩
 ·rw[hn] at h1;cases h1
 ·exact h1
end
def Aa0(B:Aq)(h:Ae)(M:List SA)(bt:Nat)(p:Prg)(s:Bs)(ed:Ending)(w':World):Prop:=
 ∃o h' q,ed=.returned (.string (mk o))∧h.le h'∧Inv B h' (box bt q.enc 89::M) w'∧q.In h'∧q.Nm∧Ac q=0∧HI p s o q
theorem MI{p q:Prg}{s:Bs}(h:Lv s=none)(hq:q.er=p.er):HI p s (EY 1) q:=by unfold HI;rw[h];exact⟨rfl,hq⟩
theorem Ik{p q:Prg}{s o:Bs}{k:Nat}(h:Lv s=some k)(hk:k<p.rules.xs.length)(ho:o=[111,107])(hq:q.er=mkP p.preds.xs ((p.rules.xs.map Rul.er).eraseIdx k)):HI p s o q:=by unfold HI;rw[h];simp only;rw[if_pos hk];exact⟨ho,hq⟩
theorem Ks{p q:Prg}{s o:Bs}{k:Nat}(h:Lv s=some k)(hk:¬k<p.rules.xs.length)(ho:o=EY 7)(hq:q.er=p.er):HI p s o q:=by unfold HI;rw[h];simp only;rw[if_neg hk];exact⟨ho,hq⟩
theorem WN{s:Bs}{n:Int}(h6:s.length≤6)(he:DI n.toNat=s):Lv s=some n.toNat:=by
 rw[←he];exact Wl (by rw[he];exact h6)
theorem Oe{s:Bs}(h:∀n:Int,Du s=some n→0≤n→s.length≤6→DI n.toNat≠s):Lv s=none:=by
 cases hd:Lv s with
 |none=>rfl
 |some k=>
  obtain⟨h1,h2,h3,_⟩:=N1 hd;exact absurd h1.symm (h k h3 (by omega) h2)
theorem Z7{B:Aq}{h:Ae}{M:List SA}{w:World}{bt:Nat}{p:Prg}(V:Iq h)(I:Inv B h (box bt p.enc 89::M) w)(hp:p.In h)(hnm:p.Nm)(hc:Ac p=0)(s:ByteArray)(hs:s.size≤4096) :
  Calls prog 92 [Pt bt,.string s].toArray w (Aa0 B h M bt p (tx s)):=by
 have htl:=BF s;refine AbV (args:=[Pt bt,.string s]) func92 rfl ntmps92 (by kernel_rfl) (by simp) fun e=>Sr<|At0 Ag<|Abh ?_;cases hnum:Du (tx s) with
 |none=>
  refine Sr<|At0 Mv<|Abj (AbE I call127 (UI _ I.j6 V s (by omega) hnum) rfl ?_);rintro _ h1 w I le1 ⟨n,te,pe,rfl⟩;exact Au Mv<|Ai (Y.extract rfl rfl)<|AbB (v:=.iface _ _) (Y.extract rfl rfl)<|Ai Ag<|AbB (v:=_) Ag<|Abh<|Abi<|Sr<|AbB (v:=_) Mv<|AT (AeG AiF rfl)<|Ab Mv<|Gg<|Gg<|Ab (Abo rfl rfl)<|Ab Mv<|Gg<|Gg<|Gg<|Ab (Abo rfl rfl)<|Ab Mv<|Gg<|Gg<|Gg<|Gg<|Ab (Abo rfl rfl)<|Abh<|Abw rfl<|Sr<|Abj (Abm I call93 (CM _ I.j6 1 (by decide)) rfl fun w I=>At0 Ag<|Abh<|Acv<|⟨.inl rfl,[.string (mk (EY 1))],⟨rfl,trivial⟩,EY 1,_,p,rfl,le1,I,hp.le le1,hnm,hc,MI (Oe fun n hn=>by rw[hnum] at hn;cases hn) rfl⟩)
 |some n=>
  have hb:=Lib.atoiAll_bounds (l:=tx s) (v:=n) (by
   unfold Du at hnum;split at hnum
   ·rename_i v hv;injection hnum with hnum;subst hnum;exact hv
   ·cases hnum)
  have hno:(0≤n→s.size≤6→DI n.toNat≠tx s)→Lv (tx s)=none:=fun hh=>Oe fun m hm h0 h6=>by
   rw[hnum] at hm;injection hm with hm;subst hm;exact hh h0 (by omega)
  have hfin:∀{w':World},Inv B h (box bt p.enc 89::M) w'→(0≤n→s.size≤6→DI n.toNat≠tx s)→Aa0 B h M bt p (tx s) (.returned (.string (mk (EY 1)))) w':=fun I hh=>
   ⟨EY 1,_,p,rfl,Ae.le.refl _,I,hp,hnm,hc,MI (hno hh) rfl⟩
  refine Sr<|At0 Mv<|Abj (Abm I call127 (UH _ I.j6 V s (by omega) hnum) rfl fun w I=>Au Mv<|Ai (Y.extract rfl rfl)<|AbB (v:=.nilIface) (Y.extract rfl rfl)<|Ai Ag<|AbB (v:=_) Ag<|Abh ?_);by_cases h0:n<0
  ·exact Abi<|Sr<|AbB (v:=_) Mv<|AF (Ado AiF rfl)<|Ab Mv<|Gi Mv<|GT (Abs (AbC rfl rfl) (h0))<|Ab (Abp rfl rfl)<|Ab Mv<|Gg<|Gg<|Gg<|Ab (Abo rfl rfl)<|Ab Mv<|Gg<|Gg<|Gg<|Gg<|Ab (Abo rfl rfl)<|Abh<|Abw rfl<|Sr<|Abj (Abm I call93 (CM _ I.j6 1 (by decide)) rfl fun w I=>At0 Ag<|Abh<|Acv<|⟨.inl rfl,[.string (mk (EY 1))],⟨rfl,trivial⟩,hfin I (by omega)⟩)
  by_cases h6:s.size>6
  ·exact Abi<|Sr<|AbB (v:=_) Mv<|AF (Ado AiF rfl)<|Ab Mv<|Gi Mv<|GF (Abt (AbC rfl rfl) (h0))<|Ab (Abp rfl rfl)<|Ab Mv<|Gt Mv<|Gi (AbF Ah9 rfl)<|GT (Abs (AbL rfl rfl) ((by omega)))<|Ab (Abp rfl rfl)<|Ab Mv<|Gg<|Gg<|Gg<|Gg<|Ab (Abo rfl rfl)<|Abh<|Abw rfl<|Sr<|Abj (Abm I call93 (CM _ I.j6 1 (by decide)) rfl fun w I=>At0 Ag<|Abh<|Acv<|⟨.inl rfl,[.string (mk (EY 1))],⟨rfl,trivial⟩,hfin I (by omega)⟩)
  by_cases hd:DI n.toNat=tx s
  ·have hnd:=WN (by omega) hd;obtain⟨k,rfl⟩:∃k:Nat,n=k:=⟨n.toNat,by omega⟩;rw[Afs] at hd hnd;refine Abi<|Sr<|AbB (v:=_) Mv<|AF (Ado AiF rfl)<|Ab Mv<|Gi Mv<|GF (Abt (AbC rfl rfl) (h0))<|Ab (Abp rfl rfl)<|Ab Mv<|Gt Mv<|Gi (AbF Ah9 rfl)<|GF (Abt (AbL rfl rfl) ((by omega)))<|Ab (Abp rfl rfl)<|Ab Mv<|Gi Mv<|Ab8 rfl (Abm I call24 (MF _ I.j6 V k (by omega) hb.2) rfl fun w I=>Gt Mv<|GF (Y.is (Ac4 rfl rfl) ((by rw[Afs,Ux hd];rfl)))<|Ab (Abp rfl rfl)<|Abh<|Abq rfl ?_);by_cases hk:k<p.rules.xs.length
   ·have hw:=LE hc hk;refine Abk<|Sr<|Ap Mv<|Ap (Ab4 rfl)<|Ap (Abu Dl rfl)<|Ax (Ld I As 0 0 2 rfl rfl rfl)<|Ai Mv<|Abj (AbE I call144 (hw▸LD _ I.j6 p hp hnm k) rfl ?_);rintro _ h1 w I le1 ⟨q,rfl,e1,e2,qi,qn⟩;refine Au Mv<|Ax (Y.extract rfl rfl)<|Ai (Y.extract rfl rfl)<|Abj (O.alloc I Aio rfl fun b7 w I=>Abj (Sx I As 0 rfl rfl rfl rfl fun w I=>Ai Ag<|Abh<|Abi<|Sr<|Ai Mv<|AF (Abt (AbK rfl rfl) ((fun h=>h rfl)))<|Abh<|Abq rfl ?_));have hq:=(Kb hc e1 e2).1;exact Abk<|Sr<|Ap Mv<|Ax (Ld I As 0 0 2 rfl rfl rfl)<|Ap (Ab4 rfl)<|Ap (Abu Dl rfl)<|Abj (Sx I As 1 rfl rfl rfl rfl fun w I=>Abh<|Sr<|At0 Ag<|Abh<|Acv<|⟨.inl rfl,[.string (mk [111,107])],⟨rfl,trivial⟩,[111,107],_,q,rfl,le1,I.drop,qi,qn,hq,Ik hnd hk rfl (Z6 e1 e2)⟩)
   ·have hw:=Kr hc hk;refine Abk<|Sr<|Ap Mv<|Ap (Ab4 rfl)<|Ap (Abu Dl rfl)<|Ax (Ld I As 0 0 2 rfl rfl rfl)<|Ai Mv<|Abj (AbE I call144 (hw▸LD _ I.j6 p hp hnm k) rfl ?_);rintro _ h1 w I le1 ⟨q,rfl,e1,e2,qi,qn⟩;exact Au Mv<|Ax (Y.extract rfl rfl)<|Ai (Y.extract rfl rfl)<|Abj (O.alloc I Aio rfl fun b7 w I=>Abj (Sx I As 0 rfl rfl rfl rfl fun w I=>Ai Ag<|Abh<|Abi<|Sr<|Ai Mv<|AT (Abs (AbK rfl rfl) ((by decide)))<|Abh<|Abw rfl<|Sr<|Ai Mv<|Abj (Abm I call93 (CM _ I.j6 7 (by decide)) rfl fun w I=>At0 Ag<|Abh<|Acv<|⟨.inl rfl,[.string (mk (EY 7))],⟨rfl,trivial⟩,EY 7,_,p,rfl,le1,I.drop,hp.le le1,hnm,hc,Ks hnd hk rfl rfl⟩)))
  ·exact Abi<|Sr<|AbB (v:=_) Mv<|AF (Ado AiF rfl)<|Ab Mv<|Gi Mv<|GF (Abt (AbC rfl rfl) (h0))<|Ab (Abp rfl rfl)<|Ab Mv<|Gt Mv<|Gi (AbF Ah9 rfl)<|GF (Abt (AbL rfl rfl) ((by omega)))<|Ab (Abp rfl rfl)<|Ab Mv<|Gi Mv<|Ab8 rfl (Abm I call24 (MF _ I.j6 V n (by omega) hb.2) rfl fun w I=>Gt Mv<|GT (Y.is (Ac4 rfl rfl) ((by rw[Uy hd];rfl)))<|Ab (Abp rfl rfl)<|Abh<|Abw rfl<|Sr<|Abj (Abm I call93 (CM _ I.j6 1 (by decide)) rfl fun w I=>At0 Ag<|Abh<|Acv<|⟨.inl rfl,[.string (mk (EY 1))],⟨rfl,trivial⟩,hfin I fun _ _=>hd⟩))
end
section
def Z8(M:List Int)(st:Int)(fr:List Fct)(x:Vrs)(l:Ltl):Bool:=!l.neg && decide (lv M l.atom.pred=st) && isF fr (groundF l.atom x)
@[reducible] def UJ(p:Prg)(s:Sl Int)(st:Int)(f:Sl Fct):List Value:=[p.preds.val,p.rules.val,s.val,.int .i64 st,f.val]
structure Of(p:Prg)(s:Sl Int)(st:Int)(f:Sl Fct)(bn:Nat)(h:Ae):Prop where
 at_:Ci h bn (UJ p s st f)
 p:p.In h
 s:s.Is 1 KG h
 f:Cv f h
theorem Of.le{p:Prg}{s:Sl Int}{st:Int}{f:Sl Fct}{bn:Nat}{h h':Ae}(x:Of p s st f bn h)(hl:h.le h'):Of p s st f bn h':=⟨x.at_.le hl,x.p.le hl,x.s.le hl,x.f.le hl⟩
theorem RM(p:Prg)(s:Sl Int)(st:Int)(f:Sl Fct)(bn b2 b3:Nat)(x:Stp)(r:Rul){h:Ae}(n:Of p s st f bn h)(k2:Ci h b2 [Pt bn])(k3:Ci h b3 x.enc)(hr:r∈p.rules.xs)(ok:ROk p.preds.xs r)(okf:FOk p.preds.xs f.xs)(hx:KE x.vars)(hl:s.xs.length=p.preds.xs.length) :
  Ex prog 182 [] [Pt b2,Pt b3] h Ltl.val r.body.xs (Z8 s.xs st f.xs x.vars):=by
 intro B hB hle l hlm;have n:=n.le hle;have k2:=k2.le hle;have k3:=k3.le hle;have hla:=(n.p.rules.each _ hr).body.each l hlm;have ao:=Bc ok.preds (ok.body l hlm);have El1:=n.s.el.el (DG hl ao.pred.1 ao.pred.2);have pf:=ao.pf ok.five hx 0;show Fn prog 182 [l.val,Pt b2,Pt b3] B _;refine Fo hB func182 rfl ntmps182 fun e I=>Sr<|Abj (O.box (v:=.agg #[_,_,_]) I rfl rfl fun b3 w I=>Ab Ag<|Abh ?_);cases hn:l.neg
 ·by_cases hs:lv s.xs l.atom.pred=st
  ·refine Abi<|Abi<|AbD AC I (by kernel_rfl)<|Qp (fun w I=>Abu BK rfl)<|QF (fun w I=>Y.b (Ld I Br 0 0 1 rfl rfl rfl) (hn))<|Qb (fun w I=>Mv)<|Hp (fun w I=>Abn E7 rfl (I.rd (k2.rd.part 0 1)) rfl rfl)<|Hp (fun w I=>Ab4 rfl)<|Hp (fun w I=>Abr Po rfl)<|Hs (fun w I=>Abn Iu rfl (I.rd (n.at_.rd.part 2 1)) rfl rfl)<|Hp (fun w I=>Abr Bk rfl)<|Hp (fun w I=>Abu AW rfl)<|Hi (fun w I=>Ld I An 0 1 1 rfl rfl rfl)<|Hp (fun w I=>AbJ El1 Aie Aij rfl rfl ao.pred.1 rfl)<|Hi (fun w I=>Abn An rfl (I.rd (El1.rd.part 0 1)) rfl rfl)<|Hp (fun w I=>Abn E7 rfl (I.rd (k2.rd.part 0 1)) rfl rfl)<|Hp (fun w I=>Ab4 rfl)<|Hp (fun w I=>Abr Pp rfl)<|Hi (fun w I=>Abn An rfl (I.rd (n.at_.rd.part 3 1)) rfl rfl)<|HF (fun w I=>Abt (AbK rfl rfl) ((fun h=>h hs)))<|Qb (fun w I=>Abp rfl rfl)<|AbH fun w I=>Abq rfl<|Abk<|Abi<|AbD AC I (by kernel_rfl)<|Qp (fun w I=>Abn E7 rfl (I.rd (k2.rd.part 0 1)) rfl rfl)<|Qp (fun w I=>Ab4 rfl)<|Qp (fun w I=>Abr IH rfl)<|Qs (fun w I=>Abn CD rfl (I.rd (n.at_.rd.part 4 1)) rfl rfl)<|Qp (fun w I=>Abr Bk rfl)<|Qx (fun w I=>Ld I AP 0 1 2 rfl rfl rfl)<|Qp (fun w I=>Abr BV rfl)<|Qy (fun w I=>Abn CI rfl (I.rd (k3.rd.part 1 3)) rfl rfl)<|Am.c (fun w I=>AbO I call183 (Yh _ I.j6 l.atom hla x.vars ao.len ao.err) rfl)<|Am.c (fun w I=>AbO I call141 (Mj _ I.j6 f n.f (fun y hy=>okf.pf y hy) okf.srt (groundF l.atom x.vars) pf) rfl)<|Qu (fun w I=>Mv)<|Qi (fun w I=>Y.extract rfl rfl)<|Qb (fun w I=>Y.extract rfl rfl)<|Qi (fun w I=>Ag)<|Qb (fun w I=>Ag)<|AbH fun w I=>Sr<|Ab Mv<|Ab Ag<|Abh<|Wr ?_;exact Rm (v:=.bool _) rfl rfl I (by simp only[tup,Z8];rw[hn,decide_eq_true hs];rfl)
  ·refine Abi<|Abi<|AbD AC I (by kernel_rfl)<|Qp (fun w I=>Abu BK rfl)<|QF (fun w I=>Y.b (Ld I Br 0 0 1 rfl rfl rfl) (hn))<|Qb (fun w I=>Mv)<|Hp (fun w I=>Abn E7 rfl (I.rd (k2.rd.part 0 1)) rfl rfl)<|Hp (fun w I=>Ab4 rfl)<|Hp (fun w I=>Abr Po rfl)<|Hs (fun w I=>Abn Iu rfl (I.rd (n.at_.rd.part 2 1)) rfl rfl)<|Hp (fun w I=>Abr Bk rfl)<|Hp (fun w I=>Abu AW rfl)<|Hi (fun w I=>Ld I An 0 1 1 rfl rfl rfl)<|Hp (fun w I=>AbJ El1 Aie Aij rfl rfl ao.pred.1 rfl)<|Hi (fun w I=>Abn An rfl (I.rd (El1.rd.part 0 1)) rfl rfl)<|Hp (fun w I=>Abn E7 rfl (I.rd (k2.rd.part 0 1)) rfl rfl)<|Hp (fun w I=>Ab4 rfl)<|Hp (fun w I=>Abr Pp rfl)<|Hi (fun w I=>Abn An rfl (I.rd (n.at_.rd.part 3 1)) rfl rfl)<|HT (fun w I=>Abs (AbK rfl rfl) (hs))<|Qb (fun w I=>Abp rfl rfl)<|AbH fun w I=>Abw rfl<|Sr<|Ab Ag<|Abh<|Wr ?_;exact Rm (v:=.bool _) rfl rfl I (by simp only[tup,Z8];rw[hn,decide_eq_false hs];rfl)
 ·refine Abi<|Abi<|AbD AC I (by kernel_rfl)<|Qp (fun w I=>Abu BK rfl)<|QT (fun w I=>Y.b (Ld I Br 0 0 1 rfl rfl rfl) (hn))<|Qb (fun w I=>Mv)<|Abv rfl<|Abv rfl<|Abv rfl<|Abv rfl<|Abv rfl<|Abv rfl<|Abv rfl<|Abv rfl<|Abv rfl<|Abv rfl<|Abv rfl<|Abv rfl<|Abv rfl<|Abv rfl<|Qb (fun w I=>Abo rfl rfl)<|AbH fun w I=>Abw rfl<|Sr<|Ab Ag<|Abh<|Wr ?_;exact Rm (v:=.bool _) rfl rfl I (by simp only[tup,Z8];rw[hn];rfl)
theorem UK(B:Aq)(hB:B.ok)(p:Prg)(s:Sl Int)(st:Int)(f:Sl Fct)(bn:Nat)(n:Of p s st f bn B.h)(x:Stp)(r:Rul)(h0:0≤x.rule)(hr:p.rules.xs[x.rule.toNat]?=some r)(ok:ROk p.preds.xs r)(okf:FOk p.preds.xs f.xs)(hx:KE x.vars)(hl:s.xs.length=p.preds.xs.length) :
  Fn prog 138 [Pt bn,x.val] B (fun v _=>v=.bool (MQ p s.xs st f.xs x)):=by
 have hrm:=Afk hr;refine Fo hB func138 rfl ntmps138 fun e I=>Sr<|Abj (O.box (v:=.pointer (some ⟨_,_,none⟩)) I rfl rfl fun b2 w I=>Abj (O.box (v:=.agg #[_,_,_,_]) I rfl rfl fun b3 w I=>Ab Ag<|Abh ?_));obtain⟨h3,le3,k3,I⟩:=I.z8;obtain⟨h2,le2,k2,I⟩:=I.z8;have n:=n.le (le3.trans le2);have k3:=k3.le le2;have Er:=n.p.rules.is.el.el hr;have ir:=n.p.rules.each _ hrm;refine Abi<|AbD AC I (by kernel_rfl)<|Qp (fun w I=>Abn E7 rfl (I.rd (k2.rd.part 0 1)) rfl rfl)<|Qp (fun w I=>Ab4 rfl)<|Qp (fun w I=>Abu Vf rfl)<|Qp (fun w I=>Abr AU rfl)<|Qs (fun w I=>Abn Cc rfl (I.rd (n.at_.rd.part 1 1)) rfl rfl)<|Qp (fun w I=>Abu FV rfl)<|Qi (fun w I=>Abn An rfl (I.rd (k3.rd.part 0 1)) rfl rfl)<|Qp (fun w I=>AbJ Er Aic Aiv rfl rfl h0 rfl)<|Qp (fun w I=>Abr AG rfl)<|Qs (fun w I=>Abn Bi rfl (I.rd (Er.rd.part 4 1)) rfl rfl)<|Qf (fun w I=>Acq rfl rfl)<|Am.c (fun w I=>AbO I call181 (HO _ I.j6 r.body ir.body.is 182 call182 [] [Pt b2,Pt b3] (Z8 s.xs st f.xs x.vars) (RM p s st f bn b2 b3 x r n k2 k3 hrm ok okf hx hl)) rfl)<|Qb (fun w I=>Ag)<|AbH fun w I=>Wr ?_;exact Rm (v:=.bool _) rfl rfl I (by simp only[tup,MQ];rw[Ae3,hr];rfl)
def MK(f:List Fct)(x:Fct):Bool:=decide (lkF f (Ah x)=some x.v)
theorem RN(f g:List Fct):E5 (MK f) g=BR f g:=by unfold E5 BR MK;simp only[decide_not,ne_eq]
theorem UL(l:List Prd)(f:Sl Fct)(b:Nat)(g:List Fct){h:Ae}(kb:Ci h b [f.val])(hf:Cv f h)(okf:FOk l f.xs)(okg:∀x∈g,factFine l x=true) :
  Ex prog 140 [] [Pt b] h Fct.val g (MK f.xs):=by
 intro B hB hle x hx;have kb:=kb.le hle;have hf:=hf.le hle;have px:=By okf.len (okg x hx);have hiff:=GJ (x:=x) okf.srt;show Fn prog 140 [x.val,Pt b] B _;refine Fo hB func140 rfl ntmps140 fun e I=>Sr<|Abj (O.box (v:=.agg #[_,_,_,_]) I rfl rfl fun b2 w I=>Ab Ag<|Abh<|Sr<|As0 (Abn CD rfl (I.rd (kb.rd.part 0 1)) rfl rfl)<|Az (Ld I AH 0 0 4 rfl rfl rfl)<|Abj (Abm I call141 (Mj _ I.j6 f hf (fun y hy=>okf.pf y hy) okf.srt x px) rfl fun w I=>Au Mv<|Ai (Y.extract rfl rfl)<|Ab (Y.extract rfl rfl)<|Ai Ag<|Ab Ag<|Abh ?_));cases hi:isF f.xs x
 ·refine Abi<|AbD AC I (by kernel_rfl)<|Qb (fun w I=>Mv)<|QF (fun w I=>Y.b Mv (rfl))<|Abv rfl<|Abv rfl<|Abv rfl<|Abv rfl<|Abv rfl<|Abv rfl<|Qb (fun w I=>Abp rfl rfl)<|Qb (fun w I=>Ag)<|AbH fun w I=>Wr ?_;exact Rm (v:=.bool _) rfl rfl I (by simp only[tup,MK];rw[decide_eq_false];intro e;unfold isF at hi;rw[e] at hi;cases hi)
 ·obtain⟨hlt,he⟩:=hiff.1 hi;have E1:=hf.at hlt;have hlk:=SG okf.srt hlt he;have pinj:=(okf.pf _ (Ae5 hlt)).inj px he;by_cases hv:f.xs[DC f.xs x].v=x.v
  ·refine Abi<|AbD AC I (by kernel_rfl)<|Qb (fun w I=>Mv)<|QT (fun w I=>Y.b Mv (rfl))<|Hs (fun w I=>Abn CD rfl (I.rd (kb.rd.part 0 1)) rfl rfl)<|Hi (fun w I=>Mv)<|Hp (fun w I=>Ix E1 Ah8 Aih rfl rfl)<|Hz (fun w I=>Abn AH rfl (I.rd (E1.rd.part 0 4)) rfl rfl)<|Hz (fun w I=>Ld I AH 0 0 4 rfl rfl rfl)<|HT (fun w I=>Y.b (Aea eqGuardType83 (Zz _ _ _ _ _ _ _ _) rfl rfl) ((by rw[pinj.1,pinj.2.1,pinj.2.2,hv];simp)))<|Qb (fun w I=>Abo rfl rfl)<|Qb (fun w I=>Ag)<|AbH fun w I=>Wr ?_;exact Rm (v:=.bool _) rfl rfl I (by simp only[tup,MK];rw[decide_eq_true (by rw[hlk,hv])])
  ·refine Abi<|AbD AC I (by kernel_rfl)<|Qb (fun w I=>Mv)<|QT (fun w I=>Y.b Mv (rfl))<|Hs (fun w I=>Abn CD rfl (I.rd (kb.rd.part 0 1)) rfl rfl)<|Hi (fun w I=>Mv)<|Hp (fun w I=>Ix E1 Ah8 Aih rfl rfl)<|Hz (fun w I=>Abn AH rfl (I.rd (E1.rd.part 0 4)) rfl rfl)<|Hz (fun w I=>Ld I AH 0 0 4 rfl rfl rfl)<|HF (fun w I=>Y.b (Aea eqGuardType83 (Zz _ _ _ _ _ _ _ _) rfl rfl) ((by rw[beq_eq_false_iff_ne.2 hv];simp)))<|Qb (fun w I=>Abo rfl rfl)<|Qb (fun w I=>Ag)<|AbH fun w I=>Wr ?_;exact Rm (v:=.bool _) rfl rfl I (by simp only[tup,MK];rw[decide_eq_false (by rw[hlk];intro e;exact hv (Option.some.inj e))])
end
section
def WO(p:Prg)(f:List Fct)(q:Nat→Bool):Sp:=fun v h=>∃bp bo bf,v=.func (.func 173) #[] #[Pt bp,Pt bo,Pt bf]∧
 Xd prog 173 [Pt bp,Pt bo,Pt bf] AaY (BM p.preds.xs f p.rules.xs q) h
theorem WO.mono{p:Prg}{f:List Fct}{q:Nat→Bool}:Bt (WO p f q):=fun _ _ _ hl ⟨a,b,c,e,it⟩=>⟨a,b,c,e,it.le hl⟩
theorem ML{l:List Prd}{f:List Fct}{rs:List Rul}{q:Nat→Bool}(h8:rs.length≤8):(BM l f rs q).length≤1000:=by
 have key:∀k,(Cx l f rs q k).length≤k*125:=fun k=>by
  induction k with
  |zero=>simp[Cx]
  |succ k ih=>
   rw[B0,Ae2];have:(BB l f rs q k).length≤125:=by
    unfold BB;split
    ·rw[Afw];unfold A6;rw[Afw];exact AfY (AfO ..) (by decide +kernel)
    ·simp
   omega
 have h1:=key rs.length;show(Cx l f rs q rs.length).length≤1000;omega
def Aba(p:Prg)(v:Value)(h:Ae):Prop:=(Ac p≠0∧v=.tuple #[.slice none 0 0,.int .i64 0,.int .i64 (Ac p)])∨(Ac p=0∧∃(s:Sl Fct) (c:Nat),v=.tuple #[s.val,.int .i64 c,.int .i64 0]∧Cv s h∧Oq p (Ak p) (Ds (Ak p)) s.xs c)
def SJ(p:Prg)(M:List Int)(st:Int)(f0:List Fct)(c:Nat)(b:Bool)(fr f:List Fct):Prop:=(b=true∨fr≠[])∧IB p M st f0 c b fr f∨b=false∧fr=[]∧NY p M st true [] f0 f c
def HP(p:Prg)(M:List Int)(st:Int)(b:Bool)(fr f:List Fct)(k:Nat):List (Stp×Fct):=((BM p.preds.xs f p.rules.xs (ofQ p M st)).take k).filter (DP p M st b fr)
theorem RO{p:Prg}{M:List Int}{st:Int}{b:Bool}{fr f:List Fct}{k:Nat}(hk:k<(BM p.preds.xs f p.rules.xs (ofQ p M st)).length) :
  HP p M st b fr f (k+1)=HP p M st b fr f k++if DP p M st b fr (BM p.preds.xs f p.rules.xs (ofQ p M st))[k]=true then [(BM p.preds.xs f p.rules.xs (ofQ p M st))[k]] else []:=by
 unfold HP;rw[Afi hk,AgD];cases h:DP p M st b fr (BM p.preds.xs f p.rules.xs (ofQ p M st))[k]<;>simp[h]
theorem UM{p:Prg}{M:List Int}{st:Int}{b:Bool}{fr f:List Fct}:HP p M st b fr f (BM p.preds.xs f p.rules.xs (ofQ p M st)).length=CY p M st b fr f:=by
 unfold HP CY;rw[Afo]
theorem UN{p:Prg}{M:List Int}{st:Int}{b:Bool}{fr f:List Fct}{k:Nat}(h8:p.rules.xs.length≤8):(HP p M st b fr f k).length≤1000:=by
 unfold HP;refine AfY (AfO ..) ?_;rw[Afj];have:=ML (l:=p.preds.xs) (f:=f) (q:=ofQ p M st) h8;omega
structure SmS where
 b11:Nat
 first:Bool
 fr:Sl Fct
 f:Sl Fct
 c:Nat
 ms:List Nat
 h:Ae
theorem Og(B:Aq)(hB:B.ok)(p:Prg)(hp:p.In B.h)(hnm:p.Nm):Fn prog 90 [p.val] B (Aba p):=by
 refine Aed func90 rfl ntmps90 (by kernel_rfl) (by simp) fun e=>?_;have I:=Ab2 hB;refine AbW<|AbN<|Abj (O.box (v:=.agg #[_,_]) I rfl rfl fun b1 w I=>As0 Ag<|Ai Ag<|Ai Ag<|Abh ?_);by_cases hpr:Ac p≠0
 ·refine AbW<|AbN<|Ax (Ld I As 0 0 2 rfl rfl rfl)<|Abj (AbE I call135 (Hn _ I.j6 p hp hnm) rfl ?_);rintro v h1 w I le1 hS;rcases hS with ⟨_,rfl⟩|⟨h0,_⟩;rotate_left;exact absurd h0 hpr;refine Au Mv<|As0 (Y.extract rfl rfl)<|Ai (Y.extract rfl rfl)<|As0 Ag<|Ai Ag<|Abh<|AbW<|AbW<|AbN<|Ai Mv<|Ad (AbK rfl rfl)<|Abh<|AdM rfl (hpr)<|AbW<|AbN<|Ai Mv<|As0 Ag<|Ai Ag<|Ai Ag<|Abh<|Adl ?_;repeat (first|refine BO ?_|refine Bq ?_)
  show Q6 _ _ _ _ _ _ _ _;exact⟨.inl rfl,[],_,_,[.slice none 0 0,.int .i64 0,.int .i64 (Ac p)],rfl,by rw[AgT,Aft];exact I,fun w2 I2=>⟨rfl,rfl,rfl,trivial⟩,.inl ⟨hpr,rfl⟩⟩
 have hpr:=Afh.1 hpr;obtain⟨k1,k2,k3,_,_⟩:=AB hpr;have rk:=BA hpr;have ok0:=Ea hpr;refine AbW<|AbN<|Ax (Ld I As 0 0 2 rfl rfl rfl)<|Abj (AbE I call135 (Hn _ I.j6 p hp hnm) rfl ?_);rintro v h1 w I le1 hS;rcases hS with ⟨h0,_⟩|⟨_,s,hS,hI,rfl⟩;exact absurd hpr h0;refine Au Mv<|As0 (Y.extract rfl rfl)<|Ai (Y.extract rfl rfl)<|As0 Ag<|Ai Ag<|Abh ?_;have eM:=Bl hS;have hsl:s.xs.length=p.preds.xs.length:=hS.sol.len;have hb5:=CH hpr hS;have hN5:=CG hb5;have hNe:=GU s.xs;obtain⟨N,hN⟩:∃N,Ds s.xs=N:=⟨_,rfl⟩;refine AbW<|AbW<|AbN<|Ai Mv<|Ad (AbK rfl rfl)<|Abh<|AdN rfl ((fun h=>h rfl))<|Ac5<|AbW<|AbN<|Abj (O.alloc I zeroValue31 rfl fun b7 w I=>Abh<|AbW<|AbN<|Abj (O.alloc I AiG rfl fun b8 w I=>Abj (Si I An 0 rfl rfl rfl rfl fun w I=>Abh<|AbW<|AbW<|AbN<|As0 Mv<|Abj (Abm I call76 (hN▸H9 _ I.j6 s hI hb5) rfl fun w I=>Ai Mv<|Abh<|WPD.block ?_))));refine AdZ (σ:=SmS×Nat) (fun s'=>[(1,Pt b1),(5,s.val),(7,Pt b7),(8,Pt b8),(24,.int .i64 N),(25,.int .i64 s'.2)]) (fun s'=>s'.1.ms.map mark)
  (fun s' w=>Inv B s'.1.h ([box b8 [.int .i64 s'.1.c] 3,box b1 p.enc 25,box b7 [s'.1.f.val] 31]++s'.1.ms.map AA) w∧s'.2≤N∧h1.le s'.1.h∧FOk p.preds.xs s'.1.f.xs∧Oq p s.xs s'.2 s'.1.f.xs s'.1.c∧Cv s'.1.f s'.1.h∧s'.1.c≤1000*(Ec p.preds.xs s'.1.f.xs+s'.2)) (fun s'=>N-s'.2)
  ⟨(⟨0,true,⟨none,0,[]⟩,⟨none,0,[]⟩,0,[],h1⟩,0),⟨rfl,rfl,rfl,rfl,rfl,rfl,trivial⟩,rfl,I.perm (by simp only[AgT,Aft];exact List.Perm.cons _ (List.Perm.swap _ _ _)),Afa _,Ae.le.refl _,ok0,⟨rfl,rfl⟩,fnil,Afa _⟩ ?_
 rintro⟨⟨_,_,_,f0,c0,ms,hh⟩,k⟩ e w ⟨I,hk,gl,okf0,hm,hf0,hc0⟩;dsimp only at I hk gl okf0 hm hf0 hc0 ⊢;refine AbW<|AbN<|Ad (AbC rfl rfl)<|Abh<|AbW ?_;refine AcL rfl (fun h7=>?_) (fun h7=>?_)
 ·have hk':k<N:=by omega
  refine Ac5<|AbW<|WPD.block<|AbW<|AbN<|Ai Mv<|Ai Ag<|Abh<|AbW<|AbN<|Ax (Ld I As 1 0 2 rfl rfl rfl)<|As0 Mv<|Ai Mv<|AbB (v:=.agg #[.slice _ _ _,.slice _ _ _,.slice _ _ _,.int .i64 _,.slice _ _ _]) (Y.build Zy zeroValue178 rfl rfl)<|Abj (O.box (v:=.agg #[_,_,_,_,_]) I rfl rfl fun b32 w I=>Abj (O.alloc I zeroValue176 rfl fun b10 w I=>Abj (Sp0 I E7 0 rfl rfl rfl rfl fun w I=>Abh<|AbW<|AbN<|Abj (O.alloc I zeroValue4 rfl fun b11 w I=>Abj (Sb I Br 0 rfl rfl rfl rfl fun w I=>Abh ?_)))));have hp1:=hp.le (le1.trans gl);refine WPD.block ?_;refine AdZ (σ:=SmS) (fun s'=>[(1,Pt b1),(5,s.val),(7,Pt b7),(8,Pt b8),(9,.int .i64 k),(10,Pt b10),(11,.pointer (some ⟨s'.b11,0,none⟩)),(24,.int .i64 N),(25,.int .i64 k)]) (fun s'=>s'.ms.map mark)
   (fun s' w=>Inv B s'.h ([box s'.b11 [.bool s'.first] 4,box b10 [Pt b32] 176,box b32 (UJ p s k s'.fr) 178,box b8 [.int .i64 s'.c] 3,box b1 p.enc 25,box b7 [s'.f.val] 31]++s'.ms.map AA) w∧h1.le s'.h∧FOk p.preds.xs s'.f.xs∧FOk p.preds.xs s'.fr.xs∧SJ p s.xs k f0.xs (s'.c-c0) s'.first s'.fr.xs s'.f.xs∧c0≤s'.c∧Cv s'.f s'.h∧Cv s'.fr s'.h∧s'.c≤1000*(Ec p.preds.xs s'.f.xs+k+if s'.first=true∨s'.fr.xs≠[] then 0 else 1))
   (fun s'=>2*(2001-Ec p.preds.xs s'.f.xs)+if s'.first=true∨s'.fr.xs≠[] then 1 else 0)
   ⟨⟨b11,true,⟨none,0,[]⟩,f0,c0,ms,hh⟩,⟨rfl,rfl,rfl,rfl,rfl,rfl,rfl,rfl,rfl,trivial⟩,rfl,I,gl,okf0,ok0,by rw[AhZ];exact .inl ⟨.inl rfl,IB.zero⟩,Afg _,hf0,fnil,by rw[if_pos (.inl rfl)];exact hc0⟩ ?_
  rintro⟨b11,first,fr,f,c,ms,h2⟩ e w ⟨I,gl2,okf,okfr,sj,hcc,hf,hfr,hcb⟩;dsimp only at I gl2 okf okfr sj hcc hf hfr hcb ⊢;have hp2:=hp.le (le1.trans gl2);have hI2:=hI.le gl2;have h125:=okf.aa6;have hpl:=B1 p.preds.xs f.xs;refine AbW<|AbW ?_;refine Ad6 (σ:=Unit) (fun _=>[(1,Pt b1),(5,s.val),(7,Pt b7),(8,Pt b8),(9,.int .i64 k),(10,Pt b10),(11,Pt b11),(24,.int .i64 N),(25,.int .i64 k),(41,.bool (decide (first=true∨fr.xs≠[])))])
   (fun _ w=>Inv B h2 ([box b11 [.bool first] 4,box b10 [Pt b32] 176,box b32 (UJ p s k fr) 178,box b8 [.int .i64 c] 3,box b1 p.enc 25,box b7 [f.val] 31]++ms.map AA) w) (fun _=>ms.map mark) ?_ ?_
  ·cases hfi:first
   ·by_cases hfe:fr.xs=[]
    ·rw[hfi] at I;refine AbN<|AF (Y.b (Ld I Br 0 0 1 rfl rfl rfl) (rfl))<|Ab Mv<|Gp (Ld I E7 1 0 1 rfl rfl rfl)<|Gp (Ab4 rfl)<|Gp (Abr IH rfl)<|Gs (Ld I CD 2 4 1 rfl rfl rfl)<|Gi (AbA Ah8 rfl)<|GF (Abt (AbL rfl rfl) ((by rw[hfe];decide)))<|Ab (Abp rfl rfl)<|Abh ?_;exact⟨(),⟨rfl,rfl,rfl,rfl,rfl,rfl,rfl,rfl,rfl,congrArg Value.bool (decide_eq_false (by rw[hfe];simp)).symm,trivial⟩,rfl,I⟩
    ·rw[hfi] at I;have:(fr.xs.length:Int)>0:=by have:=Af7.2 hfe;omega
     exact AbN<|AF (Y.b (Ld I Br 0 0 1 rfl rfl rfl) (rfl))<|Ab Mv<|Gp (Ld I E7 1 0 1 rfl rfl rfl)<|Gp (Ab4 rfl)<|Gp (Abr IH rfl)<|Gs (Ld I CD 2 4 1 rfl rfl rfl)<|Gi (AbA Ah8 rfl)<|GT (Abs (AbL rfl rfl) (this))<|Ab (Abp rfl rfl)<|Abh<|⟨(),⟨rfl,rfl,rfl,rfl,rfl,rfl,rfl,rfl,rfl,congrArg Value.bool (decide_eq_true (.inr hfe)).symm,trivial⟩,rfl,I⟩
   ·rw[hfi] at I;exact AbN<|AT (Y.b (Ld I Br 0 0 1 rfl rfl rfl) (rfl))<|Ab Mv<|Gg<|Gg<|Gg<|Gg<|Gg<|Gg<|Ab (Abo rfl rfl)<|Abh<|⟨(),⟨rfl,rfl,rfl,rfl,rfl,rfl,rfl,rfl,rfl,congrArg Value.bool (decide_eq_true (.inl rfl)).symm,trivial⟩,rfl,I⟩
  rintro _ e w I;refine AcL rfl (fun h11=>?_) (fun h11=>?_)
  ·rw[if_pos h11] at hcb;have hscb:IB p s.xs k f0.xs (c-c0) first fr.xs f.xs:=by
    rcases sj with ⟨_,h⟩|⟨a1,a2,_⟩
    ·exact h
    ·rcases h11 with h|h
     ·rw[a1] at h;cases h
     ·exact absurd a2 h
   obtain⟨ts,hts⟩:∃t,BM p.preds.xs f.xs p.rules.xs (ofQ p s.xs k)=t:=⟨_,rfl⟩;have tf:∀t∈ts,factFine p.preds.xs t.2=true:=by rw[←hts];exact Bj rk okf
   have hsomef:∀j,∀t∈HP p s.xs k first fr.xs f.xs j,factFine p.preds.xs t.2=true:=fun j t ht=>tf t (hts▸AfX (AfN.1 ht).1);refine Ac5<|AbW<|WPD.block<|AbW<|AbN<|As0 (Ld I CD 5 0 1 rfl rfl rfl)<|Abj (AbE I call137 (C4 _ I.j6 f hf (by omega)) rfl ?_);rintro _ h3 w I le3 ⟨g0,rfl,eg,og,g0s⟩;refine Abj (O.alloc I zeroValue31 rfl fun b12 w I=>Abj (Ss0 I CD 0 rfl rfl rfl rfl fun w I=>Abh ?_));have hp3:=hp2.le le3;have hI3:=hI2.le le3;have hf3:=hf.le le3;refine AbW<|AbW<|Ad5 AC I 7 (by kernel_rfl)<|Fx (fun _ w us hl I=>Ld I As 5 0 2 rfl rfl rfl)<|Fs (fun _ w us hl I=>Ld I CD 6 0 1 rfl rfl rfl)<|Fx (fun _ w us hl I=>Ld I As 5 0 2 rfl rfl rfl)<|Fs (fun _ w us hl I=>Mv)<|Fi (fun _ w us hl I=>Mv) ?_;refine AbR (Φ:=Zf p s.xs k) Zf.mono (fun _=>Aj _) ?_ ?_
   ·intro _ w hl I;try unfold CT
    refine AbE I call78 (T4 _ I.j6 p s k) rfl ?_;rintro _ h5 w I hl' ⟨b4,b3,b5,rfl,k4,k3',k5⟩;exact⟨_,hl',I,⟨_,rfl,O1 p s k b4 b3 b5 k4 k3' k5 ((hp3.le hl).le hl') ((hI3.le hl).le hl') hS.sol.len (F7 k3)⟩⟩
   refine AbR (Φ:=WO p f.xs (ofQ p s.xs k)) WO.mono (fun _=>Aj _) ?_ ?_
   ·intro _ w hl I u49 q49;obtain⟨cs,rfl,hoc⟩:=q49 rfl;try unfold CT
    refine AbE I call131 (T5 _ I.j6 p f 133 cs) rfl ?_;rintro _ h6 w I hl' ⟨bp,bo,bf,rfl,kp,ko,kf⟩;exact⟨_,hl',I,⟨bp,bo,bf,rfl,Ll p f 133 cs (ofQ p s.xs k) bp bo bf h6 kp ko kf ((hp3.le hl).le hl') ((hf3.le hl).le hl') hpr okf (hoc.le hl')⟩⟩
   refine AbX fun _ w hl I u49 q49 u50 q50=>Abh ?_;obtain⟨bp,bo,bf,rfl,it⟩:=q50 rfl;rw[hts] at it;rename_i h4 _ _;have le4:=le3.trans hl;refine WPD.block ?_;refine Ac6 (ms:=ms) (σ:=Sl Fct×Nat) (fun s'=>[box b12 [s'.1.val] 31,box b11 [.bool first] 4,box b10 [Pt b32] 176,box b32 (UJ p s k fr) 178,box b8 [.int .i64 s'.2] 3,box b1 p.enc 25,box b7 [f.val] 31])
    (fun j s' h=>s'.1.xs=(CV p.preds.xs f.xs (HP p s.xs k first fr.xs f.xs j)).1∧s'.2=c+(HP p s.xs k first fr.xs f.xs j).length∧Cv s'.1 h) (fun _ _ _=>False) (fun _ _ _ _ hl hj=>⟨hj.1,hj.2.1,hj.2.2.le hl⟩) (g0,c) I ⟨eg,rfl,Sl.Is.le ⟨og.in Do,by rw[eg];omega⟩ hl⟩ rfl call173
    it (fun _=>rfl) (by kernel_rfl) (by kernel_rfl) (by kernel_rfl) ?_ ?_ ?_
   ·rintro l r ms' hg j t ⟨u,ch⟩ W hx gl I ⟨hj,hc,iu⟩;dsimp only at hj hc iu;have hjl:=(Ae9.1 hx).1;have hxj:=(Ae9.1 hx).2;have htm:=Afk hx;have hfine:=tf t htm;have hlen:=UN (M:=s.xs) (st:=k) (b:=first) (fr:=fr.xs) (f:=f.xs) (k:=j) k2;have oku:FOk p.preds.xs u.xs:=by rw[hj];exact CW okf (hsomef j)
    obtain⟨n,r1,hr1,hq1,hst1,he1⟩:=Dr.1 (hts▸htm:t∈BM p.preds.xs f.xs p.rules.xs (ofQ p s.xs k));obtain⟨e1,hvs,hhf⟩:=Cn hst1;have hsome:HP p s.xs k first fr.xs f.xs (j+1)=HP p s.xs k first fr.xs f.xs j++if DP p s.xs k first fr.xs t=true then [t] else []:=by
     have hjl':j<(BM p.preds.xs f.xs p.rules.xs (ofQ p s.xs k)).length:=by rw[hts];exact hjl
     have:=RO (p:=p) (M:=s.xs) (st:=k) (b:=first) (fr:=fr.xs) (f:=f.xs) hjl';have e:(BM p.preds.xs f.xs p.rules.xs (ofQ p s.xs k))[j]=t:=by simp only[hts];exact hxj
     rw[e] at this;exact this
    have gl4:=le4.trans gl;refine Acn<|AbU (by kernel_rfl)<|Abj (O.alloc I AiE rfl fun b13 w I=>Abj (Sz I Cy 0 rfl rfl rfl rfl fun w I=>Abh<|AbU (by kernel_rfl)<|Abj (O.alloc I Aii rfl fun b14 w I=>Abj (Sz I AH 0 rfl rfl rfl rfl fun w I=>Abh ?_))));refine⟨hg,[box b14 t.2.enc 83,box b13 t.1.enc 169],Ae.le.refl _,I,fun r' W2 I=>?_⟩;obtain⟨hv,lev,_,kb,J,_,_⟩:=(I.front 5 rfl).aa7;have hno:=UK ⟨W2,hv⟩ J.j6 p s k fr b32 ⟨kb,hp2.le (gl4.trans lev),hI2.le (gl4.trans lev),hfr.le (gl4.trans lev)⟩ t.1 r1 (by omega) (by rw[e1,Afs];exact hr1) (rk r1 (Afk hr1)) okfr hvs hsl;have hpp:=hp2.preds.le gl4;cases hq:DP p s.xs k first fr.xs t
    ·rw[hq] at hsome;simp only[Afy,if_false,Aft] at hsome;unfold DP at hq;rw[Agx] at hq;obtain⟨hq0,hq2⟩:=hq;subst hq0;rw[hq2] at hno;refine WPI.block<|Acn<|AbU (by kernel_rfl)<|AF (Y.b (Ld I Br 3 0 1 rfl rfl rfl) (rfl))<|Ab Mv<|Gp (Ld I E7 4 0 1 rfl rfl rfl)<|Gz (Ld I Cy 1 0 4 rfl rfl rfl)<|Ab8 rfl (Ads I call138 (hno) rfl fun w I=>Ab (Abp rfl rfl)<|Abh<|Aeb rfl<|Adi ?_);exact⟨hg,(u,ch),[box b14 t.2.enc 83,box b13 t.1.enc 169],Ae.le.refl _,I,by rw[hsome];exact hj,by rw[hsome];exact hc,iu⟩
    ·rw[hq,if_pos rfl] at hsome;have fin:∀u2:Sl Fct,u2.xs=(Dw (Al p.preds.xs t.2.pred).kind u.xs t.2).1→u2.xs=(CV p.preds.xs f.xs (HP p s.xs k first fr.xs f.xs (j+1))).1:=fun u2 h=>by
      rw[hsome,F8,h,hj];rfl
     have fin2:ch+1=c+(HP p s.xs k first fr.xs f.xs (j+1)).length:=by rw[hsome,Ae2,Afv];omega
     cases hfi:first
     ·subst hfi;have hq2:MQ p s.xs k fr.xs t.1=true:=by simpa[DP] using hq
      rw[hq2] at hno;refine WPI.block<|Acn<|AbU (by kernel_rfl)<|AF (Y.b (Ld I Br 3 0 1 rfl rfl rfl) (rfl))<|Ab Mv<|Gp (Ld I E7 4 0 1 rfl rfl rfl)<|Gz (Ld I Cy 1 0 4 rfl rfl rfl)<|Ab8 rfl (Ads I call138 (hno) rfl fun w I=>Ab (Abp rfl rfl)<|Abh<|AdC rfl<|Acn<|AbU (by kernel_rfl)<|Ai (Ld I An 6 0 1 rfl rfl rfl)<|Ai (Dd rfl rfl)<|Abj (Si I An 6 rfl rfl rfl rfl fun w I=>Abh<|AbU (by kernel_rfl)<|Ap (Abu At rfl)<|As0 (Ld I A7 7 0 1 rfl rfl rfl)<|As0 (Ld I CD 2 0 1 rfl rfl rfl)<|Az (Ld I AH 0 0 4 rfl rfl rfl)<|Abj (AbE I call132 (TI _ I.j6 p.preds hpp u iu oku t.2 hfine) rfl ?_)));rintro _ h5 w I le5 ⟨u2,rfl,hu2,iu2⟩;exact Au Mv<|As0 (Y.extract rfl rfl)<|Ab (Y.extract rfl rfl)<|Abj (Ss0 I CD 2 rfl rfl rfl rfl fun w I=>Abh<|⟨h5,(u2,ch+1),[box b14 t.2.enc 83,box b13 t.1.enc 169],le5,I,fin u2 hu2,fin2,iu2⟩)
     ·subst hfi;refine WPI.block<|Acn<|AbU (by kernel_rfl)<|AT (Y.b (Ld I Br 3 0 1 rfl rfl rfl) (rfl))<|Ab Mv<|Gg<|Gg<|Gg<|Ab (Abo rfl rfl)<|Abh<|AdC rfl<|Acn<|AbU (by kernel_rfl)<|Ai (Ld I An 6 0 1 rfl rfl rfl)<|Ai (Dd rfl rfl)<|Abj (Si I An 6 rfl rfl rfl rfl fun w I=>Abh<|AbU (by kernel_rfl)<|Ap (Abu At rfl)<|As0 (Ld I A7 7 0 1 rfl rfl rfl)<|As0 (Ld I CD 2 0 1 rfl rfl rfl)<|Az (Ld I AH 0 0 4 rfl rfl rfl)<|Abj (AbE I call132 (TI _ I.j6 p.preds hpp u iu oku t.2 hfine) rfl ?_));rintro _ h5 w I le5 ⟨u2,rfl,hu2,iu2⟩;exact Au Mv<|As0 (Y.extract rfl rfl)<|Ab (Y.extract rfl rfl)<|Abj (Ss0 I CD 2 rfl rfl rfl rfl fun w I=>Abh<|⟨h5,(u2,ch+1),[box b14 t.2.enc 83,box b13 t.1.enc 169],le5,I,fin u2 hu2,fin2,iu2⟩)
   ·rintro Dm h5 ⟨u,ch⟩ W gl I ⟨hj,hc,iu⟩;dsimp only at hj hc iu;rw[←hts,UM] at hj hc;have hjT:EW p s.xs k first fr.xs f.xs=u.xs:=hj.symm;have hsl2:(CY p s.xs k first fr.xs f.xs).length≤1000:=AfY (AfO ..) (ML k2);have sf:∀t∈CY p s.xs k first fr.xs f.xs,factFine p.preds.xs t.2=true:=fun t ht=>tf t (hts▸(AfN.1 ht).1);have ru:=Ho (CY p s.xs k first fr.xs f.xs) (f.xs,false) okf sf;have oku:FOk p.preds.xs u.xs:=by rw[hj];exact ru.fok
    have hup:A8 p.preds.xs f.xs u.xs=true:=by rw[hj];exact ru.up
    have hu125:=oku.aa6;have gl5:=le4.trans gl;obtain⟨h6,le6,hb7,kb7,I,hn7,hB7⟩:=(I.front 6 rfl).aa7;have hBh6:=I.ext;refine AbW<|Ad7 AC RDl.pre ⟨h6,none,none⟩ (J:=JDl B ([box b12 [u.val] 31,box b11 [.bool first] 4,box b10 [Pt b32] 176,box b32 (UJ p s k fr) 178,box b8 [.int .i64 ch] 3,box b1 p.enc 25]++(Dm::ms).map AA) 83 4 u.xs.length (E5 (MK f.xs) u.xs).length (u.xs.flatMap Fct.enc) ((E5 (MK f.xs) u.xs).flatMap Fct.enc) 2 4) ⟨rfl,rfl,fun h=>(by cases h),I.drew⟩ 5 (by kernel_rfl)<|Aby (v:=.pointer (some ⟨_,_,none⟩)) (fun _=>Aa _) RDl.pre (JDl.set (by decide)) (fun _ s w us hl hj=>have I:=hj.base;have hl:=hl.h;Ld I E7 2 0 1 rfl rfl rfl)<|Aby (v:=.slice _ _ _) (fun _=>Aa _) RDl.pre (JDl.set (by decide)) (fun _ s w us hl hj=>have I:=hj.base;have hl:=hl.h;Ld I CD 0 0 1 rfl rfl rfl) ?_;refine AbT Z3.mono (fun _=>Aa _) (fun D' z w hDk hl hj=>?_) ?_
    ·refine FR.all fun us=>hj.first hDk (by decide) fun I=>AbE I call137 (C4 _ I.j6 u ((iu.le le6).le hl.h) (by omega)) rfl ?_;rintro _ h7 w I hl' ⟨gs,rfl,eg,og,gs0⟩;obtain⟨h8,I,mono8,keep8⟩:=I.x9 og (hBh6.trans hl.h);exact⟨h8,mono8 _ hl' (Ae.le.refl _),by rw[eg] at I;exact I⟩
    refine Aby (v:=.func (.func 140) #[] #[Pt b7]) (fun _=>Aa _) RDl.pre (JDl.set (by decide)) (fun _ s w us hl hj=>have I:=hj.base;have hl:=hl.h;Acq rfl rfl) ?_;refine AbT Aap.mono (fun _=>Aa _) (fun D' z w hDk hl hj=>?_) ?_
    ·intro u71 q71;refine hj.second hDk (by decide) (q71 rfl) fun I=>Ace call139 (Ko I rfl (by omega) 140 call140 [] [Pt b7] (MK f.xs) (UL p.preds.xs f b7 u.xs (kb7.le hl.h) (((hf.le gl5).le le6).le hl.h) okf oku.fine)) rfl ?_;rintro ed w ⟨v7,m7,rfl,rfl,I⟩;refine⟨_,rfl,?_⟩;exact⟨z.h,Ae.le.refl _,I⟩
    refine Acl fun D z w hD hl hj u71 q71 u73 q73=>?_;have I:=hj.inv;have q73:z.o4=some u73:=q73 rfl;rw[q73] at I;obtain⟨h9,I,mono9,hn9⟩:=I.unbox (hl.h _ _ hb7) hB7;obtain⟨h10,fs,le10,rfl,hfs,infs,I⟩:=(I.front 1 rfl).p8 Do rfl;have I:=I.perm RJ;refine Ap (Ab4 rfl)<|Ap (Abr IH rfl)<|Abj (Ss0 I CD 3 rfl rfl rfl rfl fun w I=>Abh ?_);have gl10:h5.le h10:=(mono9 h5 (le6.trans hl.h) hn7).trans le10;have efr:fs.xs=BR f.xs u.xs:=by rw[hfs,RN]
    have hfl:fs.xs.length≤u.xs.length:=by rw[efr];exact AfO ..
    have okfs:FOk p.preds.xs fs.xs:=by rw[efr];exact⟨oku.len,oku.preds,fun x hx=>oku.fine x (AfN.1 hx).1,oku.srt.sublist AhE⟩
    have hcc':ch-c0=(c-c0)+(CY p s.xs k first fr.xs f.xs).length:=by omega
    have hpu:=B1 p.preds.xs u.xs;refine AbN<|As0 (Ld I CD 0 0 1 rfl rfl rfl)<|Abj (Ss0 I CD 6 rfl rfl rfl rfl fun w I=>Abh<|AbW<|AbW<|AbN<|Ab (Ld I Br 1 0 1 rfl rfl rfl)<|Abh<|AbN<|Abj (O.alloc I zeroValue4 rfl fun b11 w I=>Abj (Sb I Br 0 rfl rfl rfl rfl fun w I=>Abh<|AbN<|Abj (Sb I Br 0 rfl rfl rfl rfl fun w I=>Abh ?_))));have hend:SJ p s.xs k f0.xs (ch-c0) false fs.xs u.xs∧(ch≤1000*(Ec p.preds.xs u.xs+k+if False∨fs.xs≠[] then 0 else 1))∧2*(2001-Ec p.preds.xs u.xs)+(if False∨fs.xs≠[] then 1 else 0)<2*(2001-Ec p.preds.xs f.xs)+1:=by
     by_cases hfe:BR f.xs u.xs=[]
     ·have huf:u.xs=f.xs:=Kc okf oku hup hfe;have hno:¬(False∨fs.xs≠[]):=by rw[efr,hfe];simp
      refine⟨.inr ⟨rfl,by rw[efr,hfe],by rw[hcc'];exact hscb.done hjT rfl hfe⟩,?_,?_⟩
      ·rw[if_neg hno,huf];omega
      ·rw[if_neg hno,huf];omega
     ·have hne:u.xs≠f.xs:=fun e=>hfe (by rw[e];exact Ib okf);have hlt:=GR okf oku hup hne;have hyes:False∨fs.xs≠[]:=.inr (by rw[efr];exact hfe);refine⟨.inl ⟨.inr (by rw[efr];exact hfe),by rw[hcc',efr];exact hscb.next hjT rfl hfe⟩,?_,?_⟩
      ·rw[if_pos hyes];omega
      ·rw[if_pos hyes];omega
    obtain⟨he1,he2,he3⟩:=hend;refine⟨⟨b11,false,fs,u,ch,Dm::ms,h10⟩,⟨⟨rfl,rfl,rfl,rfl,rfl,rfl,rfl,rfl,rfl,trivial⟩,rfl,I.weak (.cons_cons _ (.cons _ (.cons _ (List.Sublist.refl _)))),gl2.trans (gl5.trans gl10),oku,okfs,he1,by dsimp only;omega,iu.le gl10,⟨infs,by dsimp only;omega⟩,?_⟩,?_⟩
    ·dsimp only;simp only[Afy];exact he2
    ·dsimp only;rw[if_pos h11];simp only[Afy];exact he3
   ·rintro D c h4 _ W gl I hx;exact hx.elim
  ·have h12:first=false∧fr.xs=[]:=by
    rw[not_or,Ag3,Afh] at h11;exact h11
   rw[if_neg h11] at hcb;obtain⟨hfi,hfe⟩:=h12;have hcl:NY p s.xs k true [] f0.xs f.xs (c-c0):=by
    rcases sj with ⟨h,_⟩|⟨_,_,h⟩
    ·exact absurd h h11
    ·exact h
   refine AdY<|AbN<|Ai (Dd rfl rfl)<|Ai Mv<|Abh ?_;exact⟨(⟨0,true,⟨none,0,[]⟩,f,c,ms,h2⟩,k+1),⟨⟨rfl,rfl,rfl,rfl,rfl,rfl,trivial⟩,rfl,I.weak (.cons _ (.cons _ (.cons _ (List.Sublist.refl _)))),by dsimp only;omega,gl2,okf,⟨f0.xs,c0,c-c0,hm,hcl,by dsimp only;omega⟩,hf,by dsimp only;omega⟩,by dsimp only;omega⟩
 obtain rfl:k=N:=by omega
 refine AdY<|AbW<|Adw AC I (by kernel_rfl)<|Qs (fun w I=>Ld I CD 2 0 1 rfl rfl rfl)<|Qi (fun w I=>Ld I An 0 0 1 rfl rfl rfl)<|Qs (fun w I=>Ag)<|Qi (fun w I=>Ag)<|Qi (fun w I=>Ag)<|AbH fun w I=>Adl ?_;repeat (first|refine BO ?_|refine Bq ?_)
 show Q6 _ _ _ _ _ _ _ _;exact⟨.inl rfl,ms,[box b8 [.int .i64 c0] 3,box b1 p.enc 25,box b7 [f0.val] 31],hh,[f0.val,.int .i64 c0,.int .i64 0],rfl,I,fun w2 I2=>⟨rfl,rfl,rfl,trivial⟩,.inr ⟨hpr,f0,c0,rfl,hf0,by rw[eM,hN];exact hm⟩⟩
end
section
def sclF(p:Prg)(M:List Int)(st:Int):Nat→Bool→List Fct→List Fct→Option (List Fct×Nat)
 |0,_,_,_=>none
 |k+1,b,fr,f=>if (BR f (EW p M st b fr f)).isEmpty=true then some (EW p M st b fr f,(CY p M st b fr f).length) else (sclF p M st k false (BR f (EW p M st b fr f)) (EW p M st b fr f)).map fun r=>(r.1,(CY p M st b fr f).length+r.2)
theorem Ku{p:Prg}{M:List Int}{st:Int}:∀{k:Nat} {b:Bool} {fr f r:List Fct} {n:Nat},sclF p M st k b fr f=some (r,n)→NY p M st b fr f r n
 |0,_,_,_,_,_,h=>by cases h
 |k+1,b,fr,f,r,n,h=>by
  rw[sclF] at h;split at h
  ·rename_i h2;injection h with h;injection h with h3 h4;exact .stop h3 h4 (by rw[h3] at h2;exact List.isEmpty_iff.1 h2)
  ·rename_i h2;cases hc:sclF p M st k false (BR f (EW p M st b fr f)) (EW p M st b fr f) with
   |none=>rw[hc] at h;cases h
   |some x=>
    rw[hc] at h;simp only[Agf,Option.some.injEq,Prod.mk.injEq] at h;obtain⟨rfl,rfl⟩:=h;exact .step rfl rfl (fun e=>h2 (by rw[e];rfl)) (Ku hc)
def rdC0:Nat:=((sclF AM [0,0,1] 0 8 true [] []).getD ([],0)).2
def rdC1:Nat:=((sclF AM [0,0,1] 1 8 true [] rdM0).getD ([],0)).2
theorem Abb:sclF AM [0,0,1] 0 8 true [] []=some (rdM0,rdC0):=by kernel_rfl
theorem Abc:sclF AM [0,0,1] 1 8 true [] rdM0=some (rdM,rdC1):=by kernel_rfl
theorem YU:rdC0+rdC1=21:=by kernel_rfl
section
variable {p:Prg}{h:Ae}(hp:Cl p h)
include hp
theorem YV(M:List Int)(st:Int)(fr:List Fct)(s:Stp):MQ p M st fr s=MQ AM M st fr s:=by
 unfold MQ;rw[←Ug hp];exact(SI _ (fun x=>rfl) _).symm
theorem UO(st:Int)(b:Bool)(fr f:List Fct):CY p [0,0,1] st b fr f=CY AM [0,0,1] st b fr f:=by
 unfold CY;rw[Ue hp];congr 1;funext t;unfold DP;rw[YV hp]
theorem YW(st:Int)(b:Bool)(fr f:List Fct):EW p [0,0,1] st b fr f=EW AM [0,0,1] st b fr f:=by
 unfold EW;rw[UO hp,D4 hp]
theorem Pf(st:Int):∀(k:Nat) (b:Bool) (fr f:List Fct),sclF p [0,0,1] st k b fr f=sclF AM [0,0,1] st k b fr f
 |0,_,_,_=>rfl
 |k+1,b,fr,f=>by
  rw[sclF,sclF,YW hp,UO hp,Pf st k]
theorem Z9:Oq p (Ak p) (Ds (Ak p)) rdM 21:=by
 rw[HC hp,show Ds [0,0,1]=2 by decide];refine⟨rdM0,rdC0,rdC1,⟨[],0,rdC0,⟨rfl,rfl⟩,?_,(Agg _).symm⟩,?_,YU.symm⟩
 ·exact Ku (by rw[←Abb];exact Pf hp 0 8 true [] [])
 ·exact Ku (by rw[←Abc];exact Pf hp 1 8 true [] rdM0)
end
end
end Go.TF
