/- Texts Rule5 Rule6 Rule4 RuleLaw RuleLaw2 Sls Bas1 Txp7 Prog7 Prog8 Bas2 Bas3 Rnd0 Bas4 Txp8 SpDec Same1 Prog9 RoadsM Prog10 BaseLaw Txq3 Txq4 SpRound SpRound2 SpNaive. -/
import Derived.Test.YtljkkojkfddpeaaGreatDoorU5
set_option maxRecDepth 20000
set_option maxHeartbeats 16000000
set_option linter.unusedVariables false
set_option linter.unusedSimpArgs false
namespace Go.TF
open Go Go.RowKit Go.Proofs Go.Proofs.Tryz
section
set_option maxRecDepth 10000
theorem Yh(B:Aq)(hB:B.ok)(a:Atm)(ha:a.In B.h)(x:Vrs)(hn:a.args.xs.length≤2)(hok:B9 a.args.xs=0):Fn prog 183 [a.val,x.val] B (fun v _=>v=(groundF a x).val):=by
 refine Fo hB func183 rfl ntmps183 fun e I=>Sr<|Abj (O.box (v:=.agg #[_,_]) I rfl rfl fun b2 w I=>Abj (O.box (v:=.agg #[_,_,_]) I rfl rfl fun b3 w I=>Abj (O.alloc I Aii rfl fun b4 w I=>Abh<|Sr<|Abj (O.alloc I zeroValue255 rfl fun b5 w I=>Abh<|Abi<|Sr<|Ap (Abr Bb rfl)<|As0 (Ld I CN 3 1 1 rfl rfl rfl)<|Ai (AbA Aid rfl)<|Ai Mv<|Abh<|WP.block ?_))));refine Abx (σ:=Nat) (fun k=>[(2,Pt b2),(3,Pt b3),(4,Pt b4),(5,Pt b5),(9,a.args.val),(10,.int .i64 a.args.xs.length),(11,.int .i64 k)])
  (fun k w=>Inv B B.h [box b5 [.int .i64 (if 0<k then Em a x 0 else 0),.int .i64 (if 1<k then Em a x 1 else 0)] 255,box b4 (Fct.enc default) 83,box b3 x.enc 167,box b2 a.enc 61] w∧k≤a.args.xs.length) (fun k=>a.args.xs.length-k)
  ⟨0,⟨rfl,rfl,rfl,rfl,rfl,rfl,rfl,trivial⟩,I,Afa _⟩ ?_
 rintro k e w ⟨I,hk⟩;refine Sr<|Ad (AbC rfl rfl)<|Abh<|Abi ?_;refine Abl rfl (fun h=>?_) (fun h=>?_)
 ·have hk':k<a.args.xs.length:=by omega
  have E1:=Sl.Is.at ha hk';have hvv:=GG hok (Ae5 hk');have hav:=LW (x:=x) hk';have hk2:k=0∨k=1:=by omega
  have hv1:a.args.xs[k].var=true→tv a.args.xs[k] x=x.at a.args.xs[k].n:=fun h=>by simp[tv,h]
  have hv0:a.args.xs[k].var=false→tv a.args.xs[k] x=a.args.xs[k].n:=fun h=>by simp[tv,h]
  rcases hk2 with rfl|rfl
  ·refine Abk<|Abi<|WP.block<|Sr<|Ai Mv<|Ap (Ix E1 Aid Aik rfl rfl)<|Ax (Abn BZ rfl (I.rd (E1.rd.part 0 2)) rfl rfl)<|Abj (O.alloc I Aig rfl fun b7 w I=>Ai Ag<|Abj (Sx I BZ 0 rfl rfl rfl rfl fun w I=>Abh<|Sr<|Ai Mv<|Ap (Abr AI rfl)<|Ai (Ld I An 0 1 1 rfl rfl rfl)<|Ap (Ab1 Aiz Aij rfl rfl (by omega) (by omega))<|Abj (Si I An 1 rfl rfl rfl rfl fun w I=>Abh ?_)));cases hv:a.args.xs[0].var
   ·refine Sr<|Ap (Abu AK rfl)<|AF (Y.b (Ld I Br 0 0 1 rfl rfl rfl) (hv))<|Abh<|Abq rfl<|Abk<|Abg<|Ai (Dd rfl rfl)<|Ai Mv<|Abh ?_;refine⟨1,⟨⟨rfl,rfl,rfl,rfl,rfl,rfl,rfl,trivial⟩,?_,by omega⟩,by omega⟩;have J:=I.drop;simpa[CB,hav,hv0 hv] using J
   ·refine Sr<|Ap (Abu AK rfl)<|AT (Y.b (Ld I Br 0 0 1 rfl rfl rfl) (hv))<|Abh<|Abw rfl<|Abg<|Ai Mv<|Ap (Abr AI rfl)<|Ai (Ld I An 0 1 1 rfl rfl rfl)<|Ap (Ab1 Aiq Aij rfl rfl (hvv hv).1 (hvv hv).2)<|Ai (Abn An rfl (Ac8 (I.l5 3 rfl 0 3) (hvv hv).1 (hvv hv).2) rfl rfl)<|Ap (Ab1 Aiz Aij rfl rfl (by omega) (by omega))<|Abj (Si I An 1 rfl rfl rfl rfl fun w I=>Abh<|Abg<|Ai (Dd rfl rfl)<|Ai Mv<|Abh ?_);refine⟨1,⟨⟨rfl,rfl,rfl,rfl,rfl,rfl,rfl,trivial⟩,?_,by omega⟩,by omega⟩;have J:=I.drop;simpa[CB,hav,hv1 hv] using J
  ·refine Abk<|Abi<|WP.block<|Sr<|Ai Mv<|Ap (Ix E1 Aid Aik rfl rfl)<|Ax (Abn BZ rfl (I.rd (E1.rd.part 0 2)) rfl rfl)<|Abj (O.alloc I Aig rfl fun b7 w I=>Ai Ag<|Abj (Sx I BZ 0 rfl rfl rfl rfl fun w I=>Abh<|Sr<|Ai Mv<|Ap (Abr AI rfl)<|Ai (Ld I An 0 1 1 rfl rfl rfl)<|Ap (Ab1 Aiz Aij rfl rfl (by omega) (by omega))<|Abj (Si I An 1 rfl rfl rfl rfl fun w I=>Abh ?_)));cases hv:a.args.xs[1].var
   ·refine Sr<|Ap (Abu AK rfl)<|AF (Y.b (Ld I Br 0 0 1 rfl rfl rfl) (hv))<|Abh<|Abq rfl<|Abk<|Abg<|Ai (Dd rfl rfl)<|Ai Mv<|Abh ?_;refine⟨2,⟨⟨rfl,rfl,rfl,rfl,rfl,rfl,rfl,trivial⟩,?_,by omega⟩,by omega⟩;have J:=I.drop;simpa[CB,hav,hv0 hv] using J
   ·refine Sr<|Ap (Abu AK rfl)<|AT (Y.b (Ld I Br 0 0 1 rfl rfl rfl) (hv))<|Abh<|Abw rfl<|Abg<|Ai Mv<|Ap (Abr AI rfl)<|Ai (Ld I An 0 1 1 rfl rfl rfl)<|Ap (Ab1 Aiq Aij rfl rfl (hvv hv).1 (hvv hv).2)<|Ai (Abn An rfl (Ac8 (I.l5 3 rfl 0 3) (hvv hv).1 (hvv hv).2) rfl rfl)<|Ap (Ab1 Aiz Aij rfl rfl (by omega) (by omega))<|Abj (Si I An 1 rfl rfl rfl rfl fun w I=>Abh<|Abg<|Ai (Dd rfl rfl)<|Ai Mv<|Abh ?_);refine⟨2,⟨⟨rfl,rfl,rfl,rfl,rfl,rfl,rfl,trivial⟩,?_,by omega⟩,by omega⟩;have J:=I.drop;simpa[CB,hav,hv1 hv] using J
 refine Abz<|Sr<|Ap (Abu AW rfl)<|Ai (Ld I An 3 0 1 rfl rfl rfl)<|Ap (Ab1 Aiz Aij rfl rfl (by omega) (by omega))<|Ai (Ld I An 0 0 1 rfl rfl rfl)<|Ap (Ab1 Aiz Aij rfl rfl (by omega) (by omega))<|Ai (Ld I An 0 1 1 rfl rfl rfl)<|AbB (v:=.agg #[.int .i64 _,.int .i64 _,.int .i64 _,.int .i64 _]) (Y.build Ve Aii rfl rfl)<|Abj (Sz I AH 1 rfl rfl rfl rfl fun w I=>Abh ?_);have h0:(if 0<k then Em a x 0 else 0)=Em a x 0:=by split;rfl;exact(En (by omega)).symm
 have h1:(if 1<k then Em a x 1 else 0)=Em a x 1:=by split;rfl;exact(En (by omega)).symm
 refine Wr ?_;exact BH.mk (vs:=[.agg #[_,_,_,_]]) rfl ⟨⟨_,_,_,_,_,rfl,AH,I.l5 1 rfl 0 4,rfl,rfl⟩,trivial⟩ I.j5 (by simp only[tup,groundF,h0,h1])
theorem JY(B:Aq)(hB:B.ok)(a:Atm)(ha:a.In B.h)(x:Vrs)(hn:a.args.xs.length≤2)(hok:B9 a.args.xs=0):Fn prog 194 [a.val,x.val] B (fun v _=>v=(groundF a x).val):=by
 refine Fo hB func194 rfl ntmps194 fun e I=>Sr<|Abj (O.box (v:=.agg #[_,_]) I rfl rfl fun b2 w I=>Abj (O.box (v:=.agg #[_,_,_]) I rfl rfl fun b3 w I=>Abj (O.alloc I Aii rfl fun b4 w I=>Abh<|Sr<|Ap (Abu AW rfl)<|Ai (Ld I An 2 0 1 rfl rfl rfl)<|AbB (v:=.agg #[.int .i64 _,.int .i64 _,.int .i64 _,.int .i64 _]) (Y.build Ve Aii rfl rfl)<|Abj (O.alloc I Aii rfl fun b5 w I=>Abj (Sz I AH 0 rfl rfl rfl rfl fun w I=>Abh<|Abi<|Sr<|Ai Ag<|Abh<|WP.block ?_)))));refine Abx (σ:=Nat) (fun k=>[(2,Pt b2),(3,Pt b3),(4,Pt b4),(5,Pt b5),(6,.int .i64 k)])
  (fun k w=>Inv B B.h [box b5 [.int .i64 a.pred,.int .i64 (if 0<k then Em a x 0 else 0),.int .i64 (if 1<k then Em a x 1 else 0),.int .i64 0] 83,box b4 (Fct.enc default) 83,box b3 x.enc 167,box b2 a.enc 61] w∧k≤a.args.xs.length) (fun k=>a.args.xs.length-k)
  ⟨0,⟨rfl,rfl,rfl,rfl,rfl,trivial⟩,I,Afa _⟩ ?_
 rintro k e w ⟨I,hk⟩;refine Abi<|Sr<|Ai Mv<|Ap (Abr Bb rfl)<|As0 (Ld I CN 3 1 1 rfl rfl rfl)<|Ai (AbA Aid rfl)<|Ad (AbC rfl rfl)<|Abh ?_;refine Abl rfl (fun h=>?_) (fun h=>?_)
 ·have hk':k<a.args.xs.length:=by omega
  have E1:=Sl.Is.at ha hk';have hvv:=GG hok (Ae5 hk');have hav:=LW (x:=x) hk';have hk2:k=0∨k=1:=by omega
  refine Abk<|Abi<|WP.block<|Sr<|Ap (Abr Bb rfl)<|As0 (Ld I CN 3 1 1 rfl rfl rfl)<|Ai Mv<|Ap (Ix E1 Aid Aik rfl rfl)<|Ap (Abr AI rfl)<|Ai (Abn An rfl (I.rd (E1.rd.part 1 1)) rfl rfl)<|Ai Ag<|Abh<|Abi<|Abi ?_;refine Ack (σ:=Unit) (fun _=>[(2,Pt b2),(3,Pt b3),(4,Pt b4),(5,Pt b5),(6,.int .i64 k),(7,.int .i64 a.args.xs[k].n),(29,.bool a.args.xs[k].var)]) (fun _ w=>Inv B B.h [box b5 [.int .i64 a.pred,.int .i64 (if 0<k then Em a x 0 else 0),.int .i64 (if 1<k then Em a x 1 else 0),.int .i64 0] 83,box b4 (Fct.enc default) 83,box b3 x.enc 167,box b2 a.enc 61] w) ?_ ?_
  ·exact Abg<|Ap (Abr Bb rfl)<|As0 (Ld I CN 3 1 1 rfl rfl rfl)<|Ai Mv<|Ap (Ix E1 Aid Aik rfl rfl)<|Ap (Abu AK rfl)<|Ab (Abn Br rfl (I.rd (E1.rd.part 0 1)) rfl rfl)<|Abh<|⟨(),⟨rfl,rfl,rfl,rfl,rfl,rfl,rfl,trivial⟩,I⟩
  rintro _ e w I;refine Ack (σ:=Unit) (fun _=>[(2,Pt b2),(3,Pt b3),(4,Pt b4),(5,Pt b5),(6,.int .i64 k),(7,.int .i64 (tv a.args.xs[k] x))]) (fun _ w=>Inv B B.h [box b5 [.int .i64 a.pred,.int .i64 (if 0<k then Em a x 0 else 0),.int .i64 (if 1<k then Em a x 1 else 0),.int .i64 0] 83,box b4 (Fct.enc default) 83,box b3 x.enc 167,box b2 a.enc 61] w) ?_ ?_
  ·refine AbG rfl (fun hv=>?_) (fun hv=>?_)
   ·refine Abg<|Ai Mv<|Ap (Ab1 Aiq Aij rfl rfl (hvv hv).1 (hvv hv).2)<|Ai (Abn An rfl (Ac8 (I.l5 2 rfl 0 3) (hvv hv).1 (hvv hv).2) rfl rfl)<|Ai Ag<|Abh ?_;exact⟨(),⟨rfl,rfl,rfl,rfl,rfl,by simp[tv,hv];rfl,trivial⟩,I⟩
   refine Abk ?_;exact⟨(),⟨rfl,rfl,rfl,rfl,rfl,by simp[tv,hv];rfl,trivial⟩,I⟩
  rintro _ e w I;rcases hk2 with rfl|rfl
  ·refine Sr<|Ai Mv<|AT (Abs (AbI rfl rfl) (rfl))<|Abh<|Abw rfl<|Abg<|Ai Mv<|Ap (Abr BG rfl)<|Abj (Si I An 0 rfl rfl rfl rfl fun w I=>Abh<|Abg<|Ai Mv<|Ai (Dd rfl rfl)<|Ai Ag<|Abh ?_);refine⟨1,⟨⟨rfl,rfl,rfl,rfl,rfl,trivial⟩,?_,by omega⟩,by omega⟩;simpa[CB,hav] using I
  ·refine Sr<|Ai Mv<|AF (Abt (AbI rfl rfl) ((by decide)))<|Abh<|Abq rfl<|Abg<|Ai Mv<|Ap (Abr B8 rfl)<|Abj (Si I An 0 rfl rfl rfl rfl fun w I=>Abh<|Abg<|Ai Mv<|Ai (Dd rfl rfl)<|Ai Ag<|Abh ?_);refine⟨2,⟨⟨rfl,rfl,rfl,rfl,rfl,trivial⟩,?_,by omega⟩,by omega⟩;simpa[CB,hav] using I
 refine Abz<|Sr<|Az (Ld I AH 0 0 4 rfl rfl rfl)<|Abj (Sz I AH 1 rfl rfl rfl rfl fun w I=>Abh ?_);have h0:(if 0<k then Em a x 0 else 0)=Em a x 0:=by split;rfl;exact(En (by omega)).symm
 have h1:(if 1<k then Em a x 1 else 0)=Em a x 1:=by split;rfl;exact(En (by omega)).symm
 refine Wr ?_;exact BH.mk (vs:=[.agg #[_,_,_,_]]) rfl ⟨⟨_,_,_,_,_,rfl,AH,I.l5 1 rfl 0 4,rfl,rfl⟩,trivial⟩ I.j5 (by simp only[tup,groundF,h0,h1])
end
section
set_option maxRecDepth 10000
end
section
set_option maxRecDepth 10000
theorem NI(B:Aq)(hB:B.ok)(l:Sl Prd)(hl:HQ l B.h)(r:Rul)(hr:r.In B.h):Fn prog 43 [l.val,r.val] B (fun v _=>v=.int .i64 (checkRule l.xs r)):=by
 have hsm:=hl.small;have hsb:=hr.body.is.small;refine Fo hB func43 rfl ntmps43 fun e I=>Sr<|Abj (O.box (v:=.agg #[_,_,_,_,_]) I rfl rfl fun b3 w I=>Ai Ag<|Abh<|Abi<|Sr<|As0 Mv<|Ap (Abu Bw rfl)<|Ax (Ld I AP 0 0 2 rfl rfl rfl)<|Abj (Abm I call105 (CK _ I.j6 l hl r.head hr.head) rfl fun w I=>Ai Ag<|Abh<|Sr<|Ai Mv<|Ad (AbK rfl rfl)<|Abh ?_));refine Abl rfl (fun h1=>?_) (fun h1=>?_)
 ·refine Sr<|Ai Mv<|Ai Ag<|Abh<|Wr ?_;exact Rm (v:=.int .i64 _) rfl rfl I (by simp only[tup,checkRule];rw[if_pos h1])
 have h1:=Afh.1 h1;have hh:=D1 h1;refine Abk<|Abi<|Sr<|Ap (Abr AG rfl)<|As0 (Ld I Bi 0 4 1 rfl rfl rfl)<|Ai (AbA Aib rfl)<|Ad (AbL rfl rfl)<|Abh ?_;refine Abl rfl (fun h2=>?_) (fun h2=>?_)
 ·refine Sr<|Ai Ag<|Abh<|Wr ?_;exact Rm (v:=.int .i64 _) rfl rfl I (by simp only[tup,checkRule];rw[if_neg (by simp[h1]),if_pos (by omega)])
 refine Abk<|Abi<|Sr<|Ai Ag<|Abh<|WP.block ?_;refine Abx (σ:=Nat) (fun k=>[(0,l.val),(3,Pt b3),(6,.int .i64 k)]) (fun k w=>Inv B B.h [box b3 r.enc 64] w∧k≤r.body.xs.length∧∀j,j<k→∀hj':j<r.body.xs.length,checkAtom l.xs r.body.xs[j].atom=0) (fun k=>r.body.xs.length-k)
  ⟨0,⟨rfl,rfl,rfl,trivial⟩,I,Afa _,fun j hj=>(by omega)⟩ ?_
 rintro k e w ⟨I,hk,hn⟩;refine Abi<|Sr<|Ai Mv<|Ap (Abr AG rfl)<|As0 (Ld I Bi 0 4 1 rfl rfl rfl)<|Ai (AbA Aib rfl)<|Ad (AbC rfl rfl)<|Abh ?_;refine Abl rfl (fun h3=>?_) (fun h3=>?_)
 ·have hk':k<r.body.xs.length:=by omega
  have E1:=hr.body.is.at hk';refine Abk<|Abi<|WP.block<|Sr<|As0 Mv<|Ap (Abr AG rfl)<|As0 (Ld I Bi 0 4 1 rfl rfl rfl)<|Ai Mv<|Ap (Ix E1 Aib Ail rfl rfl)<|Ap (Abr Bk rfl)<|Ax (Abn AP rfl (I.rd (E1.rd.part 1 2)) rfl rfl)<|Abj (Abm I call105 (CK _ I.j6 l hl r.body.xs[k].atom (hr.body.each _ (Ae5 hk'))) rfl fun w I=>Ai Ag<|Abh<|Sr<|Ai Mv<|Ad (AbK rfl rfl)<|Abh ?_);refine Abl rfl (fun h4=>?_) (fun h4=>?_)
  ·refine Sr<|Ai Mv<|Ai Ag<|Abh<|Wr ?_;exact Rm (v:=.int .i64 _) rfl rfl I (by simp only[tup,checkRule];rw[if_neg (by simp[h1]),if_neg (by omega),if_pos (by rw[FX hk' hn h4];exact h4),FX hk' hn h4])
  refine Abk<|Abg<|Ai Mv<|Ai (Dd rfl rfl)<|Ai Ag<|Abh ?_;exact⟨k+1,⟨⟨rfl,rfl,rfl,trivial⟩,I,by omega,fun j hj hj'=>by
   rcases Afd.1 hj with h'|h'
   ·exact hn j h' hj'
   ·subst h';exact Afh.1 h4⟩,by omega⟩
 have hb0:bodyErr l.xs r.body.xs=0:=C2.2 fun x hx=>by obtain⟨j,hj,rfl⟩:=Afz hx;exact hn j (by omega) hj
 clear hn hk h3;refine Abz<|Abi<|Sr<|Ai Ag<|Abh<|WP.block ?_;refine Abx (σ:=Nat) (fun k=>[(0,l.val),(3,Pt b3),(8,.int .i64 k)]) (fun k w=>Inv B B.h [box b3 r.enc 64] w∧k≤3∧∀j:Nat,j<k→Bf r j=false) (fun k=>3-k)
  ⟨0,⟨rfl,rfl,rfl,trivial⟩,I,Afa _,fun j hj=>(by omega)⟩ ?_
 rintro k e w ⟨I,hk,hn⟩;refine Abi<|Sr<|Ai Mv<|Ad (AbC rfl rfl)<|Abh ?_;refine Abl rfl (fun h3=>?_) (fun h3=>?_)
 ·refine Abk<|Abi<|WP.block<|Sr<|Ap (Abu Bw rfl)<|Ax (Ld I AP 0 0 2 rfl rfl rfl)<|Ai Mv<|Abj (Abm I call106 (Cu _ I.j6 r.head hr.head k) rfl fun w I=>Ab Ag<|Abh<|Abi<|Sr<|Ai Ag<|Abh<|WP.block ?_);refine Abx (σ:=Nat) (fun j=>[(0,l.val),(3,Pt b3),(8,.int .i64 k),(9,.bool (AL r.head k || (r.body.xs.take j).any fun x=>AL x.atom k)),(10,.int .i64 j)]) (fun j w=>Inv B B.h [box b3 r.enc 64] w∧j≤r.body.xs.length) (fun j=>r.body.xs.length-j)
   ⟨0,⟨rfl,rfl,rfl,by simp;rfl,rfl,trivial⟩,I,Afa _⟩ ?_
  rintro j e w ⟨I,hj⟩;refine Abi<|Sr<|Ai Mv<|Ap (Abr AG rfl)<|As0 (Ld I Bi 0 4 1 rfl rfl rfl)<|Ai (AbA Aib rfl)<|Ad (AbC rfl rfl)<|Abh ?_;refine Abl rfl (fun h4=>?_) (fun h4=>?_)
  ·have hj':j<r.body.xs.length:=by omega
   have E1:=hr.body.is.at hj';refine Abk<|Abi<|WP.block ?_;refine Ack (σ:=Unit) (fun _=>[(0,l.val),(3,Pt b3),(8,.int .i64 k),(9,.bool (AL r.head k || (r.body.xs.take (j+1)).any fun x=>AL x.atom k)),(10,.int .i64 j)]) (fun _ w=>Inv B B.h [box b3 r.enc 64] w) ?_ ?_
   ·rw[Afi hj',List.any_append,List.any_cons,List.any_nil,Bool.or_false,←Bool.or_assoc];cases hs:(AL r.head k || (r.body.xs.take j).any fun x=>AL x.atom k)
    ·refine Abg<|AF (Y.b Mv (rfl))<|AF (Y.b Mv (rfl))<|Gp (Abr AG rfl)<|Gs (Ld I Bi 0 4 1 rfl rfl rfl)<|Gi Mv<|Gp (Ix E1 Aib Ail rfl rfl)<|Gp (Abr Bk rfl)<|Gx (Abn AP rfl (I.rd (E1.rd.part 1 2)) rfl rfl)<|Gi Mv<|Ab8 rfl (Abm I call106 (Cu _ I.j6 r.body.xs[j].atom (hr.body.each _ (Ae5 hj')) k) rfl fun w I=>Ab (Abp rfl rfl)<|Ab Ag<|Abh ?_);exact⟨(),⟨rfl,rfl,rfl,by rw[Agy];rfl,rfl,trivial⟩,I⟩
    ·refine Abg<|AT (Y.b Mv (rfl))<|AT (Y.b Mv (rfl))<|Gg<|Gg<|Gg<|Gg<|Gg<|Gg<|Gg<|Gg<|Ab (Abo rfl rfl)<|Ab Ag<|Abh ?_;exact⟨(),⟨rfl,rfl,rfl,by rw[Ag4];rfl,rfl,trivial⟩,I⟩
   rintro _ e w I;refine Abg<|Ai Mv<|Ai (Dd rfl rfl)<|Ai Ag<|Abh ?_;exact⟨j+1,⟨⟨rfl,rfl,rfl,rfl,rfl,trivial⟩,I,by omega⟩,by omega⟩
  have hj0:j=r.body.xs.length:=by omega
  have hfv:Bf r k=((AL r.head k || (r.body.xs.take j).any fun x=>AL x.atom k) && !CU r k):=by rw[hj0,Afo];rfl
  refine Abz<|Abi ?_;refine Ack (σ:=Unit) (fun _=>[(0,l.val),(3,Pt b3),(8,.int .i64 k),(73,.bool (Bf r k))]) (fun _ w=>Inv B B.h [box b3 r.enc 64] w) ?_ ?_
  ·rw[hfv];cases hs:(AL r.head k || (r.body.xs.take j).any fun x=>AL x.atom k)
   ·refine Abg<|AF (Y.b Mv (rfl))<|AF (Y.b Mv (rfl))<|Gg<|Gg<|Gg<|Gg<|Ab (Abp rfl rfl)<|Abh ?_;exact⟨(),⟨rfl,rfl,rfl,by rw[AgO];rfl,trivial⟩,I⟩
   ·refine Abg<|AT (Y.b Mv (rfl))<|AT (Y.b Mv (rfl))<|Acp rfl (v:=.agg #[_,_,_,_,_]) (Ld I C0 0 0 5 rfl rfl rfl)<|Gi Mv<|Ab8 rfl (Abm I call107 (Te _ I.j6 r hr.body k) rfl fun w I=>Gb (Y.not rfl)<|Ab (Abo rfl rfl)<|Abh ?_);exact⟨(),⟨rfl,rfl,rfl,by rw[AgY];rfl,trivial⟩,I⟩
  rintro _ e w I;refine AbG rfl (fun hf=>?_) (fun hf=>?_)
  ·refine Sr<|Ai Ag<|Abh<|Wr ?_;exact Rm (v:=.int .i64 _) rfl rfl I (by simp only[tup,checkRule];rw[if_neg (by simp[h1]),if_neg (by omega),if_neg (by simp[hb0]),if_pos (PP hf h1 hb0)])
  refine Abk<|Abg<|Ai Mv<|Ai (Dd rfl rfl)<|Ai Ag<|Abh ?_;exact⟨k+1,⟨⟨rfl,rfl,rfl,trivial⟩,I,by omega,fun q hq=>by
   rcases Afd.1 hq with h'|h'
   ·exact hn q h'
   ·subst h';exact hf⟩,by omega⟩
 have hfr:(Bf r 0 || Bf r 1 || Bf r 2)=false:=by
  have g0:=hn 0 (by omega);have g1:=hn 1 (by omega);have g2:=hn 2 (by omega);simp only[Agx];exact⟨⟨g0,g1⟩,g2⟩
 clear hn;refine Abz<|Abi<|Sr<|Ap (Abr AV rfl)<|Ai (Ld I An 0 2 1 rfl rfl rfl)<|Ap (Abr AG rfl)<|As0 (Ld I Bi 0 4 1 rfl rfl rfl)<|Ai (AbA Aib rfl)<|Ai (AcA rfl rfl ⟨by omega,by omega⟩)<|Abj (Abm I call42 (A2 _ I.j6 _ _ _) rfl fun w I=>Ad (Ac3 rfl)<|Abh ?_);refine Abl rfl (fun h5=>?_) (fun h5=>?_)
 ·refine Sr<|Ai Ag<|Abh<|Wr ?_;exact Rm (v:=.int .i64 _) rfl rfl I (by simp only[tup,checkRule,within] at *;rw[if_neg (by simp[h1]),if_neg (by omega),if_neg (by simp[hb0]),hfr,if_neg (by simp),if_pos (by omega)])
 have h5':¬(r.src < -1∨(r.body.xs.length:Int)≤r.src):=by simp only[within,Afh] at h5;omega
 have EH:=hl.at (i:=r.head.pred.toNat) (by omega);have eH:=BT hh.1 hh.2;refine Abk<|Sr<|As0 Mv<|Ap (Abu Bw rfl)<|Ap (Abu AW rfl)<|Ai (Ld I An 0 0 1 rfl rfl rfl)<|Ap (AbJ EH Aia Aim rfl rfl hh.1 rfl)<|Ap (Abr A3 rfl)<|Ai (Abn An rfl (I.rd (EH.rd.part 2 1)) rfl rfl)<|Ai Ag<|Abh<|Abi<|Abi ?_;refine Ack (σ:=Unit) (fun _=>[(0,l.val),(3,Pt b3),(11,.int .i64 (Al l.xs r.head.pred).kind),(100,.bool (decide ((Al l.xs r.head.pred).kind=0∧(r.src≠-1∨r.n≠0))))]) (fun _ w=>Inv B B.h [box b3 r.enc 64] w) ?_ ?_
 ·rw[eH];by_cases c1:(l.xs[r.head.pred.toNat]'(by omega)).kind=0
  ·by_cases c2:r.src≠-1
   ·exact Abg<|Ai Mv<|AT (Abs (AbI rfl rfl) (c1))<|Ab Mv<|Gp (Abr AV rfl)<|Gi (Ld I An 0 2 1 rfl rfl rfl)<|GT (Abs (AbK rfl rfl) (c2))<|Gb Mv<|Gg<|Gg<|Gg<|Gb (Abo rfl rfl)<|Ab (Abo rfl rfl)<|Abh<|⟨(),⟨rfl,rfl,rfl,bT ⟨c1,.inl c2⟩,trivial⟩,I⟩
   ·by_cases c3:r.n≠0
    ·exact Abg<|Ai Mv<|AT (Abs (AbI rfl rfl) (c1))<|Ab Mv<|Gp (Abr AV rfl)<|Gi (Ld I An 0 2 1 rfl rfl rfl)<|GF (Abt (AbK rfl rfl) (c2))<|Gb Mv<|Gp (Abr BJ rfl)<|Gi (Ld I An 0 3 1 rfl rfl rfl)<|GT (Abs (AbK rfl rfl) (c3))<|Gb (Abp rfl rfl)<|Ab (Abo rfl rfl)<|Abh<|⟨(),⟨rfl,rfl,rfl,bT ⟨c1,.inr c3⟩,trivial⟩,I⟩
    ·exact Abg<|Ai Mv<|AT (Abs (AbI rfl rfl) (c1))<|Ab Mv<|Gp (Abr AV rfl)<|Gi (Ld I An 0 2 1 rfl rfl rfl)<|GF (Abt (AbK rfl rfl) (c2))<|Gb Mv<|Gp (Abr BJ rfl)<|Gi (Ld I An 0 3 1 rfl rfl rfl)<|GF (Abt (AbK rfl rfl) (c3))<|Gb (Abp rfl rfl)<|Ab (Abo rfl rfl)<|Abh<|⟨(),⟨rfl,rfl,rfl,bF (fun h=>h.2.elim c2 c3),trivial⟩,I⟩
  ·exact Abg<|Ai Mv<|AF (Abt (AbI rfl rfl) (c1))<|Ab Mv<|Gg<|Gg<|Gg<|Gg<|Gg<|Gg<|Gg<|Gg<|Ab (Abp rfl rfl)<|Abh<|⟨(),⟨rfl,rfl,rfl,bF (fun h=>c1 h.1),trivial⟩,I⟩
 rintro _ e w I;refine Abl rfl (fun d1=>?_) (fun d1=>?_)
 ·refine Sr<|Ai Ag<|Abh<|Wr ?_;exact Rm (v:=.int .i64 _) rfl rfl I (by simp only[tup,checkRule];rw[if_neg (by simp[h1]),if_neg (by omega),if_neg (by simp[hb0]),hfr,if_neg (by simp),if_neg h5',if_pos d1])
 refine Abk<|Abi<|Abi ?_;refine Ack (σ:=Unit) (fun _=>[(3,Pt b3),(128,.bool (decide (0≤r.src∧((CO r r.src).neg=true∨(Al l.xs (CO r r.src).atom.pred).kind≠(Al l.xs r.head.pred).kind))))]) (fun _ w=>Inv B B.h [box b3 r.enc 64] w) ?_ ?_
 ·by_cases c1:0≤r.src
  ·have hs1:r.src.toNat<r.body.xs.length:=by omega
   have EB:=hr.body.is.at hs1;rw[ND c1 (by omega)];have hap:=D1 (C2.1 hb0 _ (Ae5 hs1));have EP:=hl.at (i:=(r.body.xs[r.src.toNat]'hs1).atom.pred.toNat) (by omega);rw[BT hap.1 hap.2];by_cases c2:(r.body.xs[r.src.toNat]'hs1).neg=true
   ·exact Abg<|Ap (Abr AV rfl)<|Ai (Ld I An 0 2 1 rfl rfl rfl)<|AT (Abs (AbZ rfl rfl) (c1))<|Ab Mv<|Gp (Abr AG rfl)<|Gs (Ld I Bi 0 4 1 rfl rfl rfl)<|Gp (Abr AV rfl)<|Gi (Ld I An 0 2 1 rfl rfl rfl)<|Gp (AbJ EB Aib Ail rfl rfl c1 rfl)<|Gp (Abu BK rfl)<|GT (Y.b (Abn Br rfl (I.rd (EB.rd.part 0 1)) rfl rfl) (c2))<|Gb Mv<|Gg<|Gg<|Gg<|Gg<|Gg<|Gg<|Gg<|Gg<|Gg<|Gg<|Gg<|Gg<|Gg<|Gg<|Gb (Abo rfl rfl)<|Ab (Abo rfl rfl)<|Abh<|⟨(),⟨rfl,bT ⟨c1,.inl c2⟩,trivial⟩,I⟩
   ·by_cases c3:(l.xs[(r.body.xs[r.src.toNat]'hs1).atom.pred.toNat]'(by omega)).kind≠(Al l.xs r.head.pred).kind
    ·exact Abg<|Ap (Abr AV rfl)<|Ai (Ld I An 0 2 1 rfl rfl rfl)<|AT (Abs (AbZ rfl rfl) (c1))<|Ab Mv<|Gp (Abr AG rfl)<|Gs (Ld I Bi 0 4 1 rfl rfl rfl)<|Gp (Abr AV rfl)<|Gi (Ld I An 0 2 1 rfl rfl rfl)<|Gp (AbJ EB Aib Ail rfl rfl c1 rfl)<|Gp (Abu BK rfl)<|GF (Y.b (Abn Br rfl (I.rd (EB.rd.part 0 1)) rfl rfl) ((by simpa using c2)))<|Gb Mv<|Gs Mv<|Gp (Abr AG rfl)<|Gs (Ld I Bi 0 4 1 rfl rfl rfl)<|Gp (Abr AV rfl)<|Gi (Ld I An 0 2 1 rfl rfl rfl)<|Gp (AbJ EB Aib Ail rfl rfl c1 rfl)<|Gp (Abr Bk rfl)<|Gp (Abu AW rfl)<|Gi (Abn An rfl (I.rd (EB.rd.part 1 1)) rfl rfl)<|Gp (AbJ EP Aia Aim rfl rfl hap.1 rfl)<|Gp (Abr A3 rfl)<|Gi (Abn An rfl (I.rd (EP.rd.part 2 1)) rfl rfl)<|Gi Mv<|GT (Abs (AbK rfl rfl) (c3))<|Gb (Abp rfl rfl)<|Ab (Abo rfl rfl)<|Abh<|⟨(),⟨rfl,bT ⟨c1,.inr c3⟩,trivial⟩,I⟩
    ·exact Abg<|Ap (Abr AV rfl)<|Ai (Ld I An 0 2 1 rfl rfl rfl)<|AT (Abs (AbZ rfl rfl) (c1))<|Ab Mv<|Gp (Abr AG rfl)<|Gs (Ld I Bi 0 4 1 rfl rfl rfl)<|Gp (Abr AV rfl)<|Gi (Ld I An 0 2 1 rfl rfl rfl)<|Gp (AbJ EB Aib Ail rfl rfl c1 rfl)<|Gp (Abu BK rfl)<|GF (Y.b (Abn Br rfl (I.rd (EB.rd.part 0 1)) rfl rfl) ((by simpa using c2)))<|Gb Mv<|Gs Mv<|Gp (Abr AG rfl)<|Gs (Ld I Bi 0 4 1 rfl rfl rfl)<|Gp (Abr AV rfl)<|Gi (Ld I An 0 2 1 rfl rfl rfl)<|Gp (AbJ EB Aib Ail rfl rfl c1 rfl)<|Gp (Abr Bk rfl)<|Gp (Abu AW rfl)<|Gi (Abn An rfl (I.rd (EB.rd.part 1 1)) rfl rfl)<|Gp (AbJ EP Aia Aim rfl rfl hap.1 rfl)<|Gp (Abr A3 rfl)<|Gi (Abn An rfl (I.rd (EP.rd.part 2 1)) rfl rfl)<|Gi Mv<|GF (Abt (AbK rfl rfl) (c3))<|Gb (Abp rfl rfl)<|Ab (Abo rfl rfl)<|Abh<|⟨(),⟨rfl,bF (fun h=>h.2.elim c2 c3),trivial⟩,I⟩
  ·exact Abg<|Ap (Abr AV rfl)<|Ai (Ld I An 0 2 1 rfl rfl rfl)<|AF (Abt (AbZ rfl rfl) (c1))<|Ab Mv<|Gg<|Gg<|Gg<|Gg<|Gg<|Gg<|Gg<|Gg<|Gg<|Gg<|Gg<|Gg<|Gg<|Gg<|Gg<|Gg<|Gg<|Gg<|Gg<|Gg<|Gg<|Gg<|Gg<|Ab (Abp rfl rfl)<|Abh<|⟨(),⟨rfl,bF (fun h=>c1 h.1),trivial⟩,I⟩
 rintro _ e w I;refine Abl rfl (fun d2=>?_) (fun d2=>?_)
 ·refine Sr<|Ai Ag<|Abh<|Wr ?_;exact Rm (v:=.int .i64 _) rfl rfl I (by simp only[tup,checkRule];rw[if_neg (by simp[h1]),if_neg (by omega),if_neg (by simp[hb0]),hfr,if_neg (by simp),if_neg h5',if_neg d1,if_pos d2])
 refine Abk<|Abi<|Sr<|Ap (Abr BJ rfl)<|Ai (Ld I An 0 3 1 rfl rfl rfl)<|Abj (Abm I call42 (A2 _ I.j6 _ _ _) rfl fun w I=>Ad (Ac3 rfl)<|Abh ?_);refine Abl rfl (fun h6=>?_) (fun h6=>?_)
 ·refine Sr<|Ai Ag<|Abh<|Wr ?_;exact Rm (v:=.int .i64 _) rfl rfl I (by simp only[tup,checkRule];rw[if_neg (by simp[h1]),if_neg (by omega),if_neg (by simp[hb0]),hfr,if_neg (by simp),if_neg h5',if_neg d1,if_neg d2,if_pos (by simp only[within] at h6;omega)])
 refine Abk<|Sr<|Ai Ag<|Abh<|Wr ?_;exact Rm (v:=.int .i64 _) rfl rfl I (by simp only[tup,checkRule];rw[if_neg (by simp[h1]),if_neg (by omega),if_neg (by simp[hb0]),hfr,if_neg (by simp),if_neg h5',if_neg d1,if_neg d2,if_neg (by simp only[within] at h6;omega)])
end
section
theorem GP(B:Aq)(hB:B.ok)(n:Int):Fn prog 81 [.int .i64 n] B (fun v _=>v=(tV n).val):=by
 refine Fo hB func81 rfl ntmps81 fun e I=>Sr<|Abj (O.alloc I Aig rfl fun b2 w I=>Abh<|Sr<|Ai Mv<|AbB (v:=.agg #[.bool _,.int .i64 _]) (Y.build Fm Aig rfl rfl)<|Abj (Sx I BZ 0 rfl rfl rfl rfl fun w I=>Abh<|Wr ?_));exact BH.mk (vs:=[.agg #[_,_]]) rfl ⟨⟨_,_,_,_,_,rfl,BZ,I.l5 0 rfl 0 2,rfl,rfl⟩,trivial⟩ I.j5 (rfl)
theorem NJ(B:Aq)(hB:B.ok)(n:Int):Fn prog 80 [.int .i64 n] B (fun v _=>v=(tC n).val):=by
 refine Fo hB func80 rfl ntmps80 fun e I=>Sr<|Abj (O.alloc I Aig rfl fun b2 w I=>Abh<|Sr<|Ai Mv<|AbB (v:=.agg #[.bool _,.int .i64 _]) (Y.build Fm Aig rfl rfl)<|Abj (Sx I BZ 0 rfl rfl rfl rfl fun w I=>Abh<|Wr ?_));exact BH.mk (vs:=[.agg #[_,_]]) rfl ⟨⟨_,_,_,_,_,rfl,BZ,I.l5 0 rfl 0 2,rfl,rfl⟩,trivial⟩ I.j5 (rfl)
theorem E8(B:Aq)(hB:B.ok)(p:Int)(l:Sl Trm):Fn prog 79 [.int .i64 p,l.val] B (fun v _=>v=(Atm.mk p l).val):=by
 refine Fo hB func79 rfl ntmps79 fun e I=>Sr<|Abj (O.alloc I Ain rfl fun b4 w I=>Abh<|Sr<|Ai Mv<|As0 Mv<|AbB (v:=.agg #[.int .i64 _,.slice _ _ _]) (Y.build M4 Ain rfl rfl)<|Abj (Sx I AP 0 rfl rfl rfl rfl fun w I=>Abh<|Wr ?_));exact BH.mk (vs:=[.agg #[_,_]]) rfl ⟨⟨_,_,_,_,_,rfl,AP,I.l5 0 rfl 0 2,rfl,rfl⟩,trivial⟩ I.j5 (rfl)
theorem PV(B:Aq)(hB:B.ok)(a:Atm):Fn prog 82 [a.val] B (fun v _=>v=(Ltl.mk false a).val):=by
 refine Fo hB func82 rfl ntmps82 fun e I=>Sr<|Abj (O.box (v:=.agg #[_,_]) I rfl rfl fun b1 w I=>Abj (O.alloc I Aiu rfl fun b2 w I=>Abh<|Sr<|Ax (Ld I AP 1 0 2 rfl rfl rfl)<|AbB (v:=.agg #[.bool _,.int .i64 _,.slice _ _ _]) (Y.build Vd Aiu rfl rfl)<|Abj (Sy I EQ 0 rfl rfl rfl rfl fun w I=>Abh<|Wr ?_)));exact BH.mk (vs:=[.agg #[_,_,_]]) rfl ⟨⟨_,_,_,_,_,rfl,EQ,I.l5 0 rfl 0 3,rfl,rfl⟩,trivial⟩ I.j5 (rfl)
theorem Yi(B:Aq)(hB:B.ok)(a:Atm):Fn prog 83 [a.val] B (fun v _=>v=(Ltl.mk true a).val):=by
 refine Fo hB func83 rfl ntmps83 fun e I=>Sr<|Abj (O.box (v:=.agg #[_,_]) I rfl rfl fun b1 w I=>Abj (O.alloc I Aiu rfl fun b2 w I=>Abh<|Sr<|Ax (Ld I AP 1 0 2 rfl rfl rfl)<|AbB (v:=.agg #[.bool _,.int .i64 _,.slice _ _ _]) (Y.build Vd Aiu rfl rfl)<|Abj (Sy I EQ 0 rfl rfl rfl rfl fun w I=>Abh<|Wr ?_)));exact BH.mk (vs:=[.agg #[_,_,_]]) rfl ⟨⟨_,_,_,_,_,rfl,EQ,I.l5 0 rfl 0 3,rfl,rfl⟩,trivial⟩ I.j5 (rfl)
theorem Ts(B:Aq)(hB:B.ok):Fn prog 35 [] B (fun v h=>∃p:Prg,v=p.val∧Cl p h∧p.rules.xs.length≤p.rules.cap):=by
 refine Fo hB func35 rfl ntmps35 fun e I=>Sr<|Abj (O.alloc I Aio rfl fun b0 w I=>Abh<|Sr<|AbB (v:=.agg #[.string _,.int .i64 _,.int .i64 _]) (Y.build Sa AiB rfl rfl)<|AbB (v:=.agg #[.string _,.int .i64 _,.int .i64 _]) (Y.build Sa AiB rfl rfl)<|AbB (v:=.agg #[.string _,.int .i64 _,.int .i64 _]) (Y.build Sa AiB rfl rfl)<|Abj (AbY (xs:=[⟨bEdge,2,0⟩,⟨bFar,2,2⟩,⟨bLone,1,0⟩]) (enc:=Prd.enc) I Aia Aim AiB rfl (Nb rfl) rfl rfl (by decide) (fun _=>rfl) fun b4 h4 w I le4 sl4=>Abj (Abm I call80 (NJ _ I.j6 0) rfl fun w I=>Abj (Abm I call80 (NJ _ I.j6 1) rfl fun w I=>Abj (AbY (xs:=[tC 0,tC 1]) (enc:=Trm.enc) I Aid Aik Aig rfl (Nb rfl) rfl rfl (by decide) (fun _=>rfl) fun b7 h7 w I le7 sl7=>Abj (Abm I call79 (E8 _ I.j6 0 ⟨some ⟨b7,0,none⟩,2,[tC 0,tC 1]⟩) rfl fun w I=>AbB (v:=.agg #[.int .i64 _,.slice _ _ _,.int .i64 _,.int .i64 _,.slice _ _ _]) (Y.build LQ Aip rfl rfl)<|Abj (Abm I call80 (NJ _ I.j6 1) rfl fun w I=>Abj (Abm I call80 (NJ _ I.j6 2) rfl fun w I=>Abj (AbY (xs:=[tC 1,tC 2]) (enc:=Trm.enc) I Aid Aik Aig rfl (Nb rfl) rfl rfl (by decide) (fun _=>rfl) fun b12 h12 w I le12 sl12=>Abj (Abm I call79 (E8 _ I.j6 0 ⟨some ⟨b12,0,none⟩,2,[tC 1,tC 2]⟩) rfl fun w I=>AbB (v:=.agg #[.int .i64 _,.slice _ _ _,.int .i64 _,.int .i64 _,.slice _ _ _]) (Y.build LQ Aip rfl rfl)<|Abj (Abm I call80 (NJ _ I.j6 2) rfl fun w I=>Abj (Abm I call80 (NJ _ I.j6 0) rfl fun w I=>Abj (AbY (xs:=[tC 2,tC 0]) (enc:=Trm.enc) I Aid Aik Aig rfl (Nb rfl) rfl rfl (by decide) (fun _=>rfl) fun b17 h17 w I le17 sl17=>Abj (Abm I call79 (E8 _ I.j6 0 ⟨some ⟨b17,0,none⟩,2,[tC 2,tC 0]⟩) rfl fun w I=>AbB (v:=.agg #[.int .i64 _,.slice _ _ _,.int .i64 _,.int .i64 _,.slice _ _ _]) (Y.build LQ Aip rfl rfl)<|Abj (Abm I call80 (NJ _ I.j6 3) rfl fun w I=>Abj (Abm I call80 (NJ _ I.j6 0) rfl fun w I=>Abj (AbY (xs:=[tC 3,tC 0]) (enc:=Trm.enc) I Aid Aik Aig rfl (Nb rfl) rfl rfl (by decide) (fun _=>rfl) fun b22 h22 w I le22 sl22=>Abj (Abm I call79 (E8 _ I.j6 0 ⟨some ⟨b22,0,none⟩,2,[tC 3,tC 0]⟩) rfl fun w I=>AbB (v:=.agg #[.int .i64 _,.slice _ _ _,.int .i64 _,.int .i64 _,.slice _ _ _]) (Y.build LQ Aip rfl rfl)<|Abj (Abm I call81 (GP _ I.j6 0) rfl fun w I=>Abj (Abm I call81 (GP _ I.j6 1) rfl fun w I=>Abj (AbY (xs:=[tV 0,tV 1]) (enc:=Trm.enc) I Aid Aik Aig rfl (Nb rfl) rfl rfl (by decide) (fun _=>rfl) fun b27 h27 w I le27 sl27=>Abj (Abm I call79 (E8 _ I.j6 1 ⟨some ⟨b27,0,none⟩,2,[tV 0,tV 1]⟩) rfl fun w I=>Abj (Abm I call81 (GP _ I.j6 0) rfl fun w I=>Abj (Abm I call81 (GP _ I.j6 1) rfl fun w I=>Abj (AbY (xs:=[tV 0,tV 1]) (enc:=Trm.enc) I Aid Aik Aig rfl (Nb rfl) rfl rfl (by decide) (fun _=>rfl) fun b31 h31 w I le31 sl31=>Abj (Abm I call79 (E8 _ I.j6 0 ⟨some ⟨b31,0,none⟩,2,[tV 0,tV 1]⟩) rfl fun w I=>Abj (Abm I call82 (PV _ I.j6 ⟨0,⟨some ⟨b31,0,none⟩,2,[tV 0,tV 1]⟩⟩) rfl fun w I=>Abj (AbY (xs:=[⟨false,⟨0,⟨some ⟨b31,0,none⟩,2,[tV 0,tV 1]⟩⟩⟩]) (enc:=Ltl.enc) I Aib Ail Aiu rfl (Nb rfl) rfl rfl (by decide) (fun _=>rfl) fun b34 h34 w I le34 sl34=>AbB (v:=.agg #[.int .i64 _,.slice _ _ _,.int .i64 _,.int .i64 _,.slice _ _ _]) (Y.build LQ Aip rfl rfl)<|Abj (Abm I call81 (GP _ I.j6 0) rfl fun w I=>Abj (Abm I call81 (GP _ I.j6 2) rfl fun w I=>Abj (AbY (xs:=[tV 0,tV 2]) (enc:=Trm.enc) I Aid Aik Aig rfl (Nb rfl) rfl rfl (by decide) (fun _=>rfl) fun b38 h38 w I le38 sl38=>Abj (Abm I call79 (E8 _ I.j6 1 ⟨some ⟨b38,0,none⟩,2,[tV 0,tV 2]⟩) rfl fun w I=>Abj (Abm I call81 (GP _ I.j6 0) rfl fun w I=>Abj (Abm I call81 (GP _ I.j6 1) rfl fun w I=>Abj (AbY (xs:=[tV 0,tV 1]) (enc:=Trm.enc) I Aid Aik Aig rfl (Nb rfl) rfl rfl (by decide) (fun _=>rfl) fun b42 h42 w I le42 sl42=>Abj (Abm I call79 (E8 _ I.j6 1 ⟨some ⟨b42,0,none⟩,2,[tV 0,tV 1]⟩) rfl fun w I=>Abj (Abm I call82 (PV _ I.j6 ⟨1,⟨some ⟨b42,0,none⟩,2,[tV 0,tV 1]⟩⟩) rfl fun w I=>Abj (Abm I call81 (GP _ I.j6 1) rfl fun w I=>Abj (Abm I call81 (GP _ I.j6 2) rfl fun w I=>Abj (AbY (xs:=[tV 1,tV 2]) (enc:=Trm.enc) I Aid Aik Aig rfl (Nb rfl) rfl rfl (by decide) (fun _=>rfl) fun b47 h47 w I le47 sl47=>Abj (Abm I call79 (E8 _ I.j6 0 ⟨some ⟨b47,0,none⟩,2,[tV 1,tV 2]⟩) rfl fun w I=>Abj (Abm I call82 (PV _ I.j6 ⟨0,⟨some ⟨b47,0,none⟩,2,[tV 1,tV 2]⟩⟩) rfl fun w I=>Abj (AbY (xs:=[⟨false,⟨1,⟨some ⟨b42,0,none⟩,2,[tV 0,tV 1]⟩⟩⟩,⟨false,⟨0,⟨some ⟨b47,0,none⟩,2,[tV 1,tV 2]⟩⟩⟩]) (enc:=Ltl.enc) I Aib Ail Aiu rfl (Nb rfl) rfl rfl (by decide) (fun _=>rfl) fun b50 h50 w I le50 sl50=>AbB (v:=.agg #[.int .i64 _,.slice _ _ _,.int .i64 _,.int .i64 _,.slice _ _ _]) (Y.build LQ Aip rfl rfl)<|Abj (Abm I call81 (GP _ I.j6 0) rfl fun w I=>Abj (AbY (xs:=[tV 0]) (enc:=Trm.enc) I Aid Aik Aig rfl (Nb rfl) rfl rfl (by decide) (fun _=>rfl) fun b53 h53 w I le53 sl53=>Abj (Abm I call79 (E8 _ I.j6 2 ⟨some ⟨b53,0,none⟩,1,[tV 0]⟩) rfl fun w I=>Abj (Abm I call81 (GP _ I.j6 0) rfl fun w I=>Abj (Abm I call81 (GP _ I.j6 1) rfl fun w I=>Abj (AbY (xs:=[tV 0,tV 1]) (enc:=Trm.enc) I Aid Aik Aig rfl (Nb rfl) rfl rfl (by decide) (fun _=>rfl) fun b57 h57 w I le57 sl57=>Abj (Abm I call79 (E8 _ I.j6 0 ⟨some ⟨b57,0,none⟩,2,[tV 0,tV 1]⟩) rfl fun w I=>Abj (Abm I call82 (PV _ I.j6 ⟨0,⟨some ⟨b57,0,none⟩,2,[tV 0,tV 1]⟩⟩) rfl fun w I=>Abj (Abm I call81 (GP _ I.j6 0) rfl fun w I=>Abj (Abm I call81 (GP _ I.j6 0) rfl fun w I=>Abj (AbY (xs:=[tV 0,tV 0]) (enc:=Trm.enc) I Aid Aik Aig rfl (Nb rfl) rfl rfl (by decide) (fun _=>rfl) fun b62 h62 w I le62 sl62=>Abj (Abm I call79 (E8 _ I.j6 1 ⟨some ⟨b62,0,none⟩,2,[tV 0,tV 0]⟩) rfl fun w I=>Abj (Abm I call83 (Yi _ I.j6 ⟨1,⟨some ⟨b62,0,none⟩,2,[tV 0,tV 0]⟩⟩) rfl fun w I=>Abj (AbY (xs:=[⟨false,⟨0,⟨some ⟨b57,0,none⟩,2,[tV 0,tV 1]⟩⟩⟩,⟨true,⟨1,⟨some ⟨b62,0,none⟩,2,[tV 0,tV 0]⟩⟩⟩]) (enc:=Ltl.enc) I Aib Ail Aiu rfl (Nb rfl) rfl rfl (by decide) (fun _=>rfl) fun b65 h65 w I le65 sl65=>AbB (v:=.agg #[.int .i64 _,.slice _ _ _,.int .i64 _,.int .i64 _,.slice _ _ _]) (Y.build LQ Aip rfl rfl)<|Abj (AbY (xs:=[⟨⟨0,⟨some ⟨b7,0,none⟩,2,[tC 0,tC 1]⟩⟩,-1,0,⟨none,0,[]⟩⟩,⟨⟨0,⟨some ⟨b12,0,none⟩,2,[tC 1,tC 2]⟩⟩,-1,0,⟨none,0,[]⟩⟩,⟨⟨0,⟨some ⟨b17,0,none⟩,2,[tC 2,tC 0]⟩⟩,-1,0,⟨none,0,[]⟩⟩,⟨⟨0,⟨some ⟨b22,0,none⟩,2,[tC 3,tC 0]⟩⟩,-1,0,⟨none,0,[]⟩⟩,⟨⟨1,⟨some ⟨b27,0,none⟩,2,[tV 0,tV 1]⟩⟩,-1,1,⟨some ⟨b34,0,none⟩,1,[⟨false,⟨0,⟨some ⟨b31,0,none⟩,2,[tV 0,tV 1]⟩⟩⟩]⟩⟩,⟨⟨1,⟨some ⟨b38,0,none⟩,2,[tV 0,tV 2]⟩⟩,0,1,⟨some ⟨b50,0,none⟩,2,[⟨false,⟨1,⟨some ⟨b42,0,none⟩,2,[tV 0,tV 1]⟩⟩⟩,⟨false,⟨0,⟨some ⟨b47,0,none⟩,2,[tV 1,tV 2]⟩⟩⟩]⟩⟩,⟨⟨2,⟨some ⟨b53,0,none⟩,1,[tV 0]⟩⟩,-1,0,⟨some ⟨b65,0,none⟩,2,[⟨false,⟨0,⟨some ⟨b57,0,none⟩,2,[tV 0,tV 1]⟩⟩⟩,⟨true,⟨1,⟨some ⟨b62,0,none⟩,2,[tV 0,tV 0]⟩⟩⟩]⟩⟩]) (enc:=Rul.enc) I Aic Aiv Aip rfl (Nb rfl) rfl rfl (by decide) (fun _=>rfl) fun b67 h67 w I le67 sl67=>AbB (v:=.agg #[.slice _ _ _,.slice _ _ _]) (Y.build It Aio rfl rfl)<|Abj (Sx I As 0 rfl rfl rfl rfl fun w I=>Abh ?_)))))))))))))))))))))))))))))))))))))))))))))))))))))))))))
 have q67:=Ae.le.refl h67;have q65:=le67.trans q67;have q62:=le65.trans q65;have q57:=le62.trans q62;have q53:=le57.trans q57;have q50:=le53.trans q53;have q47:=le50.trans q50;have q42:=le47.trans q47;have q38:=le42.trans q42;have q34:=le38.trans q38;have q31:=le34.trans q34;have q27:=le31.trans q31;have q22:=le27.trans q27;have q17:=le22.trans q22;have q12:=le17.trans q17;have q7:=le12.trans q12;have q4:=le7.trans q7;have r0:Rul.In ⟨⟨0,⟨some ⟨b7,0,none⟩,2,[tC 0,tC 1]⟩⟩,-1,0,⟨none,0,[]⟩⟩ h67:=⟨⟨sl7.le q7,by simp⟩,⟨nilIs,by simp⟩⟩;have r1:Rul.In ⟨⟨0,⟨some ⟨b12,0,none⟩,2,[tC 1,tC 2]⟩⟩,-1,0,⟨none,0,[]⟩⟩ h67:=⟨⟨sl12.le q12,by simp⟩,⟨nilIs,by simp⟩⟩;have r2:Rul.In ⟨⟨0,⟨some ⟨b17,0,none⟩,2,[tC 2,tC 0]⟩⟩,-1,0,⟨none,0,[]⟩⟩ h67:=⟨⟨sl17.le q17,by simp⟩,⟨nilIs,by simp⟩⟩;have r3:Rul.In ⟨⟨0,⟨some ⟨b22,0,none⟩,2,[tC 3,tC 0]⟩⟩,-1,0,⟨none,0,[]⟩⟩ h67:=⟨⟨sl22.le q22,by simp⟩,⟨nilIs,by simp⟩⟩;have r4:Rul.In ⟨⟨1,⟨some ⟨b27,0,none⟩,2,[tV 0,tV 1]⟩⟩,-1,1,⟨some ⟨b34,0,none⟩,1,[⟨false,⟨0,⟨some ⟨b31,0,none⟩,2,[tV 0,tV 1]⟩⟩⟩]⟩⟩ h67:=⟨⟨sl27.le q27,by simp⟩,⟨⟨sl34.le q34,by simp⟩,by simp only[Afq,Af8,or_false];rintro x (rfl)<;>first|exact(⟨sl31.le q31,by simp⟩:Xn _ _)⟩⟩;have r5:Rul.In ⟨⟨1,⟨some ⟨b38,0,none⟩,2,[tV 0,tV 2]⟩⟩,0,1,⟨some ⟨b50,0,none⟩,2,[⟨false,⟨1,⟨some ⟨b42,0,none⟩,2,[tV 0,tV 1]⟩⟩⟩,⟨false,⟨0,⟨some ⟨b47,0,none⟩,2,[tV 1,tV 2]⟩⟩⟩]⟩⟩ h67:=⟨⟨sl38.le q38,by simp⟩,⟨⟨sl50.le q50,by simp⟩,by simp only[Afq,Af8,or_false];rintro x (rfl|rfl)<;>first|exact(⟨sl42.le q42,by simp⟩:Xn _ _)|exact(⟨sl47.le q47,by simp⟩:Xn _ _)⟩⟩;have r6:Rul.In ⟨⟨2,⟨some ⟨b53,0,none⟩,1,[tV 0]⟩⟩,-1,0,⟨some ⟨b65,0,none⟩,2,[⟨false,⟨0,⟨some ⟨b57,0,none⟩,2,[tV 0,tV 1]⟩⟩⟩,⟨true,⟨1,⟨some ⟨b62,0,none⟩,2,[tV 0,tV 0]⟩⟩⟩]⟩⟩ h67:=⟨⟨sl53.le q53,by simp⟩,⟨⟨sl65.le q65,by simp⟩,by simp only[Afq,Af8,or_false];rintro x (rfl|rfl)<;>first|exact(⟨sl57.le q57,by simp⟩:Xn _ _)|exact(⟨sl62.le q62,by simp⟩:Xn _ _)⟩⟩;refine Wr ?_;exact BH.mk (vs:=[.agg #[_,_]]) rfl ⟨⟨_,_,_,_,_,rfl,As,I.l5 0 rfl 0 2,rfl,rfl⟩,trivial⟩ I.j5 (⟨⟨⟨some ⟨b4,0,none⟩,3,[⟨bEdge,2,0⟩,⟨bFar,2,2⟩,⟨bLone,1,0⟩]⟩,⟨some ⟨b67,0,none⟩,7,[⟨⟨0,⟨some ⟨b7,0,none⟩,2,[tC 0,tC 1]⟩⟩,-1,0,⟨none,0,[]⟩⟩,⟨⟨0,⟨some ⟨b12,0,none⟩,2,[tC 1,tC 2]⟩⟩,-1,0,⟨none,0,[]⟩⟩,⟨⟨0,⟨some ⟨b17,0,none⟩,2,[tC 2,tC 0]⟩⟩,-1,0,⟨none,0,[]⟩⟩,⟨⟨0,⟨some ⟨b22,0,none⟩,2,[tC 3,tC 0]⟩⟩,-1,0,⟨none,0,[]⟩⟩,⟨⟨1,⟨some ⟨b27,0,none⟩,2,[tV 0,tV 1]⟩⟩,-1,1,⟨some ⟨b34,0,none⟩,1,[⟨false,⟨0,⟨some ⟨b31,0,none⟩,2,[tV 0,tV 1]⟩⟩⟩]⟩⟩,⟨⟨1,⟨some ⟨b38,0,none⟩,2,[tV 0,tV 2]⟩⟩,0,1,⟨some ⟨b50,0,none⟩,2,[⟨false,⟨1,⟨some ⟨b42,0,none⟩,2,[tV 0,tV 1]⟩⟩⟩,⟨false,⟨0,⟨some ⟨b47,0,none⟩,2,[tV 1,tV 2]⟩⟩⟩]⟩⟩,⟨⟨2,⟨some ⟨b53,0,none⟩,1,[tV 0]⟩⟩,-1,0,⟨some ⟨b65,0,none⟩,2,[⟨false,⟨0,⟨some ⟨b57,0,none⟩,2,[tV 0,tV 1]⟩⟩⟩,⟨true,⟨1,⟨some ⟨b62,0,none⟩,2,[tV 0,tV 0]⟩⟩⟩]⟩⟩]⟩⟩,rfl,⟨⟨⟨sl4.le q4,by simp⟩,⟨⟨sl67.le q67,by simp⟩,by simp only[Afq,Af8,or_false];rintro x (rfl|rfl|rfl|rfl|rfl|rfl|rfl)<;>assumption⟩⟩,rfl,by simp only[Afq,Af8,or_false];rintro x (rfl|rfl|rfl|rfl|rfl|rfl|rfl)<;>simp⟩,Afg 7⟩)
theorem VR(B:Aq)(hB:B.ok):Fn prog 35 [] B (fun v h=>∃p:Prg,v=p.val∧Cl p h):=(Ts B hB).mono fun _ _ _ ⟨p,a,b,_⟩=>⟨p,a,b⟩
end
section
theorem Cl.preds{p:Prg}{h:Ae}(x:Cl p h):p.preds.xs=AM.preds.xs:=by have:=congrArg (fun q:Prg=>q.preds.xs) x.er;exact this
theorem GQ(B:Aq)(hB:B.ok)(l:Sl Prd)(hl:HQ l B.h)(x:Fct):Fn prog 112 [l.val,x.val] B (fun v _=>v=.bool (factFine l.xs x)):=by
 have hsm:=hl.small;refine Fo hB func112 rfl ntmps112 fun e I=>Sr<|Abj (O.box (v:=.agg #[_,_,_,_]) I rfl rfl fun b3 w I=>Ab Ag<|Abh ?_);cases w1:(!decide (within x.pred 0 ((l.xs.length:Int)-1)));case true=>
  refine Abi<|Sr<|Ap (Abu Bu rfl)<|Ai (Ld I An 0 0 1 rfl rfl rfl)<|As0 Mv<|Ai (AbA Aia rfl)<|Ai (AcA rfl rfl ⟨by omega,by omega⟩)<|Abj (Abm I call42 (A2 _ I.j6 _ _ _) rfl fun w I=>Ab (Y.not rfl)<|AT (Y.b Mv (w1))<|Gg<|Gg<|Gg<|Gg<|Ab (Abo rfl rfl)<|Ab Mv<|Gg<|Gg<|Gg<|Gg<|Ab (Abo rfl rfl)<|Abh<|Abw rfl<|Sr<|Ab Ag<|Abh<|Wr ?_);exact Rm (v:=.bool _) rfl rfl I (by simp only[AgB] at w1;simp only[tup,factFine,w1,AgO])
 cases w2:(!decide (within x.a 0 4));case true=>
  refine Abi<|Sr<|Ap (Abu Bu rfl)<|Ai (Ld I An 0 0 1 rfl rfl rfl)<|As0 Mv<|Ai (AbA Aia rfl)<|Ai (AcA rfl rfl ⟨by omega,by omega⟩)<|Abj (Abm I call42 (A2 _ I.j6 _ _ _) rfl fun w I=>Ab (Y.not rfl)<|AF (Y.b Mv (w1))<|Gp (Abr BG rfl)<|Gi (Ld I An 0 1 1 rfl rfl rfl)<|Ab8 rfl (Abm I call42 (A2 _ I.j6 _ _ _) rfl fun w I=>GT (Y.b (Y.not rfl) (w2))<|Ab (Abp rfl rfl)<|Ab Mv<|Gg<|Gg<|Gg<|Gg<|Ab (Abo rfl rfl)<|Abh<|Abw rfl<|Sr<|Ab Ag<|Abh<|Wr ?_));exact Rm (v:=.bool _) rfl rfl I (by simp only[AgB] at w2;simp only[tup,factFine,w2,AgO,Agz])
 refine Abi<|Sr<|Ap (Abu Bu rfl)<|Ai (Ld I An 0 0 1 rfl rfl rfl)<|As0 Mv<|Ai (AbA Aia rfl)<|Ai (AcA rfl rfl ⟨by omega,by omega⟩)<|Abj (Abm I call42 (A2 _ I.j6 _ _ _) rfl fun w I=>Ab (Y.not rfl)<|AF (Y.b Mv (w1))<|Gp (Abr BG rfl)<|Gi (Ld I An 0 1 1 rfl rfl rfl)<|Ab8 rfl (Abm I call42 (A2 _ I.j6 _ _ _) rfl fun w I=>GF (Y.b (Y.not rfl) (w2))<|Ab (Abp rfl rfl)<|Ab Mv<|Gp (Abr B8 rfl)<|Gi (Ld I An 0 2 1 rfl rfl rfl)<|Ab8 rfl (Abm I call42 (A2 _ I.j6 _ _ _) rfl fun w I=>Gb (Y.not rfl)<|Ab (Abp rfl rfl)<|Abh ?_)));refine AbG rfl (fun w3=>?_) (fun w3=>?_)
 ·refine Sr<|Ab Ag<|Abh<|Wr ?_;exact Rm (v:=.bool _) rfl rfl I (by simp only[AgB] at w3;simp only[tup,factFine,w3,AgO,Agz])
 simp only[AgE,decide_eq_true_eq] at w1 w2 w3;have h0:0≤x.pred∧x.pred<l.xs.length:=by unfold within at w1;omega
 have hk:x.pred.toNat<l.xs.length:=by omega
 have E1:=hl.at hk;refine Abk<|Sr<|As0 Mv<|Ap (Abu Bu rfl)<|Ai (Ld I An 0 0 1 rfl rfl rfl)<|Ap (AbJ E1 Aia Aim rfl rfl h0.1 rfl)<|Ay (Abn KA rfl (I.rd (E1.rd.part 0 3)) rfl rfl)<|Abj (O.alloc I AiB rfl fun b5 w I=>Abj (Sy I KA 0 rfl rfl rfl rfl fun w I=>Abh ?_));have hpo:=BT h0.1 h0.2;by_cases p1:1≤l.xs[x.pred.toNat].arity
 ·by_cases p2:2≤l.xs[x.pred.toNat].arity
  ·refine Sr<|Ap (Abr Bp rfl)<|Ai (Ld I An 0 1 1 rfl rfl rfl)<|AT (Abs (AbZ rfl rfl) (p1))<|Ab Mv<|Gg<|Gg<|Gg<|Ab (Abo rfl rfl)<|Ab Mv<|Gp (Abr Bp rfl)<|Gi (Ld I An 0 1 1 rfl rfl rfl)<|GT (Abs (AbZ rfl rfl) (p2))<|Gb Mv<|Gg<|Gg<|Gg<|Gb (Abo rfl rfl)<|Ab (Abo rfl rfl)<|Ab Mv<|Gp (Abr A3 rfl)<|Gi (Ld I An 0 2 1 rfl rfl rfl)<|Gp (Abr BL rfl)<|Gi (Ld I An 1 3 1 rfl rfl rfl)<|Ab8 rfl (Abm I call159 (GM _ I.j6 _ _) rfl fun w I=>Gd (AbI rfl rfl)<|Ab (Abo rfl rfl)<|Ab Ag<|Abh<|Wr ?_);exact Rm (v:=.bool _) rfl rfl I (by simp[tup,factFine,w1,w2,w3,hpo,p1,p2])
  ·by_cases b0:x.b=0
   ·refine Sr<|Ap (Abr Bp rfl)<|Ai (Ld I An 0 1 1 rfl rfl rfl)<|AT (Abs (AbZ rfl rfl) (p1))<|Ab Mv<|Gg<|Gg<|Gg<|Ab (Abo rfl rfl)<|Ab Mv<|Gp (Abr Bp rfl)<|Gi (Ld I An 0 1 1 rfl rfl rfl)<|GF (Abt (AbZ rfl rfl) (p2))<|Gb Mv<|Gp (Abr B8 rfl)<|Gi (Ld I An 1 2 1 rfl rfl rfl)<|GT (Abs (AbI rfl rfl) (b0))<|Gb (Abp rfl rfl)<|Ab (Abo rfl rfl)<|Ab Mv<|Gp (Abr A3 rfl)<|Gi (Ld I An 0 2 1 rfl rfl rfl)<|Gp (Abr BL rfl)<|Gi (Ld I An 1 3 1 rfl rfl rfl)<|Ab8 rfl (Abm I call159 (GM _ I.j6 _ _) rfl fun w I=>Gd (AbI rfl rfl)<|Ab (Abo rfl rfl)<|Ab Ag<|Abh<|Wr ?_);exact Rm (v:=.bool _) rfl rfl I (by simp only[tup,factFine,w1,w2,w3,hpo,decide_true,AgY];simp[p1,b0])
   ·refine Sr<|Ap (Abr Bp rfl)<|Ai (Ld I An 0 1 1 rfl rfl rfl)<|AT (Abs (AbZ rfl rfl) (p1))<|Ab Mv<|Gg<|Gg<|Gg<|Ab (Abo rfl rfl)<|Ab Mv<|Gp (Abr Bp rfl)<|Gi (Ld I An 0 1 1 rfl rfl rfl)<|GF (Abt (AbZ rfl rfl) (p2))<|Gb Mv<|Gp (Abr B8 rfl)<|Gi (Ld I An 1 2 1 rfl rfl rfl)<|GF (Abt (AbI rfl rfl) (b0))<|Gb (Abp rfl rfl)<|Ab (Abo rfl rfl)<|Ab Mv<|Gg<|Gg<|Gg<|Gg<|Gg<|Gg<|Ab (Abp rfl rfl)<|Ab Ag<|Abh<|Wr ?_;exact Rm (v:=.bool _) rfl rfl I (by simp[tup,factFine,hpo,p2,b0])
 ·by_cases a0:x.a=0
  ·by_cases p2:2≤l.xs[x.pred.toNat].arity
   ·omega
   ·by_cases b0:x.b=0
    ·refine Sr<|Ap (Abr Bp rfl)<|Ai (Ld I An 0 1 1 rfl rfl rfl)<|AF (Abt (AbZ rfl rfl) (p1))<|Ab Mv<|Gp (Abr BG rfl)<|Gi (Ld I An 1 1 1 rfl rfl rfl)<|GT (Abs (AbI rfl rfl) (a0))<|Ab (Abp rfl rfl)<|Ab Mv<|Gp (Abr Bp rfl)<|Gi (Ld I An 0 1 1 rfl rfl rfl)<|GF (Abt (AbZ rfl rfl) (p2))<|Gb Mv<|Gp (Abr B8 rfl)<|Gi (Ld I An 1 2 1 rfl rfl rfl)<|GT (Abs (AbI rfl rfl) (b0))<|Gb (Abp rfl rfl)<|Ab (Abo rfl rfl)<|Ab Mv<|Gp (Abr A3 rfl)<|Gi (Ld I An 0 2 1 rfl rfl rfl)<|Gp (Abr BL rfl)<|Gi (Ld I An 1 3 1 rfl rfl rfl)<|Ab8 rfl (Abm I call159 (GM _ I.j6 _ _) rfl fun w I=>Gd (AbI rfl rfl)<|Ab (Abo rfl rfl)<|Ab Ag<|Abh<|Wr ?_);exact Rm (v:=.bool _) rfl rfl I (by simp only[tup,factFine,w1,w2,w3,hpo,decide_true,AgY];simp[a0,b0])
    ·refine Sr<|Ap (Abr Bp rfl)<|Ai (Ld I An 0 1 1 rfl rfl rfl)<|AF (Abt (AbZ rfl rfl) (p1))<|Ab Mv<|Gp (Abr BG rfl)<|Gi (Ld I An 1 1 1 rfl rfl rfl)<|GT (Abs (AbI rfl rfl) (a0))<|Ab (Abp rfl rfl)<|Ab Mv<|Gp (Abr Bp rfl)<|Gi (Ld I An 0 1 1 rfl rfl rfl)<|GF (Abt (AbZ rfl rfl) (p2))<|Gb Mv<|Gp (Abr B8 rfl)<|Gi (Ld I An 1 2 1 rfl rfl rfl)<|GF (Abt (AbI rfl rfl) (b0))<|Gb (Abp rfl rfl)<|Ab (Abo rfl rfl)<|Ab Mv<|Gg<|Gg<|Gg<|Gg<|Gg<|Gg<|Ab (Abp rfl rfl)<|Ab Ag<|Abh<|Wr ?_;exact Rm (v:=.bool _) rfl rfl I (by simp[tup,factFine,hpo,p2,b0])
  ·refine Sr<|Ap (Abr Bp rfl)<|Ai (Ld I An 0 1 1 rfl rfl rfl)<|AF (Abt (AbZ rfl rfl) (p1))<|Ab Mv<|Gp (Abr BG rfl)<|Gi (Ld I An 1 1 1 rfl rfl rfl)<|GF (Abt (AbI rfl rfl) (a0))<|Ab (Abp rfl rfl)<|Ab Mv<|Gg<|Gg<|Gg<|Gg<|Gg<|Gg<|Gg<|Gg<|Ab (Abp rfl rfl)<|Ab Mv<|Gg<|Gg<|Gg<|Gg<|Gg<|Gg<|Ab (Abp rfl rfl)<|Ab Ag<|Abh<|Wr ?_;exact Rm (v:=.bool _) rfl rfl I (by simp[tup,factFine,hpo,p1,a0])
end
section
set_option maxRecDepth 10000
theorem OS(B:Aq)(hB:B.ok)(l:Sl Prd)(hl:l.Is 3 Prd.enc B.h)(hb:l.xs.length*32≤140737488355328) :
  Fn prog 189 [l.val] B (fun v h=>∃s:Sl Prd,v=s.val∧s.xs=l.xs∧Di 53 3 s Prd.enc B.h h∧(s.xs=[]→s.cap=0)):=by
 refine Fo hB func189 rfl ntmps189 fun e I=>Sr<|As0 Ag<|Abh<|Abi<|Sr<|As0 Mv<|Ab (AdT Aia rfl rfl)<|Abh ?_;refine AbG rfl (fun h=>?_) (fun h=>?_)
 ·refine Sr<|As0 Ag<|Abh ?_;have hx:l.xs=[]:=by
   cases hx:l.xs with
   |nil=>rfl
   |cons a r=>
    have:=(hl.el 0 a (by rw[hx];rfl)).1;simp only[this,AhI] at h;cases h
  refine Wr ?_;exact Rm (v:=.slice _ _ _) rfl rfl I (⟨⟨none,0,[]⟩,rfl,hx.symm,.inl rfl,fun _=>rfl⟩)
 refine Abk<|Sr<|Abj (AdD (α:=Prd) Prd.enc I Aia Aim fun s5 h5 w I le5 e5 c5 a5 o5=>As0 Mv<|Abj (AcP (α:=Prd) I Aia Vg (fun _=>rfl) o5 le5 e5 c5 a5 (hl.el.le le5) rfl rfl (by omega) (by have:=hl.small;omega) fun r h2 w I le2 hr o2 r0=>As0 Ag<|Abh<|Wr ?_));exact Rm (v:=.slice _ _ _) rfl rfl I (⟨r,rfl,hr,o2,r0⟩)
theorem OT(B:Aq)(hB:B.ok)(l:Sl Rul)(hl:l.Is 5 Rul.enc B.h)(hb:l.xs.length*80≤140737488355328) :
  Fn prog 191 [l.val] B (fun v h=>∃s:Sl Rul,v=s.val∧s.xs=l.xs∧Di 64 5 s Rul.enc B.h h∧(s.xs=[]→s.cap=0)):=by
 refine Fo hB func191 rfl ntmps191 fun e I=>Sr<|As0 Ag<|Abh<|Abi<|Sr<|As0 Mv<|Ab (AdT Aic rfl rfl)<|Abh ?_;refine AbG rfl (fun h=>?_) (fun h=>?_)
 ·refine Sr<|As0 Ag<|Abh ?_;have hx:l.xs=[]:=by
   cases hx:l.xs with
   |nil=>rfl
   |cons a r=>
    have:=(hl.el 0 a (by rw[hx];rfl)).1;simp only[this,AhI] at h;cases h
  refine Wr ?_;exact Rm (v:=.slice _ _ _) rfl rfl I (⟨⟨none,0,[]⟩,rfl,hx.symm,.inl rfl,fun _=>rfl⟩)
 refine Abk<|Sr<|Abj (AdD (α:=Rul) Rul.enc I Aic Aiv fun s5 h5 w I le5 e5 c5 a5 o5=>As0 Mv<|Abj (AcP (α:=Rul) I Aic OC (fun _=>rfl) o5 le5 e5 c5 a5 (hl.el.le le5) rfl rfl (by omega) (by have:=hl.small;omega) fun r h2 w I le2 hr o2 r0=>As0 Ag<|Abh<|Wr ?_));exact Rm (v:=.slice _ _ _) rfl rfl I (⟨r,rfl,hr,o2,r0⟩)
theorem C4(B:Aq)(hB:B.ok)(l:Sl Fct)(hl:l.Is 4 Fct.enc B.h)(hb:l.xs.length*32≤140737488355328) :
  Fn prog 137 [l.val] B (fun v h=>∃s:Sl Fct,v=s.val∧s.xs=l.xs∧Di 83 4 s Fct.enc B.h h∧(s.xs=[]→s.cap=0)):=by
 refine Fo hB func137 rfl ntmps137 fun e I=>Sr<|As0 Ag<|Abh<|Abi<|Sr<|As0 Mv<|Ab (AdT Ah8 rfl rfl)<|Abh ?_;refine AbG rfl (fun h=>?_) (fun h=>?_)
 ·refine Sr<|As0 Ag<|Abh ?_;have hx:l.xs=[]:=by
   cases hx:l.xs with
   |nil=>rfl
   |cons a r=>
    have:=(hl.el 0 a (by rw[hx];rfl)).1;simp only[this,AhI] at h;cases h
  refine Wr ?_;exact Rm (v:=.slice _ _ _) rfl rfl I (⟨⟨none,0,[]⟩,rfl,hx.symm,.inl rfl,fun _=>rfl⟩)
 refine Abk<|Sr<|Abj (AdD (α:=Fct) Fct.enc I Ah8 Aih fun s5 h5 w I le5 e5 c5 a5 o5=>As0 Mv<|Abj (AcP (α:=Fct) I Ah8 D6 (fun _=>rfl) o5 le5 e5 c5 a5 (hl.el.le le5) rfl rfl (by omega) (by have:=hl.small;omega) fun r h2 w I le2 hr o2 r0=>As0 Ag<|Abh<|Wr ?_));exact Rm (v:=.slice _ _ _) rfl rfl I (⟨r,rfl,hr,o2,r0⟩)
end
section
@[reducible] def AaD(n:Int):List Value:=[.int .i64 n]
theorem BW(B:Aq)(hB:B.ok)(x:Fct)(hx:PF x):Fn prog 113 [x.val] B (fun v _=>v=.int .i64 (Ah x)):=by
 obtain⟨h1,h2,h3,h4,h5,h6⟩:=hx;refine Fo hB func113 rfl ntmps113 fun e I=>Sr<|Abj (O.box (v:=.agg #[_,_,_,_]) I rfl rfl fun b1 w I=>Ai Ag<|Abh<|Sr<|Ap (Abu Bu rfl)<|Ai (Ld I An 0 0 1 rfl rfl rfl)<|Ai (AdQ rfl rfl ⟨by omega,by omega⟩)<|Ap (Abr BG rfl)<|Ai (Ld I An 0 1 1 rfl rfl rfl)<|Ai (Dd rfl rfl)<|Ai (AdQ rfl rfl ⟨by omega,by omega⟩)<|Ap (Abr B8 rfl)<|Ai (Ld I An 0 2 1 rfl rfl rfl)<|Ai (Dd rfl rfl)<|Ai Ag<|Abh<|Wr ?_);exact Rm (v:=.int .i64 _) rfl rfl I (rfl)
theorem PW(B:Aq)(hB:B.ok)(a:Int):Fn prog 197 [.int .i64 a] B (fun v _=>v=.bool false):=by
 refine Fo hB func197 rfl ntmps197 fun e I=>Sr<|Ab Ag<|Abh<|Sr<|Ai Mv<|Ai Mv<|Ad (AbK rfl rfl)<|Ab Ag<|Abh<|Wr ?_;exact Rm (v:=.bool _) rfl rfl I (by simp only[tup];simp)
theorem Ey(B:Aq)(hB:B.ok)(a b:Int):Fn prog 158 [.int .i64 a,.int .i64 b] B (fun v _=>v=.int .i64 (Eo a b)):=by
 refine Fo hB func158 rfl ntmps158 fun e I=>Sr<|Ai Ag<|Abh<|Sr<|Ai Mv<|Abj (Abm I call197 (PW _ I.j6 a) rfl fun w I=>Ab Ag<|Abh<|Sr<|Ai Mv<|Abj (Abm I call197 (PW _ I.j6 b) rfl fun w I=>Ab Ag<|Abh<|Abi<|Sr<|Ab Mv<|Abh<|Abq rfl<|Abk<|Abi<|Sr<|Ab Mv<|Abh<|Abq rfl<|Abk<|Abi<|Sr<|Ai Mv<|Ai Mv<|Ad (AbC rfl rfl)<|Abh ?_));refine Abl rfl (fun h1=>?_) (fun h1=>?_)
 ·refine Sr<|Ai Ag<|Abh<|Wr ?_;exact Rm (v:=.int .i64 _) rfl rfl I (by simp only[tup,Eo];rw[if_pos h1])
 refine Abk<|Abi<|Sr<|Ai Mv<|Ai Mv<|Ad (AbL rfl rfl)<|Abh ?_;refine Abl rfl (fun h2=>?_) (fun h2=>?_)
 ·refine Sr<|Ai Ag<|Abh<|Wr ?_;exact Rm (v:=.int .i64 _) rfl rfl I (by simp only[tup,Eo];rw[if_neg h1,if_pos h2])
 refine Abk<|Sr<|Ai Ag<|Abh<|Wr ?_;exact Rm (v:=.int .i64 _) rfl rfl I (by simp only[tup,Eo];rw[if_neg h1,if_neg h2])
def orC(xs:List Int):Int:=(xs.find? fun n=>decide (n≠0)).getD 0
theorem Yj{xs:List Int}{k:Nat}(hk:k<xs.length)(h:∀j,j<k→∀hj:j<xs.length,xs[j]=0)(hp:xs[k]≠0):orC xs=xs[k]:=by
 have:xs.find? (fun n=>decide (n≠0))=some xs[k]:=Ahn.2 ⟨by simpa using hp,k,hk,rfl,fun j hj=>by simpa using h j hj (by omega)⟩;simp only[orC,this,Aga]
theorem VS{xs:List Int}(h:∀j,∀hj:j<xs.length,xs[j]=0):orC xs=0:=by
 have:xs.find? (fun n=>decide (n≠0))=none:=List.find?_eq_none.2 fun x hx=>by
  obtain⟨j,hj,rfl⟩:=Afz hx;simpa using h j hj
 simp only[orC,this,Option.getD_none]
theorem VT(B:Aq)(hB:B.ok)(l:Sl Int)(hl:l.Is 1 AaD B.h):Fn prog 157 [l.val] B (fun v _=>v=.int .i64 (orC l.xs)):=by
 have hsm:=hl.small;refine Fo hB func157 rfl ntmps157 fun e I=>Sr<|Ai Ag<|Abh<|Sr<|Ai Ag<|Abh<|Abi<|Sr<|As0 Mv<|Ai (AbA Aie rfl)<|Ai Mv<|Abh<|WP.block ?_;refine Abx (σ:=Nat) (fun k=>[(3,.int .i64 0),(6,l.val),(7,.int .i64 l.xs.length),(8,.int .i64 k)]) (fun k w=>Inv B B.h [] w∧k≤l.xs.length∧∀j,j<k→∀hj:j<l.xs.length,l.xs[j]=0) (fun k=>l.xs.length-k)
  ⟨0,⟨rfl,rfl,rfl,rfl,trivial⟩,I,Afa _,fun j hj=>by omega⟩ ?_
 rintro k e w ⟨I,hk,hn⟩;refine Sr<|Ad (AbC rfl rfl)<|Abh<|Abi ?_;refine Abl rfl (fun h=>?_) (fun h=>?_)
 ·have hk':k<l.xs.length:=by omega
  have E1:=hl.at hk';refine Abk<|Abi<|WP.block<|Sr<|Ap (Ix E1 Aie Aij rfl rfl)<|Ai (Abn An rfl (I.rd (E1.rd.part 0 1)) rfl rfl)<|Ai Ag<|Abh<|Sr<|Ai Mv<|Ai Mv<|Ad (AbK rfl rfl)<|Abh ?_;refine Abl rfl (fun h5=>?_) (fun h5=>?_)
  ·refine Sr<|Ai Mv<|Ai Ag<|Abh<|Wr ?_;exact Rm (v:=.int .i64 _) rfl rfl I (by simp only[tup];rw[Yj hk' hn h5])
  refine Abk<|Abg<|Ai (Dd rfl rfl)<|Ai Mv<|Abh ?_;exact⟨k+1,⟨⟨rfl,rfl,rfl,rfl,trivial⟩,I,by omega,fun j hj hj'=>by
   rcases Afd.1 hj with h'|rfl
   ·exact hn j h' hj'
   ·exact Afh.1 h5⟩,by omega⟩
 refine Abz<|Sr<|Ai Mv<|Ai Ag<|Abh<|Wr ?_;exact Rm (v:=.int .i64 _) rfl rfl I (by simp only[tup];rw[VS fun j hj=>hn j (by omega) hj])
theorem Tt(a b c:Int):orC [a,b,c]=if a≠0 then a else if b≠0 then b else c:=by
 unfold orC;by_cases ha:a=0
 ·by_cases hb:b=0
  ·by_cases hc:c=0<;>simp[ha,hb,hc]
  ·simp[ha,hb]
 ·simp[ha]
theorem Mh(B:Aq)(hB:B.ok)(x y:Fct):Fn prog 111 [x.val,y.val] B (fun v _=>v=.int .i64 (Xo x y)):=by
 refine Fo hB func111 rfl ntmps111 fun e I=>Sr<|Abj (O.box (v:=.agg #[_,_,_,_]) I rfl rfl fun b2 w I=>Abj (O.box (v:=.agg #[_,_,_,_]) I rfl rfl fun b3 w I=>Ai Ag<|Abh<|Abi<|AbM AC I 18 (by kernel_rfl)<|Fp (fun _ w us hl I=>Abu Bu rfl)<|Fi (fun _ w us hl I=>Ld I An 1 0 1 rfl rfl rfl)<|Fp (fun _ w us hl I=>Abu Bu rfl)<|Fi (fun _ w us hl I=>Ld I An 0 0 1 rfl rfl rfl)<|AcZ (fun _=>Aj _) (fun _ w us hl I=>Abm I call158 (Ey _ I.j6 _ _) rfl (fun w' I'=>⟨rfl,I'⟩))<|Fp (fun _ w us hl I=>Abr BG rfl)<|Fi (fun _ w us hl I=>Ld I An 1 1 1 rfl rfl rfl)<|Fp (fun _ w us hl I=>Abr BG rfl)<|Fi (fun _ w us hl I=>Ld I An 0 1 1 rfl rfl rfl)<|AcZ (fun _=>Aj _) (fun _ w us hl I=>Abm I call158 (Ey _ I.j6 _ _) rfl (fun w' I'=>⟨rfl,I'⟩))<|Fp (fun _ w us hl I=>Abr B8 rfl)<|Fi (fun _ w us hl I=>Ld I An 1 2 1 rfl rfl rfl)<|Fp (fun _ w us hl I=>Abr B8 rfl)<|Fi (fun _ w us hl I=>Ld I An 0 2 1 rfl rfl rfl)<|AcZ (fun _=>Aj _) (fun _ w us hl I=>Abm I call158 (Ey _ I.j6 _ _) rfl (fun w' I'=>⟨rfl,I'⟩)) ?_));refine AbR (Φ:=SlS 1 AaD [Eo x.pred y.pred,Eo x.a y.a,Eo x.b y.b]) SlS.mono (fun _=>Aj _) ?_ ?_
 ·intro _ w hl I;exact AbY (xs:=[Eo x.pred y.pred,Eo x.a y.a,Eo x.b y.b]) (enc:=AaD) I Aie Aij AiG rfl (Nb rfl) rfl rfl (by decide) (fun _=>rfl) (fun b h w I le sl=>⟨h,le,I,⟨⟨some ⟨b,0,none⟩,_,[Eo x.pred y.pred,Eo x.a y.a,Eo x.b y.b]⟩,rfl,rfl,⟨sl,by simp⟩⟩⟩)
 refine AcE (v:=.int .i64 (Xo x y)) (fun _=>Aj _) ?_ ?_
 ·intro _ w hl I u20 q20;obtain⟨s,rfl,es,hs⟩:=q20 rfl;exact Abm I call157 (VT _ I.j6 s hs) rfl (fun w' I'=>⟨congrArg (Value.int .i64) ((congrArg orC es).trans (Tt _ _ _)),I'⟩)
 refine Fi (fun _ w us hl I=>Ag)<|AbX fun _ w hl I u20 q20=>Abh<|Wr ?_;exact Rm (v:=.int .i64 _) rfl rfl I (rfl)
def NK(p:Prd)(n:Int):Int:=if p.arity<n then 0 else 4
theorem F5(B:Aq)(hB:B.ok)(b:Nat)(p:Prd)(hb:Ci B.h b p.enc)(n:Int):Fn prog 155 [.int .i64 n,Pt b] B (fun v _=>v=.int .i64 (NK p n)):=by
 refine Fo hB func155 rfl ntmps155 fun e I=>Sr<|Ai Ag<|Abh<|Abi<|Sr<|Ap (Abr Bp rfl)<|Ai (Abn An rfl (I.rd (hb.rd.part 1 1)) rfl rfl)<|Ai Mv<|Ad (AbC rfl rfl)<|Abh ?_;refine Abl rfl (fun h=>?_) (fun h=>?_)
 ·refine Sr<|Ai Ag<|Abh<|Wr ?_;exact Rm (v:=.int .i64 _) rfl rfl I (by simp only[tup,NK];rw[if_pos h])
 refine Abk<|Sr<|Ai Ag<|Abh<|Wr ?_;exact Rm (v:=.int .i64 _) rfl rfl I (by simp only[tup,NK];rw[if_neg h])
theorem FG{l:List Prd}{x:Fct}(h:0≤x.pred∧x.pred<l.length) :
  factFine l x=decide (0≤x.a∧x.a≤NK (Al l x.pred) 1∧0≤x.b∧x.b≤NK (Al l x.pred) 2∧checkVal (Al l x.pred).kind x.v=0):=by
 rw[AgH,Ct,decide_eq_true_eq];unfold NK VOk
 (repeat' split)<;>omega
theorem OU(B:Aq)(hB:B.ok)(l:Sl Prd)(hl:HQ l B.h)(x:Fct):Fn prog 110 [l.val,x.val] B (fun v _=>v=.bool (factFine l.xs x)):=by
 have hsm:=hl.small;refine Fo hB func110 rfl ntmps110 fun e I=>Sr<|Abj (O.box (v:=.agg #[_,_,_,_]) I rfl rfl fun b3 w I=>Ab Ag<|Abh<|Abi<|Abi ?_);by_cases o0:x.pred<0
 ·refine Abg<|Ap (Abu Bu rfl)<|Ai (Ld I An 0 0 1 rfl rfl rfl)<|AT (Abs (AbC rfl rfl) (o0))<|Ab Mv<|Gg<|Gg<|Gg<|Gg<|Gg<|Ab (Abo rfl rfl)<|Abh<|Abw rfl<|Sr<|Ab Ag<|Abh<|Wr ?_;exact Rm (v:=.bool _) rfl rfl I (by simp only[tup];rw[show factFine l.xs x=false from by rw[AgA];intro hh;have:=(Ct.1 hh).1;omega])
 by_cases o1:(l.xs.length:Int)≤x.pred
 ·refine Abg<|Ap (Abu Bu rfl)<|Ai (Ld I An 0 0 1 rfl rfl rfl)<|AF (Abt (AbC rfl rfl) (o0))<|Ab Mv<|Gp (Abu Bu rfl)<|Gi (Ld I An 0 0 1 rfl rfl rfl)<|Gs Mv<|Gi (AbA Aia rfl)<|GT (Abs (AbZ rfl rfl) (o1))<|Ab (Abp rfl rfl)<|Abh<|Abw rfl<|Sr<|Ab Ag<|Abh<|Wr ?_;exact Rm (v:=.bool _) rfl rfl I (by simp only[tup];rw[show factFine l.xs x=false from by rw[AgA];intro hh;have:=(Ct.1 hh).1;omega])
 refine Abg<|Ap (Abu Bu rfl)<|Ai (Ld I An 0 0 1 rfl rfl rfl)<|AF (Abt (AbC rfl rfl) (o0))<|Ab Mv<|Gp (Abu Bu rfl)<|Gi (Ld I An 0 0 1 rfl rfl rfl)<|Gs Mv<|Gi (AbA Aia rfl)<|GF (Abt (AbZ rfl rfl) (o1))<|Ab (Abp rfl rfl)<|Abh<|Abq rfl ?_;have hk:x.pred.toNat<l.xs.length:=by omega
 have h01:0≤x.pred∧x.pred<l.xs.length:=by omega
 have E1:=hl.at hk;have hpo:l.xs[x.pred.toNat]=Al l.xs x.pred:=(BT h01.1 h01.2).symm;refine Abk<|Sr<|As0 Mv<|Ap (Abu Bu rfl)<|Ai (Ld I An 0 0 1 rfl rfl rfl)<|Ap (AbJ E1 Aia Aim rfl rfl h01.1 rfl)<|Ay (Abn KA rfl (I.rd (E1.rd.part 0 3)) rfl rfl)<|Abj (O.alloc I AiB rfl fun b5 w I=>Abj (Sy I KA 0 rfl rfl rfl rfl fun w I=>Abh ?_));rw[hpo] at I;obtain⟨h5,le5,hb5,I⟩:=I.z8;refine Sr<|Af (Acq rfl rfl)<|Af Ag<|Abh ?_;by_cases a0:0≤x.a;case neg=>
  refine Abi<|AbD AC I (by kernel_rfl)<|Qp (fun w I=>Abr BG rfl)<|Qi (fun w I=>Ld I An 0 1 1 rfl rfl rfl)<|QF (fun w I=>Abt (AbZ rfl rfl) (a0))<|Qb (fun w I=>Mv)<|Abv rfl<|Abv rfl<|Abv rfl<|Abv rfl<|Abv rfl<|Qb (fun w I=>Abp rfl rfl)<|Qb (fun w I=>Mv)<|Abv rfl<|Abv rfl<|Abv rfl<|Qb (fun w I=>Abp rfl rfl)<|Qb (fun w I=>Mv)<|Abv rfl<|Abv rfl<|Abv rfl<|Abv rfl<|Abv rfl<|Qb (fun w I=>Abp rfl rfl)<|Qb (fun w I=>Mv)<|Abv rfl<|Abv rfl<|Abv rfl<|Abv rfl<|Abv rfl<|Abv rfl<|Qb (fun w I=>Abp rfl rfl)<|Qb (fun w I=>Ag)<|AbH fun w I=>Wr ?_;exact Rm (v:=.bool _) rfl rfl I (by simp only[tup];rw[FG h01,decide_eq_false (fun hh=>a0 hh.1)])
 by_cases a1:x.a≤NK (Al l.xs x.pred) 1;case neg=>
  refine Abi<|AbD AC I (by kernel_rfl)<|Qp (fun w I=>Abr BG rfl)<|Qi (fun w I=>Ld I An 0 1 1 rfl rfl rfl)<|QT (fun w I=>Abs (AbZ rfl rfl) (a0))<|Qb (fun w I=>Mv)<|Hp (fun w I=>Abr BG rfl)<|Hi (fun w I=>Ld I An 0 1 1 rfl rfl rfl)<|Hf (fun w I=>Mv)<|Acj rfl (fun w I=>Acx I call155 (fs:=[]) (cs:=[Pt b5]) rfl (F5 _ I.j6 b5 _ hb5 1) rfl)<|HF (fun w I=>Abt (AcD rfl rfl) (a1))<|Qb (fun w I=>Abo rfl rfl)<|Qb (fun w I=>Mv)<|Abv rfl<|Abv rfl<|Abv rfl<|Qb (fun w I=>Abp rfl rfl)<|Qb (fun w I=>Mv)<|Abv rfl<|Abv rfl<|Abv rfl<|Abv rfl<|Abv rfl<|Qb (fun w I=>Abp rfl rfl)<|Qb (fun w I=>Mv)<|Abv rfl<|Abv rfl<|Abv rfl<|Abv rfl<|Abv rfl<|Abv rfl<|Qb (fun w I=>Abp rfl rfl)<|Qb (fun w I=>Ag)<|AbH fun w I=>Wr ?_;exact Rm (v:=.bool _) rfl rfl I (by simp only[tup];rw[FG h01,decide_eq_false (fun hh=>a1 hh.2.1)])
 by_cases b0:0≤x.b;case neg=>
  refine Abi<|AbD AC I (by kernel_rfl)<|Qp (fun w I=>Abr BG rfl)<|Qi (fun w I=>Ld I An 0 1 1 rfl rfl rfl)<|QT (fun w I=>Abs (AbZ rfl rfl) (a0))<|Qb (fun w I=>Mv)<|Hp (fun w I=>Abr BG rfl)<|Hi (fun w I=>Ld I An 0 1 1 rfl rfl rfl)<|Hf (fun w I=>Mv)<|Acj rfl (fun w I=>Acx I call155 (fs:=[]) (cs:=[Pt b5]) rfl (F5 _ I.j6 b5 _ hb5 1) rfl)<|HT (fun w I=>Abs (AcD rfl rfl) (a1))<|Qb (fun w I=>Abo rfl rfl)<|Qb (fun w I=>Mv)<|Hp (fun w I=>Abr B8 rfl)<|Hi (fun w I=>Ld I An 0 2 1 rfl rfl rfl)<|HF (fun w I=>Abt (AbZ rfl rfl) (b0))<|Qb (fun w I=>Abo rfl rfl)<|Qb (fun w I=>Mv)<|Abv rfl<|Abv rfl<|Abv rfl<|Abv rfl<|Abv rfl<|Qb (fun w I=>Abp rfl rfl)<|Qb (fun w I=>Mv)<|Abv rfl<|Abv rfl<|Abv rfl<|Abv rfl<|Abv rfl<|Abv rfl<|Qb (fun w I=>Abp rfl rfl)<|Qb (fun w I=>Ag)<|AbH fun w I=>Wr ?_;exact Rm (v:=.bool _) rfl rfl I (by simp only[tup];rw[FG h01,decide_eq_false (fun hh=>b0 hh.2.2.1)])
 by_cases b1:x.b≤NK (Al l.xs x.pred) 2;case neg=>
  refine Abi<|AbD AC I (by kernel_rfl)<|Qp (fun w I=>Abr BG rfl)<|Qi (fun w I=>Ld I An 0 1 1 rfl rfl rfl)<|QT (fun w I=>Abs (AbZ rfl rfl) (a0))<|Qb (fun w I=>Mv)<|Hp (fun w I=>Abr BG rfl)<|Hi (fun w I=>Ld I An 0 1 1 rfl rfl rfl)<|Hf (fun w I=>Mv)<|Acj rfl (fun w I=>Acx I call155 (fs:=[]) (cs:=[Pt b5]) rfl (F5 _ I.j6 b5 _ hb5 1) rfl)<|HT (fun w I=>Abs (AcD rfl rfl) (a1))<|Qb (fun w I=>Abo rfl rfl)<|Qb (fun w I=>Mv)<|Hp (fun w I=>Abr B8 rfl)<|Hi (fun w I=>Ld I An 0 2 1 rfl rfl rfl)<|HT (fun w I=>Abs (AbZ rfl rfl) (b0))<|Qb (fun w I=>Abo rfl rfl)<|Qb (fun w I=>Mv)<|Hp (fun w I=>Abr B8 rfl)<|Hi (fun w I=>Ld I An 0 2 1 rfl rfl rfl)<|Hf (fun w I=>Mv)<|Acj rfl (fun w I=>Acx I call155 (fs:=[]) (cs:=[Pt b5]) rfl (F5 _ I.j6 b5 _ hb5 2) rfl)<|HF (fun w I=>Abt (AcD rfl rfl) (b1))<|Qb (fun w I=>Abo rfl rfl)<|Qb (fun w I=>Mv)<|Abv rfl<|Abv rfl<|Abv rfl<|Abv rfl<|Abv rfl<|Abv rfl<|Qb (fun w I=>Abp rfl rfl)<|Qb (fun w I=>Ag)<|AbH fun w I=>Wr ?_;exact Rm (v:=.bool _) rfl rfl I (by simp only[tup];rw[FG h01,decide_eq_false (fun hh=>b1 hh.2.2.2.1)])
 refine Abi<|AbD AC I (by kernel_rfl)<|Qp (fun w I=>Abr BG rfl)<|Qi (fun w I=>Ld I An 0 1 1 rfl rfl rfl)<|QT (fun w I=>Abs (AbZ rfl rfl) (a0))<|Qb (fun w I=>Mv)<|Hp (fun w I=>Abr BG rfl)<|Hi (fun w I=>Ld I An 0 1 1 rfl rfl rfl)<|Hf (fun w I=>Mv)<|Acj rfl (fun w I=>Acx I call155 (fs:=[]) (cs:=[Pt b5]) rfl (F5 _ I.j6 b5 _ hb5 1) rfl)<|HT (fun w I=>Abs (AcD rfl rfl) (a1))<|Qb (fun w I=>Abo rfl rfl)<|Qb (fun w I=>Mv)<|Hp (fun w I=>Abr B8 rfl)<|Hi (fun w I=>Ld I An 0 2 1 rfl rfl rfl)<|HT (fun w I=>Abs (AbZ rfl rfl) (b0))<|Qb (fun w I=>Abo rfl rfl)<|Qb (fun w I=>Mv)<|Hp (fun w I=>Abr B8 rfl)<|Hi (fun w I=>Ld I An 0 2 1 rfl rfl rfl)<|Hf (fun w I=>Mv)<|Acj rfl (fun w I=>Acx I call155 (fs:=[]) (cs:=[Pt b5]) rfl (F5 _ I.j6 b5 _ hb5 2) rfl)<|HT (fun w I=>Abs (AcD rfl rfl) (b1))<|Qb (fun w I=>Abo rfl rfl)<|Qb (fun w I=>Mv)<|Hp (fun w I=>Abr A3 rfl)<|Hi (fun w I=>Abn An rfl (I.rd (hb5.rd.part 2 1)) rfl rfl)<|Hp (fun w I=>Abr BL rfl)<|Hi (fun w I=>Ld I An 0 3 1 rfl rfl rfl)<|Acj rfl (fun w I=>AbO I call156 (VI _ I.j6 _ _) rfl)<|Hd (fun w I=>AbI rfl rfl)<|Qb (fun w I=>Abo rfl rfl)<|Qb (fun w I=>Ag)<|AbH fun w I=>Wr ?_;exact Rm (v:=.bool _) rfl rfl I (by simp only[tup];rw[FG h01];congr 1;rw[decide_eq_decide];exact⟨fun hh=>⟨a0,a1,b0,b1,hh⟩,fun hh=>hh.2.2.2.2⟩)
theorem Tu(B:Aq)(hB:B.ok)(x:Prd):Fn prog 109 [x.val] B (fun v _=>v=.bool (!AE x)):=by
 refine Fo hB func109 rfl ntmps109 fun e I=>Sr<|Abj (O.box (v:=.agg #[_,_,_]) I rfl rfl fun b1 w I=>Ab Ag<|Abh<|Abi ?_);by_cases o0:x.kind<0
 ·refine Abg<|Ap (Abr A3 rfl)<|Ai (Ld I An 0 2 1 rfl rfl rfl)<|AT (Abs (AbC rfl rfl) (o0))<|Ab Mv<|Gg<|Gg<|Gg<|Ab (Abo rfl rfl)<|Ab Mv<|Gg<|Gg<|Gg<|Ab (Abo rfl rfl)<|Ab Mv<|Gg<|Gg<|Gg<|Ab (Abo rfl rfl)<|Ab Ag<|Abh<|Wr ?_;exact Rm (v:=.bool _) rfl rfl I (by simp only[tup];rw[show AE x=false from by unfold AE;rw[decide_eq_false (by omega)]];rfl)
 by_cases o1:3<x.kind
 ·refine Abg<|Ap (Abr A3 rfl)<|Ai (Ld I An 0 2 1 rfl rfl rfl)<|AF (Abt (AbC rfl rfl) (o0))<|Ab Mv<|Gp (Abr A3 rfl)<|Gi (Ld I An 0 2 1 rfl rfl rfl)<|GT (Abs (AbL rfl rfl) (o1))<|Ab (Abp rfl rfl)<|Ab Mv<|Gg<|Gg<|Gg<|Ab (Abo rfl rfl)<|Ab Mv<|Gg<|Gg<|Gg<|Ab (Abo rfl rfl)<|Ab Ag<|Abh<|Wr ?_;exact Rm (v:=.bool _) rfl rfl I (by simp only[tup];rw[show AE x=false from by unfold AE;rw[decide_eq_false (by omega)]];rfl)
 by_cases o2:x.arity<0
 ·refine Abg<|Ap (Abr A3 rfl)<|Ai (Ld I An 0 2 1 rfl rfl rfl)<|AF (Abt (AbC rfl rfl) (o0))<|Ab Mv<|Gp (Abr A3 rfl)<|Gi (Ld I An 0 2 1 rfl rfl rfl)<|GF (Abt (AbL rfl rfl) (o1))<|Ab (Abp rfl rfl)<|Ab Mv<|Gp (Abr Bp rfl)<|Gi (Ld I An 0 1 1 rfl rfl rfl)<|GT (Abs (AbC rfl rfl) (o2))<|Ab (Abp rfl rfl)<|Ab Mv<|Gg<|Gg<|Gg<|Ab (Abo rfl rfl)<|Ab Ag<|Abh<|Wr ?_;exact Rm (v:=.bool _) rfl rfl I (by simp only[tup];rw[show AE x=false from by unfold AE;rw[decide_eq_false (by omega)]];rfl)
 refine Abg<|Ap (Abr A3 rfl)<|Ai (Ld I An 0 2 1 rfl rfl rfl)<|AF (Abt (AbC rfl rfl) (o0))<|Ab Mv<|Gp (Abr A3 rfl)<|Gi (Ld I An 0 2 1 rfl rfl rfl)<|GF (Abt (AbL rfl rfl) (o1))<|Ab (Abp rfl rfl)<|Ab Mv<|Gp (Abr Bp rfl)<|Gi (Ld I An 0 1 1 rfl rfl rfl)<|GF (Abt (AbC rfl rfl) (o2))<|Ab (Abp rfl rfl)<|Ab Mv<|Gp (Abr Bp rfl)<|Gi (Ld I An 0 1 1 rfl rfl rfl)<|Gd (AbL rfl rfl)<|Ab (Abp rfl rfl)<|Ab Ag<|Abh<|Wr ?_;exact Rm (v:=.bool _) rfl rfl I (by simp only[tup,AE];congr 1;rw[←decide_not,decide_eq_decide];omega)
theorem JZ{l:List Prd}{f:List Fct}(h:∀k,(hk:k<f.length)→factFine l f[k]=true∧(0<k→Ah f[k-1]<Ah f[k])):G6 l f=true:=by
 unfold G6;rw[Afn,Aff,Dv];refine⟨fun x hx=>?_,SC fun i hi=>?_⟩
 ·obtain⟨j,hj,rfl⟩:=Afz hx;exact(h j hj).1
 ·have:=(h (i+1) hi).2 (by omega);simpa using this
theorem F6{l:List Prd}{f:List Fct}{k:Nat}(hk:k<f.length)(h:factFine l f[k]=false∨0<k∧¬Ah f[k-1]<Ah f[k]):G6 l f=false:=by
 rw[AgA];intro hh;unfold G6 at hh;rw[Afn,Aff,Dv] at hh;rcases h with h|⟨h0,h⟩
 ·rw[hh.1 _ (Ae5 hk)] at h;cases h
 ·exact h (hh.2.get (by omega) hk)
theorem Tv(B:Aq)(hB:B.ok)(l:Sl Prd)(hl:HQ l B.h)(f:Sl Fct)(hf:Cv f B.h):Fn prog 50 [l.val,f.val] B (fun v _=>v=.int .i64 (checkFacts l.xs f.xs)):=by
 have hsm:=hl.small;have hsf:=hf.small;refine Fo hB func50 rfl ntmps50 fun e I=>Sr<|Ai Ag<|Abh ?_;by_cases o0:5<(l.xs.length:Int)
 ·refine Abi<|Sr<|As0 Mv<|Ai (AbA Aia rfl)<|AT (Abs (AbL rfl rfl) (o0))<|Ab Mv<|Gg<|Gg<|Ab (Abo rfl rfl)<|Abh<|Abw rfl<|Sr<|Ai Ag<|Abh<|Wr ?_;exact Rm (v:=.int .i64 _) rfl rfl I (by simp only[tup,checkFacts];rw[show Bx l.xs=true from by unfold Bx;rw[decide_eq_true (show 5<l.xs.length by omega),Ag4]];rfl)
 refine Abi<|Sr<|As0 Mv<|Ai (AbA Aia rfl)<|AF (Abt (AbL rfl rfl) (o0))<|Ab Mv<|Gs Mv<|Ab8 rfl (Abm I call55 (DY _ I.j6 l hl 109 call109 [] [] (fun p=>!AE p) (fun B' hB' _ x _=>Tu B' hB' x)) rfl fun w I=>Ab (Abp rfl rfl)<|Abh ?_);refine AbG rfl (fun hb=>?_) (fun hb=>?_)
 ·refine Sr<|Ai Ag<|Abh<|Wr ?_;exact Rm (v:=.int .i64 _) rfl rfl I (by simp only[tup,checkFacts];rw[show Bx l.xs=true from by unfold Bx;rw[show l.xs.all AE=false from by rw[AgI];rw[AfG] at hb;simpa using hb];simp];rfl)
 have hlen:l.xs.length≤5:=by omega
 have hpb:Bx l.xs=false:=by
  unfold Bx;rw[decide_eq_false (by omega),Agy,AgE,Aff];rw[Agb] at hb;intro x hx;simpa using hb x hx
 refine Abk<|Abi<|Sr<|As0 Mv<|Ai (AbA Ah8 rfl)<|Ai Mv<|Abh<|WP.block ?_;refine Abx (σ:=Nat) (fun k=>[(0,l.val),(1,f.val),(14,f.val),(15,.int .i64 f.xs.length),(16,.int .i64 k)]) (fun k w=>Inv B B.h [] w∧k≤f.xs.length∧∀j,j<k→∀hj:j<f.xs.length,factFine l.xs f.xs[j]=true∧(0<j→Ah f.xs[j-1]<Ah f.xs[j])) (fun k=>f.xs.length-k)
  ⟨0,⟨rfl,rfl,rfl,rfl,rfl,trivial⟩,I,Afa _,fun j hj=>by omega⟩ ?_
 rintro k e w ⟨I,hk,hn⟩;refine Sr<|Ad (AbC rfl rfl)<|Abh<|Abi ?_;refine Abl rfl (fun h=>?_) (fun h=>?_)
 ·have hk':k<f.xs.length:=by omega
  have E1:=hf.at hk';refine Abk<|Abi<|WP.block<|Sr<|Ai Mv<|Ap (Ix E1 Ah8 Aih rfl rfl)<|Az (Abn AH rfl (I.rd (E1.rd.part 0 4)) rfl rfl)<|Abj (O.alloc I Aii rfl fun b6 w I=>Ai Ag<|Abj (Sz I AH 0 rfl rfl rfl rfl fun w I=>Abh ?_));cases hff:factFine l.xs f.xs[k]
  ·refine Abi<|AbD AC I (by kernel_rfl)<|Qs (fun w I=>Mv)<|Qz (fun w I=>Ld I AH 0 0 4 rfl rfl rfl)<|Am.c (fun w I=>AbO I call110 (OU _ I.j6 l hl _) rfl)<|QT (fun w I=>Y.b (Y.not rfl) ((by rw[hff];rfl)))<|Qb (fun w I=>Mv)<|Abv rfl<|Abv rfl<|Abv rfl<|Abv rfl<|Abv rfl<|Abv rfl<|Abv rfl<|Abv rfl<|Abv rfl<|Abv rfl<|Abv rfl<|Abv rfl<|Qb (fun w I=>Abo rfl rfl)<|AbH fun w I=>Abw rfl<|Sr<|Ai Ag<|Abh<|Wr ?_;exact Rm (v:=.int .i64 _) rfl rfl I (by simp only[tup,checkFacts,hpb,F6 hk' (Or.inl hff)];rfl)
  by_cases h0:0<(k:Int)
  ·have E0:=hf.at (i:=k-1) (by omega);have p0:=By hlen (hn (k-1) (by omega) (by omega)).1;have p1:=By hlen hff;refine Abi<|AbD AC I (by kernel_rfl)<|Qs (fun w I=>Mv)<|Qz (fun w I=>Ld I AH 0 0 4 rfl rfl rfl)<|Am.c (fun w I=>AbO I call110 (OU _ I.j6 l hl _) rfl)<|QF (fun w I=>Y.b (Y.not rfl) ((by rw[hff];rfl)))<|Qb (fun w I=>Mv)<|Hi (fun w I=>Mv)<|HT (fun w I=>Abs (AbL rfl rfl) (h0))<|Hb (fun w I=>Mv)<|Hs (fun w I=>Mv)<|Hi (fun w I=>Mv)<|Hi (fun w I=>AcA rfl rfl ⟨by omega,by omega⟩)<|Hp (fun w I=>AbJ E0 Ah8 Aih rfl rfl (by omega) (by omega))<|Hz (fun w I=>Abn AH rfl (I.rd (E0.rd.part 0 4)) rfl rfl)<|Hz (fun w I=>Ld I AH 0 0 4 rfl rfl rfl)<|Acj rfl (fun w I=>AbO I call111 (Mh _ I.j6 _ _) rfl)<|Hd (fun w I=>AbZ rfl rfl)<|Hb (fun w I=>Abo rfl rfl)<|Qb (fun w I=>Abp rfl rfl)<|AbH fun w I=>?_;refine Abl rfl (fun h6=>?_) (fun h6=>?_)
   ·refine Sr<|Ai Ag<|Abh<|Wr ?_;exact Rm (v:=.int .i64 _) rfl rfl I (by simp only[tup,checkFacts,hpb,F6 hk' (Or.inr ⟨by omega,fun hlt=>by have:=(IM p0 p1).2 hlt;omega⟩)];rfl)
   refine Abk<|Abg<|Ai (Dd rfl rfl)<|Ai Mv<|Abh ?_;exact⟨k+1,⟨⟨rfl,rfl,rfl,rfl,rfl,trivial⟩,I.drop,by omega,fun j hj hj'=>by
    rcases Afd.1 hj with h'|rfl
    ·exact hn j h' hj'
    ·exact⟨hff,fun _=>(IM p0 p1).1 (by omega)⟩⟩,by omega⟩
  ·refine Abi<|AbD AC I (by kernel_rfl)<|Qs (fun w I=>Mv)<|Qz (fun w I=>Ld I AH 0 0 4 rfl rfl rfl)<|Am.c (fun w I=>AbO I call110 (OU _ I.j6 l hl _) rfl)<|QF (fun w I=>Y.b (Y.not rfl) ((by rw[hff];rfl)))<|Qb (fun w I=>Mv)<|Hi (fun w I=>Mv)<|HF (fun w I=>Abt (AbL rfl rfl) (h0))<|Hb (fun w I=>Mv)<|Abv rfl<|Abv rfl<|Abv rfl<|Abv rfl<|Abv rfl<|Abv rfl<|Abv rfl<|Abv rfl<|Hb (fun w I=>Abp rfl rfl)<|Qb (fun w I=>Abp rfl rfl)<|AbH fun w I=>Abq rfl<|Abk<|Abg<|Ai (Dd rfl rfl)<|Ai Mv<|Abh ?_;exact⟨k+1,⟨⟨rfl,rfl,rfl,rfl,rfl,trivial⟩,I.drop,by omega,fun j hj hj'=>by
    rcases Afd.1 hj with h'|rfl
    ·exact hn j h' hj'
    ·exact⟨hff,fun h2=>by omega⟩⟩,by omega⟩
 refine Abz<|Sr<|Ai Ag<|Abh<|Wr ?_;exact Rm (v:=.int .i64 _) rfl rfl I (by simp only[tup,checkFacts,hpb,JZ fun j hj=>hn j (by omega) hj];rfl)
theorem KI(B:Aq)(hB:B.ok)(l:Sl Prd)(hl:HQ l B.h)(f:Sl Fct)(hf:Cv f B.h):Fn prog 52 [l.val,f.val] B (fun v _=>v=.int .i64 (checkFacts l.xs f.xs)):=by
 have hsm:=hl.small;have hsf:=hf.small;refine Fo hB func52 rfl ntmps52 fun e I=>Sr<|Ai Ag<|Abh<|Abi<|Sr<|As0 Mv<|Ai (AbA Aia rfl)<|Ad (AbL rfl rfl)<|Abh ?_;refine Abl rfl (fun o0=>?_) (fun o0=>?_)
 ·refine Sr<|Ai Ag<|Abh<|Wr ?_;exact Rm (v:=.int .i64 _) rfl rfl I (by simp only[tup,checkFacts];rw[show Bx l.xs=true from by unfold Bx;rw[decide_eq_true (show 5<l.xs.length by omega),Ag4]];rfl)
 refine Abk<|Abi<|Sr<|Ai Ag<|Abh ?_;refine Acc (σ:=Unit) (fun _=>[(0,l.val),(1,f.val)]) (fun _ w=>Inv B B.h [] w∧∀j,∀hj:j<l.xs.length,AE l.xs[j]=true) ?_ ?_
 ·refine WP.block ?_;refine Abx (σ:=Nat) (fun k=>[(0,l.val),(1,f.val),(5,.int .i64 k)]) (fun k w=>Inv B B.h [] w∧k≤l.xs.length∧∀j,j<k→∀hj:j<l.xs.length,AE l.xs[j]=true) (fun k=>l.xs.length-k)
   ⟨0,⟨rfl,rfl,rfl,trivial⟩,I,Afa _,fun j hj=>by omega⟩ ?_
  rintro k e w ⟨I,hk,hn⟩;refine Abi<|Sr<|Ai Mv<|As0 Mv<|Ai (AbA Aia rfl)<|Ad (AbC rfl rfl)<|Abh ?_;refine Abl rfl (fun h=>?_) (fun h=>?_)
  ·have hk':k<l.xs.length:=by omega
   have E1:=hl.at hk';by_cases w1:within l.xs[k].kind 0 3
   ·refine Abk<|Abi<|WP.block<|Sr<|As0 Mv<|Ai Mv<|Ap (Ix E1 Aia Aim rfl rfl)<|Ap (Abr A3 rfl)<|Ai (Abn An rfl (I.rd (E1.rd.part 2 1)) rfl rfl)<|Abj (Abm I call42 (A2 _ I.j6 _ _ _) rfl fun w I=>AF (Y.b (Y.not rfl) ((by rw[decide_eq_true w1];rfl)))<|Ab Mv<|Gs Mv<|Gi Mv<|Gp (Ix E1 Aia Aim rfl rfl)<|Gp (Abr Bp rfl)<|Gi (Abn An rfl (I.rd (E1.rd.part 1 1)) rfl rfl)<|Ab8 rfl (Abm I call42 (A2 _ I.j6 _ _ _) rfl fun w I=>Gb (Y.not rfl)<|Ab (Abp rfl rfl)<|Abh ?_));refine AbG rfl (fun hb=>?_) (fun hb=>?_)
    ·refine Sr<|Ai Ag<|Abh<|Wr ?_;exact Rm (v:=.int .i64 _) rfl rfl I (by simp only[tup,checkFacts];rw[show Bx l.xs=true from by unfold Bx;rw[show l.xs.all AE=false from by rw[AgI];refine⟨_,Ae5 hk',?_⟩;simp only[AgB,decide_eq_false_iff_not] at hb;unfold within at hb;simp only[AE,decide_eq_true_eq];omega];simp];rfl)
    refine Abk<|Abg<|Ai Mv<|Ai (Dd rfl rfl)<|Ai Ag<|Abh ?_;exact⟨k+1,⟨⟨rfl,rfl,rfl,trivial⟩,I,by omega,fun j hj hj'=>by
     rcases Afd.1 hj with h'|rfl
     ·exact hn j h' hj'
     ·simp only[AgE,decide_eq_true_eq] at hb;unfold within at hb w1;simp only[AE,decide_eq_true_eq];omega⟩,by omega⟩
   ·refine Abk<|Abi<|WP.block<|Sr<|As0 Mv<|Ai Mv<|Ap (Ix E1 Aia Aim rfl rfl)<|Ap (Abr A3 rfl)<|Ai (Abn An rfl (I.rd (E1.rd.part 2 1)) rfl rfl)<|Abj (Abm I call42 (A2 _ I.j6 _ _ _) rfl fun w I=>AT (Y.b (Y.not rfl) ((by rw[decide_eq_false w1];rfl)))<|Ab Mv<|Gg<|Gg<|Gg<|Gg<|Gg<|Gg<|Gg<|Ab (Abo rfl rfl)<|Abh<|Abw rfl<|Sr<|Ai Ag<|Abh<|Wr ?_);exact Rm (v:=.int .i64 _) rfl rfl I (by simp only[tup,checkFacts];rw[show Bx l.xs=true from by unfold Bx;rw[show l.xs.all AE=false from by rw[AgI];refine⟨_,Ae5 hk',?_⟩;unfold within at w1;simp only[AE,decide_eq_true_eq];omega];simp];rfl)
  exact Abz<|⟨(),⟨rfl,rfl,trivial⟩,I,fun j hj=>hn j (by omega) hj⟩
 rintro _ e w ⟨I,hpf⟩;have hlen:l.xs.length≤5:=by omega
 have hpb:Bx l.xs=false:=by
  unfold Bx;rw[decide_eq_false (by omega),Agy,AgE,Aff];intro x hx;obtain⟨j,hj,rfl⟩:=Afz hx;exact hpf j hj
 refine Abi<|Sr<|Ai Ag<|Abh<|WP.block ?_;refine Abx (σ:=Nat) (fun k=>[(0,l.val),(1,f.val),(6,.int .i64 k)]) (fun k w=>Inv B B.h [] w∧k≤f.xs.length∧∀j,j<k→∀hj:j<f.xs.length,factFine l.xs f.xs[j]=true∧(0<j→Ah f.xs[j-1]<Ah f.xs[j])) (fun k=>f.xs.length-k)
  ⟨0,⟨rfl,rfl,rfl,trivial⟩,I,Afa _,fun j hj=>by omega⟩ ?_
 rintro k e w ⟨I,hk,hn⟩;refine Abi<|Sr<|Ai Mv<|As0 Mv<|Ai (AbA Ah8 rfl)<|Ad (AbC rfl rfl)<|Abh ?_;refine Abl rfl (fun h=>?_) (fun h=>?_)
 ·have hk':k<f.xs.length:=by omega
  have E1:=hf.at hk';cases hff:factFine l.xs f.xs[k]
  ·refine Abk<|Abi<|WP.block<|Abi<|AbD AC I (by kernel_rfl)<|Qs (fun w I=>Mv)<|Qs (fun w I=>Mv)<|Qi (fun w I=>Mv)<|Qp (fun w I=>Ix E1 Ah8 Aih rfl rfl)<|Qz (fun w I=>Abn AH rfl (I.rd (E1.rd.part 0 4)) rfl rfl)<|Am.c (fun w I=>AbO I call112 (GQ _ I.j6 l hl _) rfl)<|QT (fun w I=>Y.b (Y.not rfl) ((by rw[hff];rfl)))<|Qb (fun w I=>Mv)<|Abv rfl<|Abv rfl<|Abv rfl<|Abv rfl<|Abv rfl<|Abv rfl<|Abv rfl<|Abv rfl<|Abv rfl<|Abv rfl<|Abv rfl<|Abv rfl<|Abv rfl<|Abv rfl<|Abv rfl<|Abv rfl<|Qb (fun w I=>Abo rfl rfl)<|AbH fun w I=>Abw rfl<|Sr<|Ai Ag<|Abh<|Wr ?_;exact Rm (v:=.int .i64 _) rfl rfl I (by simp only[tup,checkFacts,hpb,F6 hk' (Or.inl hff)];rfl)
  by_cases h0:0<(k:Int)
  ·have E0:=hf.at (i:=k-1) (by omega);have p0:=By hlen (hn (k-1) (by omega) (by omega)).1;have p1:=By hlen hff;refine Abk<|Abi<|WP.block<|Abi<|AbD AC I (by kernel_rfl)<|Qs (fun w I=>Mv)<|Qs (fun w I=>Mv)<|Qi (fun w I=>Mv)<|Qp (fun w I=>Ix E1 Ah8 Aih rfl rfl)<|Qz (fun w I=>Abn AH rfl (I.rd (E1.rd.part 0 4)) rfl rfl)<|Am.c (fun w I=>AbO I call112 (GQ _ I.j6 l hl _) rfl)<|QF (fun w I=>Y.b (Y.not rfl) ((by rw[hff];rfl)))<|Qb (fun w I=>Mv)<|Hi (fun w I=>Mv)<|HT (fun w I=>Abs (AbL rfl rfl) (h0))<|Hb (fun w I=>Mv)<|Hs (fun w I=>Mv)<|Hi (fun w I=>Mv)<|Hi (fun w I=>AcA rfl rfl ⟨by omega,by omega⟩)<|Hp (fun w I=>AbJ E0 Ah8 Aih rfl rfl (by omega) (by omega))<|Hz (fun w I=>Abn AH rfl (I.rd (E0.rd.part 0 4)) rfl rfl)<|Acj rfl (fun w I=>AbO I call113 (BW _ I.j6 _ p0) rfl)<|Hs (fun w I=>Mv)<|Hi (fun w I=>Mv)<|Hp (fun w I=>Ix E1 Ah8 Aih rfl rfl)<|Hz (fun w I=>Abn AH rfl (I.rd (E1.rd.part 0 4)) rfl rfl)<|Acj rfl (fun w I=>AbO I call113 (BW _ I.j6 _ p1) rfl)<|Hd (fun w I=>AbZ rfl rfl)<|Hb (fun w I=>Abo rfl rfl)<|Qb (fun w I=>Abp rfl rfl)<|AbH fun w I=>?_;refine Abl rfl (fun h6=>?_) (fun h6=>?_)
   ·refine Sr<|Ai Ag<|Abh<|Wr ?_;exact Rm (v:=.int .i64 _) rfl rfl I (by simp only[tup,checkFacts,hpb,F6 hk' (Or.inr ⟨by omega,fun hlt=>by omega⟩)];rfl)
   refine Abk<|Abg<|Ai Mv<|Ai (Dd rfl rfl)<|Ai Ag<|Abh ?_;exact⟨k+1,⟨⟨rfl,rfl,rfl,trivial⟩,I,by omega,fun j hj hj'=>by
    rcases Afd.1 hj with h'|rfl
    ·exact hn j h' hj'
    ·exact⟨hff,fun _=>by omega⟩⟩,by omega⟩
  ·refine Abk<|Abi<|WP.block<|Abi<|AbD AC I (by kernel_rfl)<|Qs (fun w I=>Mv)<|Qs (fun w I=>Mv)<|Qi (fun w I=>Mv)<|Qp (fun w I=>Ix E1 Ah8 Aih rfl rfl)<|Qz (fun w I=>Abn AH rfl (I.rd (E1.rd.part 0 4)) rfl rfl)<|Am.c (fun w I=>AbO I call112 (GQ _ I.j6 l hl _) rfl)<|QF (fun w I=>Y.b (Y.not rfl) ((by rw[hff];rfl)))<|Qb (fun w I=>Mv)<|Hi (fun w I=>Mv)<|HF (fun w I=>Abt (AbL rfl rfl) (h0))<|Hb (fun w I=>Mv)<|Abv rfl<|Abv rfl<|Abv rfl<|Abv rfl<|Abv rfl<|Abv rfl<|Abv rfl<|Abv rfl<|Abv rfl<|Abv rfl<|Abv rfl<|Abv rfl<|Hb (fun w I=>Abp rfl rfl)<|Qb (fun w I=>Abp rfl rfl)<|AbH fun w I=>Abq rfl<|Abk<|Abg<|Ai Mv<|Ai (Dd rfl rfl)<|Ai Ag<|Abh ?_;exact⟨k+1,⟨⟨rfl,rfl,rfl,trivial⟩,I,by omega,fun j hj hj'=>by
    rcases Afd.1 hj with h'|rfl
    ·exact hn j h' hj'
    ·exact⟨hff,fun h2=>by omega⟩⟩,by omega⟩
 refine Abz<|Sr<|Ai Ag<|Abh<|Wr ?_;exact Rm (v:=.int .i64 _) rfl rfl I (by simp only[tup,checkFacts,hpb,JZ fun j hj=>hn j (by omega) hj];rfl)
end
section
set_option linter.unusedSimpArgs false
def IA(l:List Prd)(x:Fct):Atm:=⟨x.pred,⟨none,0,[⟨false,x.a⟩,⟨false,x.b⟩].take (Al l x.pred).arity.toNat⟩⟩
def CF(l:List Prd)(x:Fct):Bs:=A0 l (IA l x)++(if (Al l x.pred).kind≠0 then [32,61,32]++dgL x.v.toNat else [])
def Xz{α:Type}(k:Nat)(enc:α→List Value)(xs:List α):Sp:=fun u h=>∃s:Sl α,u=s.val∧s.xs=xs∧s.Is k enc h∧s.at_=some ⟨s.blk,s.off,none⟩∧s.xs.length≤s.cap
theorem Xz.mono{α:Type}{k:Nat}{enc:α→List Value}{xs:List α}:Bt (Xz k enc xs):=fun _ _ _ hl ⟨s,a,b,c,d⟩=>⟨s,a,b,c.le hl,d⟩
structure Ze(l:List Prd)(x:Fct):Prop where
 pred:0≤x.pred∧x.pred<l.length
 a:0≤x.a∧x.a≤4
 b:0≤x.b∧x.b≤4
 v:0≤x.v∧x.v≤15
 fine:AE (Al l x.pred)=true
theorem ZL{l:List Prd}{f:List Fct}(fo:FOk l f){x:Fct}(hx:x∈f):Ze l x:=by
 have h:=fo.fine x hx;unfold factFine at h;simp only[Afn,decide_eq_true_eq] at h;obtain⟨⟨⟨⟨⟨h1,h2⟩,h3⟩,_⟩,_⟩,h6⟩:=h;unfold within at h1 h2 h3;have hp:0≤x.pred∧x.pred<l.length:=by omega
 refine⟨hp,by omega,by omega,?_,fo.preds _ (Ba hp)⟩;unfold checkVal at h6;split at h6
 ·cases h6
 ·split at h6
  ·cases h6
  ·omega
theorem Ze.aok{l:List Prd}{x:Fct}(r:Ze l x):AOk l (IA l x):=by
 have hf:=r.fine;unfold AE at hf;have hf:=of_decide_eq_true hf;refine⟨r.pred,?_,?_,?_⟩
 ·simp only[IA,Afj,Ae6,Afc];omega
 ·unfold B9;rw[if_pos];refine Aff.2 fun t ht=>?_;have ht:=AfX ht;simp only[Afq,Af8,or_false] at ht;unfold termOk;rcases ht with rfl|rfl
  ·exact decide_eq_true r.a
  ·exact decide_eq_true r.b
 ·simp only[IA,Afj,Ae6,Afc];omega
theorem PY{l:List Prd}{a c:Atm}(h:a.er=c.er):A0 l a=A0 l c:=by
 have h1:a.pred=c.pred:=by have:=congrArg Atm.pred h;exact this
 have h2:a.args.xs=c.args.xs:=by have:=congrArg (fun z=>z.args.xs) h;exact this
 unfold A0;rw[h1,h2]
theorem AOk.er{l:List Prd}{a c:Atm}(h:a.er=c.er)(o:AOk l c):AOk l a:=by
 have h1:a.pred=c.pred:=by have:=congrArg Atm.pred h;exact this
 have h2:a.args.xs=c.args.xs:=by have:=congrArg (fun z=>z.args.xs) h;exact this
 exact⟨by rw[h1];exact o.pred,by rw[h2];exact o.len,by rw[h2];exact o.err,by rw[h1,h2];exact o.arity⟩
theorem Yk(B:Aq)(hB:B.ok)(l:Sl Prd)(hL:HQ l B.h)(x:Fct)(r:Ze l.xs x)(hnm:(Al l.xs x.pred).name.size≤8):Fn prog 51 [l.val,x.val] B (fun v _=>v=.string (mk (CF l.xs x))):=by
 have Ep:=hL.el.el (Cs r.pred.1 r.pred.2);have ao:=r.aok;have hal:=JO ao;have hnm2:(Al l.xs (IA l.xs x).pred).name.size≤8:=hnm;obtain⟨A,hA⟩:∃A,A0 l.xs (IA l.xs x)=A:=⟨_,rfl⟩;have hfi:=r.fine;obtain⟨⟨nm,ar,kd⟩,hP⟩:∃y,Al l.xs x.pred=y:=⟨_,rfl⟩;have hF:CF l.xs x=A++(if kd≠0 then [32,61,32]++dgL x.v.toNat else []):=by unfold CF;rw[hA,hP]
 rw[hP] at Ep hfi hnm;unfold AE at hfi;obtain⟨a0,a2,d0,d3⟩:=of_decide_eq_true hfi;dsimp only at a0 a2 d0 d3 hnm;obtain⟨na,rfl⟩:∃n:Nat,ar=n:=⟨ar.toNat,by omega⟩;have hE:(IA l.xs x).er=⟨x.pred,⟨none,0,[⟨false,x.a⟩,⟨false,x.b⟩].take na⟩⟩:=by unfold IA Atm.er;rw[hP];rfl
 rw[hA] at hal;obtain⟨nv,hnv⟩:∃n:Nat,x.v=n:=⟨x.v.toNat,by have:=r.v;omega⟩;have dl:=FE (n:=nv) (by have:=r.v;omega);refine Fo hB func51 rfl ntmps51 fun e I=>Sr<|Abj (O.box (v:=.agg #[_,_,_,_]) I rfl rfl fun b3 w I=>At0 Ag<|Abh<|Sr<|As0 Mv<|Ap (Abu Bu rfl)<|Ai (Ld I An 0 0 1 rfl rfl rfl)<|Ap (AbJ Ep Aia Aim rfl rfl r.pred.1 rfl)<|Ay (Abn KA rfl (I.rd (Ep.rd.part 0 3)) rfl rfl)<|Abj (O.alloc I AiB rfl fun b5 w I=>Abj (Sy I KA 0 rfl rfl rfl rfl fun w I=>Abh<|Abi<|AbM AC I 16 (by kernel_rfl)<|Fs (fun _ w us hl I=>Mv)<|Fp (fun _ w us hl I=>Abu Bu rfl)<|Fi (fun _ w us hl I=>Ld I An 1 0 1 rfl rfl rfl)<|Fp (fun _ w us hl I=>Abr BG rfl)<|Fi (fun _ w us hl I=>Ld I An 1 1 1 rfl rfl rfl)<|Acr (v:=.agg #[.bool _,.int .i64 _]) (fun _=>Aj _) (fun _ w us hl I=>Y.build Fm Aig rfl rfl)<|Fp (fun _ w us hl I=>Abr B8 rfl)<|Fi (fun _ w us hl I=>Ld I An 1 2 1 rfl rfl rfl)<|Acr (v:=.agg #[.bool _,.int .i64 _]) (fun _=>Aj _) (fun _ w us hl I=>Y.build Fm Aig rfl rfl) ?_)));refine AbR (Φ:=Xz 2 Trm.enc [⟨false,x.a⟩,⟨false,x.b⟩]) Xz.mono (fun _=>Aj _) ?_ ?_
 ·intro _ w hl I;exact AbY (xs:=[⟨false,x.a⟩,⟨false,x.b⟩]) (enc:=Trm.enc) I Aid Aik Aig rfl (Nb rfl) rfl rfl (by decide) (fun _=>rfl) (fun b h w I le sl=>⟨h,le,I,⟨⟨some ⟨b,0,none⟩,_,[⟨false,x.a⟩,⟨false,x.b⟩]⟩,rfl,rfl,⟨sl,by simp⟩,rfl,Afg _⟩⟩)
 refine Fp (fun _ w us hl I=>Abr Bp rfl)<|Fi (fun _ w us hl I=>Ld I An 0 1 1 rfl rfl rfl) ?_;refine AbR (Φ:=SlS 2 Trm.enc ([⟨false,x.a⟩,⟨false,x.b⟩].take na)) (SlS.mono) (fun _=>Aj _) ?_ ?_
 ·intro _ w hl I u21 q21;obtain⟨s,rfl,es,is,at_,cp⟩:=q21 rfl;exact AcJ I (Y.cut (s:=s) (l:=0) (h:=na) Aid Aik at_ cp rfl (.inl ⟨rfl,rfl⟩) (.inr ⟨_,_,rfl,rfl⟩) (Afa _) (by rw[es];simp only[Ae6,Afc];omega)) ⟨s.cut 2 0 na,rfl,by rw[←es];rfl,is.cut cp⟩
 refine AbR (Φ:=Y8 x.pred ([⟨false,x.a⟩,⟨false,x.b⟩].take na)) (Y8.mono) (fun _=>Aj _) ?_ ?_
 ·intro _ w hl I u21 q21 u24 q24;obtain⟨s,rfl,es,is⟩:=q24 rfl;exact AcJ I (Y.build M4 Ain rfl rfl) ⟨⟨x.pred,s⟩,rfl,by show(⟨x.pred,⟨none,0,s.xs⟩⟩:Atm)=_;rw[es],is⟩
 refine AbR (Φ:=EqV (.string (mk A))) EqV.mono (fun _=>Aj _) ?_ ?_
 ·intro _ w hl I u21 q21 u24 q24 u25 q25;obtain⟨a,rfl,ea,ia⟩:=q25 rfl;try unfold CT
  refine AbE I call25 (Hj _ I.j6 l (hL.le hl) a ia (AOk.er (ea.trans hE.symm) ao) (by rw[show a.pred=x.pred by have:=congrArg Atm.pred ea;exact this,hP];dsimp only;omega)) rfl ?_;rintro _ h2 w I hl' rfl;exact⟨_,hl',I,by rw[←hA];exact congrArg (fun z=>Value.string (mk z)) (PY (ea.trans hE.symm))⟩
 refine AbR (Φ:=EqV (.string (mk A))) EqV.mono (fun _=>Aj _) ?_ ?_
 ·intro _ w hl I u21 q21 u24 q24 u25 q25 u26 q26;obtain⟨⟩:=q26 rfl;exact AcJ I Ag (rfl)
 refine AbX fun _ w hl I u21 q21 u24 q24 u25 q25 u26 q26 u6 q6=>Abh ?_;obtain rfl:u6=.string (mk A):=q6 rfl;refine Abi<|Sr<|Ap (Abr A3 rfl)<|Ai (Ld I An 0 2 1 rfl rfl rfl)<|Ad (AbK rfl rfl)<|Abh ?_;refine Abl rfl (fun h29=>?_) (fun h29=>?_)
 ·rw[if_pos h29,hnv] at hF;refine Abg<|At0 Mv<|Ap (Abr BL rfl)<|Ai (Ld I An 1 3 1 rfl rfl rfl)<|Abj (Abm I call24 (hnv▸GL _ I.j6 nv (by have:=r.v;omega)) rfl fun w I=>At0 (AbP rfl rfl ((by simp only[Afb,bsz,Afx,Ae6,Afc,Ae2];omega)))<|At0 (AbP rfl rfl (by simp only[Afb,Ar];show _+(3+_)≤_;omega))<|At0 Ag<|Abh<|Sr<|At0 Mv<|At0 Ag<|Abh<|Wr ?_);exact Rm (v:=.string _) rfl rfl I (by simp only[tup];rw[hF];exact congrArg Value.string (Cb.1 (by simp only[DO,BD,txl,Afe,Afs,AfH,AfC])))
 ·rw[if_neg h29,Aft] at hF;refine Abk<|Sr<|At0 Mv<|At0 Ag<|Abh<|Wr ?_;exact Rm (v:=.string _) rfl rfl I (by simp only[tup];rw[hF])
end
section
theorem Li(a b:ByteArray):(a.toList == b.toList)=decide (a=b):=by rw[←beq_toListBytes,Fk]
theorem Rr{l:List Prd}{i k:Nat}(hk:k<l.length)(hi:i<k)(e:l[i].name=l[k].name):G8 l=true:=by
 unfold G8;rw[AfG];refine⟨k,Af0.2 hk,?_⟩;unfold Nh;rw[AfG];refine⟨l[i],List.mem_iff_getElem.2 ⟨i,by simp;omega,by simp⟩,?_⟩;simp[Ae3,hk,e]
theorem OV{l:List Prd}(h:∀k,∀hk:k<l.length,∀i,∀hi:i<k,l[i].name≠l[k].name):G8 l=false:=by
 unfold G8;rw[Agb];intro k hk;have hk:=Af0.1 hk;unfold Nh;rw[Ag3,Agb];intro y hy;obtain⟨i,hi,rfl⟩:=Afz hy;have hi':i<k:=by simp at hi;omega
 have:=h k hk i hi';simp only[AhN,Ae3,Ae4 hk,Aga,decide_eq_true_eq];exact this
theorem J0{α:Type}{l:List α}{q:α→Bool}(h:∀j,j<l.length→∀hj:j<l.length,q l[j]=false):l.any q=false:=by
 rw[Agb];intro x hx;obtain⟨j,hj,rfl⟩:=Afz hx;rw[h j hj hj];decide
theorem Tw{α:Type}{l:List α}{q:α→Bool}{k:Nat}(hk:k<l.length)(h:q l[k]=true):l.any q=true:=AfG.2 ⟨_,Ae5 hk,h⟩
theorem EU{a lo hi:Int}:(!decide (within a lo hi))=true↔a<lo∨hi<a:=by
 simp only[AgB,decide_eq_false_iff_not];unfold within;omega
theorem De(B:Aq)(hB:B.ok)(p:Prg)(hp:p.In B.h)(hnm:p.Nm):Fn prog 16 [p.val] B (fun v _=>v=.int .i64 (Ac p)):=by
 have hsp:=hp.preds.small;have hsr:=hp.rules.is.small;refine Fo hB func16 rfl ntmps16 fun e I=>Sr<|Abj (O.box (v:=.agg #[_,_]) I rfl rfl fun b1 w I=>Ai Ag<|Abh<|Abi<|Abi ?_);by_cases o0:5<(p.preds.xs.length:Int)
 ·refine Abg<|Ap (Abu At rfl)<|As0 (Ld I A7 0 0 1 rfl rfl rfl)<|Ai (AbA Aia rfl)<|AT (Abs (AbL rfl rfl) (o0))<|Ab Mv<|Gg<|Gg<|Gg<|Gg<|Ab (Abo rfl rfl)<|Abh<|Abw rfl<|Sr<|Ai Ag<|Abh<|Wr ?_;exact Rm (v:=.int .i64 _) rfl rfl I (by simp only[tup,Ac];rw[if_pos (by omega)])
 by_cases o1:8<(p.rules.xs.length:Int)
 ·refine Abg<|Ap (Abu At rfl)<|As0 (Ld I A7 0 0 1 rfl rfl rfl)<|Ai (AbA Aia rfl)<|AF (Abt (AbL rfl rfl) (o0))<|Ab Mv<|Gp (Abr AU rfl)<|Gs (Ld I Cc 0 1 1 rfl rfl rfl)<|Gi (AbA Aic rfl)<|GT (Abs (AbL rfl rfl) (o1))<|Ab (Abp rfl rfl)<|Abh<|Abw rfl<|Sr<|Ai Ag<|Abh<|Wr ?_;exact Rm (v:=.int .i64 _) rfl rfl I (by simp only[tup,Ac];rw[if_pos (by omega)])
 refine Abg<|Ap (Abu At rfl)<|As0 (Ld I A7 0 0 1 rfl rfl rfl)<|Ai (AbA Aia rfl)<|AF (Abt (AbL rfl rfl) (o0))<|Ab Mv<|Gp (Abr AU rfl)<|Gs (Ld I Cc 0 1 1 rfl rfl rfl)<|Gi (AbA Aic rfl)<|GF (Abt (AbL rfl rfl) (o1))<|Ab (Abp rfl rfl)<|Abh<|Abq rfl ?_;have c0:¬(5<p.preds.xs.length∨8<p.rules.xs.length):=by omega
 refine Abk<|Abi<|Sr<|Ai Ag<|Abh ?_;refine Ack (σ:=Unit) (fun _=>[(1,Pt b1)]) (fun _ w=>Inv B B.h [box b1 p.enc 25] w∧(p.preds.xs.any fun x=>!isName x.name)=false) ?_ ?_
 ·refine WP.block ?_;refine Abx (σ:=Nat) (fun k=>[(1,Pt b1),(3,.int .i64 k)]) (fun k w=>Inv B B.h [box b1 p.enc 25] w∧k≤p.preds.xs.length∧∀j,j<k→∀hj:j<p.preds.xs.length,(!isName p.preds.xs[j].name)=false) (fun k=>p.preds.xs.length-k)
   ⟨0,⟨rfl,rfl,trivial⟩,I,Afa _,fun j hj=>by omega⟩ ?_
  rintro k e w ⟨I,hk,hn⟩;refine Abi<|Sr<|Ai Mv<|Ap (Abu At rfl)<|As0 (Ld I A7 0 0 1 rfl rfl rfl)<|Ai (AbA Aia rfl)<|Ad (AbC rfl rfl)<|Abh ?_;refine Abl rfl (fun h=>?_) (fun h=>?_)
  ·have hk':k<p.preds.xs.length:=by omega
   have E1:=hp.preds.at hk';refine Abk<|Abi<|WP.block<|Sr<|Ap (Abu At rfl)<|As0 (Ld I A7 0 0 1 rfl rfl rfl)<|Ai Mv<|Ap (Ix E1 Aia Aim rfl rfl)<|Ap (Abu Dk rfl)<|At0 (Abn HW rfl (I.rd (E1.rd.part 0 1)) rfl rfl)<|Abj (Abm I call41 (Td _ I.j6 p.preds.xs[k].name (hnm _ (Ae5 hk'))) rfl fun w I=>Ab (Y.not rfl)<|Abh ?_);refine AbG rfl (fun hb=>?_) (fun hb=>?_)
   ·refine Sr<|Ai Ag<|Abh<|Wr ?_;exact Rm (v:=.int .i64 _) rfl rfl I (by simp only[tup,Ac];rw[if_neg c0,if_pos (Tw hk' hb)])
   refine Abk<|Abg<|Ai Mv<|Ai (Dd rfl rfl)<|Ai Ag<|Abh ?_;exact⟨k+1,⟨⟨rfl,rfl,trivial⟩,I,hk',fun j hj hj'=>by
    rcases Afd.1 hj with h'|rfl
    ·exact hn j h' hj'
    ·exact hb⟩,by omega⟩
  exact Abz<|⟨(),⟨rfl,trivial⟩,I,J0 (fun j hj hj'=>hn j (by omega) hj')⟩
 rintro _ e w ⟨I,c1⟩;refine Abi<|Sr<|Ai Ag<|Abh ?_;refine Ack (σ:=Unit) (fun _=>[(1,Pt b1)]) (fun _ w=>Inv B B.h [box b1 p.enc 25] w∧G8 p.preds.xs=false) ?_ ?_
 ·refine WP.block ?_;refine Abx (σ:=Nat) (fun k=>[(1,Pt b1),(4,.int .i64 k)]) (fun k w=>Inv B B.h [box b1 p.enc 25] w∧k≤p.preds.xs.length∧∀j,j<k→∀hj:j<p.preds.xs.length,∀i,∀hi:i<j,p.preds.xs[i].name≠p.preds.xs[j].name) (fun k=>p.preds.xs.length-k)
   ⟨0,⟨rfl,rfl,trivial⟩,I,Afa _,fun j hj=>by omega⟩ ?_
  rintro k e w ⟨I,hk,hn⟩;refine Abi<|Sr<|Ai Mv<|Ap (Abu At rfl)<|As0 (Ld I A7 0 0 1 rfl rfl rfl)<|Ai (AbA Aia rfl)<|Ad (AbC rfl rfl)<|Abh ?_;refine Abl rfl (fun h=>?_) (fun h=>?_)
  ·have hk':k<p.preds.xs.length:=by omega
   have E1:=hp.preds.at hk';refine Abk<|Abi<|WP.block<|Sr<|Ai Ag<|Abh<|WP.block ?_;refine Abx (σ:=Nat) (fun i=>[(1,Pt b1),(4,.int .i64 k),(5,.int .i64 i)]) (fun i w=>Inv B B.h [box b1 p.enc 25] w∧i≤k∧∀j,∀hj:j<i,∀hj':j<p.preds.xs.length,p.preds.xs[j].name≠p.preds.xs[k].name) (fun i=>k-i)
    ⟨0,⟨rfl,rfl,rfl,trivial⟩,I,Afa _,fun j hj=>by omega⟩ ?_
   rintro i e w ⟨I,hi,hni⟩;refine Abi<|Sr<|Ai Mv<|Ai Mv<|Ad (AbC rfl rfl)<|Abh ?_;refine Abl rfl (fun h12=>?_) (fun h12=>?_)
   ·have hi':i<p.preds.xs.length:=by omega
    have E2:=hp.preds.at hi';refine Abk<|Abi<|WP.block<|Abi<|AbD AC I (by kernel_rfl)<|Qp (fun w I=>Abu At rfl)<|Qs (fun w I=>Ld I A7 0 0 1 rfl rfl rfl)<|Qi (fun w I=>Mv)<|Qp (fun w I=>Ix E2 Aia Aim rfl rfl)<|Qp (fun w I=>Abu Dk rfl)<|Qt (fun w I=>Abn HW rfl (I.rd (E2.rd.part 0 1)) rfl rfl)<|Qp (fun w I=>Abu At rfl)<|Qs (fun w I=>Ld I A7 0 0 1 rfl rfl rfl)<|Qi (fun w I=>Mv)<|Qp (fun w I=>Ix E1 Aia Aim rfl rfl)<|Qp (fun w I=>Abu Dk rfl)<|Qt (fun w I=>Abn HW rfl (I.rd (E1.rd.part 0 1)) rfl rfl)<|Qb (fun w I=>Ab6 rfl rfl)<|AbH fun w I=>?_;refine AbG rfl (fun hb=>?_) (fun hb=>?_)
    ·refine Sr<|Ai Ag<|Abh<|Wr ?_;exact Rm (v:=.int .i64 _) rfl rfl I (by simp only[tup,Ac];rw[if_neg c0,if_neg (by rw[c1];decide),if_pos (Rr hk' (show i<k by omega) (by rw[Li] at hb;exact of_decide_eq_true hb))])
    refine Abk<|Abg<|Ai Mv<|Ai (Dd rfl rfl)<|Ai Ag<|Abh ?_;exact⟨i+1,⟨⟨rfl,rfl,rfl,trivial⟩,I,by omega,fun j hj hj'=>by
     rcases Afd.1 hj with h'|rfl
     ·exact hni j h' hj'
     ·rw[Li] at hb;exact of_decide_eq_false hb⟩,by omega⟩
   refine Abz<|Abg<|Ai Mv<|Ai (Dd rfl rfl)<|Ai Ag<|Abh ?_;exact⟨k+1,⟨⟨rfl,rfl,trivial⟩,I,hk',fun j hj hj'=>by
    rcases Afd.1 hj with h'|rfl
    ·exact hn j h' hj'
    ·exact fun q hq=>hni q (by omega) (by omega)⟩,by omega⟩
  exact Abz<|⟨(),⟨rfl,trivial⟩,I,OV (fun j hj=>hn j (by omega) hj)⟩
 rintro _ e w ⟨I,c2⟩;refine Abi<|Sr<|Ai Ag<|Abh ?_;refine Ack (σ:=Unit) (fun _=>[(1,Pt b1)]) (fun _ w=>Inv B B.h [box b1 p.enc 25] w∧p.preds.xs.any CA=false) ?_ ?_
 ·refine WP.block ?_;refine Abx (σ:=Nat) (fun k=>[(1,Pt b1),(6,.int .i64 k)]) (fun k w=>Inv B B.h [box b1 p.enc 25] w∧k≤p.preds.xs.length∧∀j,j<k→∀hj:j<p.preds.xs.length,CA p.preds.xs[j]=false) (fun k=>p.preds.xs.length-k)
   ⟨0,⟨rfl,rfl,trivial⟩,I,Afa _,fun j hj=>by omega⟩ ?_
  rintro k e w ⟨I,hk,hn⟩;refine Abi<|Sr<|Ai Mv<|Ap (Abu At rfl)<|As0 (Ld I A7 0 0 1 rfl rfl rfl)<|Ai (AbA Aia rfl)<|Ad (AbC rfl rfl)<|Abh ?_;refine Abl rfl (fun h=>?_) (fun h=>?_)
  ·have hk':k<p.preds.xs.length:=by omega
   have E1:=hp.preds.at hk';refine Abk<|Abi<|WP.block<|Sr<|Ap (Abu At rfl)<|As0 (Ld I A7 0 0 1 rfl rfl rfl)<|Ai Mv<|Ap (Ix E1 Aia Aim rfl rfl)<|Ap (Abr Bp rfl)<|Ai (Abn An rfl (I.rd (E1.rd.part 1 1)) rfl rfl)<|Abj (Abm I call42 (A2 _ I.j6 _ _ _) rfl fun w I=>Ab (Y.not rfl)<|Abh ?_);refine AbG rfl (fun hb=>?_) (fun hb=>?_)
   ·refine Sr<|Ai Ag<|Abh<|Wr ?_;exact Rm (v:=.int .i64 _) rfl rfl I (by simp only[tup,Ac];rw[if_neg c0,if_neg (by rw[c1];decide),if_neg (by rw[c2];decide),if_pos (Tw hk' (by unfold CA;exact decide_eq_true (EU.1 hb)))])
   refine Abk<|Abg<|Ai Mv<|Ai (Dd rfl rfl)<|Ai Ag<|Abh ?_;exact⟨k+1,⟨⟨rfl,rfl,trivial⟩,I,hk',fun j hj hj'=>by
    rcases Afd.1 hj with h'|rfl
    ·exact hn j h' hj'
    ·unfold CA;exact decide_eq_false (fun hx=>by rw[EU.2 hx] at hb;cases hb)⟩,by omega⟩
  exact Abz<|⟨(),⟨rfl,trivial⟩,I,J0 (fun j hj hj'=>hn j (by omega) hj')⟩
 rintro _ e w ⟨I,c3⟩;refine Abi<|Sr<|Ai Ag<|Abh ?_;refine Ack (σ:=Unit) (fun _=>[(1,Pt b1)]) (fun _ w=>Inv B B.h [box b1 p.enc 25] w∧p.preds.xs.any badKind=false) ?_ ?_
 ·refine WP.block ?_;refine Abx (σ:=Nat) (fun k=>[(1,Pt b1),(7,.int .i64 k)]) (fun k w=>Inv B B.h [box b1 p.enc 25] w∧k≤p.preds.xs.length∧∀j,j<k→∀hj:j<p.preds.xs.length,badKind p.preds.xs[j]=false) (fun k=>p.preds.xs.length-k)
   ⟨0,⟨rfl,rfl,trivial⟩,I,Afa _,fun j hj=>by omega⟩ ?_
  rintro k e w ⟨I,hk,hn⟩;refine Abi<|Sr<|Ai Mv<|Ap (Abu At rfl)<|As0 (Ld I A7 0 0 1 rfl rfl rfl)<|Ai (AbA Aia rfl)<|Ad (AbC rfl rfl)<|Abh ?_;refine Abl rfl (fun h=>?_) (fun h=>?_)
  ·have hk':k<p.preds.xs.length:=by omega
   have E1:=hp.preds.at hk';refine Abk<|Abi<|WP.block<|Sr<|Ap (Abu At rfl)<|As0 (Ld I A7 0 0 1 rfl rfl rfl)<|Ai Mv<|Ap (Ix E1 Aia Aim rfl rfl)<|Ap (Abr A3 rfl)<|Ai (Abn An rfl (I.rd (E1.rd.part 2 1)) rfl rfl)<|Abj (Abm I call42 (A2 _ I.j6 _ _ _) rfl fun w I=>Ab (Y.not rfl)<|Abh ?_);refine AbG rfl (fun hb=>?_) (fun hb=>?_)
   ·refine Sr<|Ai Ag<|Abh<|Wr ?_;exact Rm (v:=.int .i64 _) rfl rfl I (by simp only[tup,Ac];rw[if_neg c0,if_neg (by rw[c1];decide),if_neg (by rw[c2];decide),if_neg (by rw[c3];decide),if_pos (Tw hk' (by unfold badKind;exact decide_eq_true (EU.1 hb)))])
   refine Abk<|Abg<|Ai Mv<|Ai (Dd rfl rfl)<|Ai Ag<|Abh ?_;exact⟨k+1,⟨⟨rfl,rfl,trivial⟩,I,hk',fun j hj hj'=>by
    rcases Afd.1 hj with h'|rfl
    ·exact hn j h' hj'
    ·unfold badKind;exact decide_eq_false (fun hx=>by rw[EU.2 hx] at hb;cases hb)⟩,by omega⟩
  exact Abz<|⟨(),⟨rfl,trivial⟩,I,J0 (fun j hj hj'=>hn j (by omega) hj')⟩
 rintro _ e w ⟨I,c4⟩;have e4:Ac p=if rulesErr p.preds.xs p.rules.xs≠0 then rulesErr p.preds.xs p.rules.xs else @ite Int (∃M,Sol (AX p.rules.xs) p.preds.xs.length M) (Classical.propDecidable _) 0 8:=by
  unfold Ac;rw[if_neg c0,if_neg (by rw[c1];decide),if_neg (by rw[c2];decide),if_neg (by rw[c3];decide),if_neg (by rw[c4];decide)]
 refine Abi<|Sr<|Ai Ag<|Abh<|WP.block ?_;refine Abx (σ:=Nat) (fun k=>[(1,Pt b1),(8,.int .i64 k)]) (fun k w=>Inv B B.h [box b1 p.enc 25] w∧k≤p.rules.xs.length∧∀j,j<k→∀hj:j<p.rules.xs.length,checkRule p.preds.xs p.rules.xs[j]=0) (fun k=>p.rules.xs.length-k)
  ⟨0,⟨rfl,rfl,trivial⟩,I,Afa _,fun j hj=>by omega⟩ ?_
 rintro k e w ⟨I,hk,hn⟩;refine Abi<|Sr<|Ai Mv<|Ap (Abr AU rfl)<|As0 (Ld I Cc 0 1 1 rfl rfl rfl)<|Ai (AbA Aic rfl)<|Ad (AbC rfl rfl)<|Abh ?_;refine Abl rfl (fun h=>?_) (fun h=>?_)
 ·have hk':k<p.rules.xs.length:=by omega
  have E1:=hp.rules.is.at hk';refine Abk<|Abi<|WP.block<|Abi<|AbD AC I (by kernel_rfl)<|Qp (fun w I=>Abu At rfl)<|Qs (fun w I=>Ld I A7 0 0 1 rfl rfl rfl)<|Qp (fun w I=>Abr AU rfl)<|Qs (fun w I=>Ld I Cc 0 1 1 rfl rfl rfl)<|Qi (fun w I=>Mv)<|Qp (fun w I=>Ix E1 Aic Aiv rfl rfl)<|AcB (v:=.agg #[_,_,_,_,_]) (fun w I=>Abn C0 rfl (I.rd (E1.rd.part 0 5)) rfl rfl)<|Am.c (fun w I=>AbO I call43 (NI _ I.j6 p.preds hp.preds p.rules.xs[k] (hp.rules.each _ (Ae5 hk'))) rfl)<|Qi (fun w I=>Ag)<|AbH fun w I=>Sr<|Ai Mv<|Ad (AbK rfl rfl)<|Abh ?_;refine Abl rfl (fun h17=>?_) (fun h17=>?_)
  ·refine Sr<|Ai Mv<|Ai Ag<|Abh<|Wr ?_;exact Rm (v:=.int .i64 _) rfl rfl I (by simp only[tup,e4];rw[Jv hk' hn h17,if_pos h17])
  refine Abk<|Abg<|Ai Mv<|Ai (Dd rfl rfl)<|Ai Ag<|Abh ?_;exact⟨k+1,⟨⟨rfl,rfl,trivial⟩,I,hk',fun j hj hj'=>by
   rcases Afd.1 hj with h'|rfl
   ·exact hn j h' hj'
   ·exact Afh.1 h17⟩,by omega⟩
 have hr0:rulesErr p.preds.xs p.rules.xs=0:=Bn.2 fun r hr=>by
  obtain⟨j,hj,rfl⟩:=Afz hr;exact hn j (by omega) hj
 have e5:Ac p=@ite Int (∃M,Sol (AX p.rules.xs) p.preds.xs.length M) (Classical.propDecidable _) 0 8:=by rw[e4,if_neg (by rw[hr0];decide)]
 refine Abz<|Abi<|Sr<|Ax (Ld I As 0 0 2 rfl rfl rfl)<|Abj (AbE I call44 (NA _ I.j6 p hp (Jw hr0) (by omega) (by omega) (fun r hr=>(DX (Bn.1 hr0 r hr)).2.1)) rfl ?_);rintro v112 h3 w I le3 hL;rcases hL with ⟨s,hS,hI,rfl⟩|⟨hno,rfl⟩
 ·refine Au Mv<|As0 (Y.extract rfl rfl)<|Ab (Y.extract rfl rfl)<|As0 Ag<|Ab Ag<|Abh<|Sr<|Ab Mv<|Ab (Y.not rfl)<|Abh<|Abq rfl<|Abk<|Sr<|Ai Ag<|Abh<|Wr ?_;exact Rm (v:=.int .i64 _) rfl rfl I (by simp only[tup,e5];rw[if_pos ⟨_,hS.sol⟩])
 ·refine Au Mv<|As0 (Y.extract rfl rfl)<|Ab (Y.extract rfl rfl)<|As0 Ag<|Ab Ag<|Abh<|Sr<|Ab Mv<|Ab (Y.not rfl)<|Abh<|Abw rfl<|Sr<|Ai Ag<|Abh<|Wr ?_;exact Rm (v:=.int .i64 _) rfl rfl I (by simp only[tup,e5];rw[if_neg (fun ⟨M,hM⟩=>hno M hM)])
end
section
def Aa7(p:Prg)(v:Value)(h:Ae):Prop:=
 (Ac p≠0∧v=.tuple #[.slice none 0 0,.int .i64 (Ac p)])∨(Ac p=0∧∃s:Sl Int,DF (AX p.rules.xs) p.preds.xs.length s.xs∧s.Is 1 KG h∧v=.tuple #[s.val,.int .i64 0])
theorem F7{p:Prg}(h:rulesErr p.preds.xs p.rules.xs=0):∀r∈p.rules.xs,0≤r.head.pred∧r.head.pred<p.preds.xs.length:=fun r hr=>ET (DX (Bn.1 h r hr)).1
theorem Hn(B:Aq)(hB:B.ok)(p:Prg)(hp:p.In B.h)(hnm:p.Nm):Fn prog 135 [p.val] B (fun v h=>Aa7 p v h):=by
 refine Fo hB func135 rfl ntmps135 fun e I=>Sr<|Abj (O.box (v:=.agg #[_,_]) I rfl rfl fun b1 w I=>As0 Ag<|Ai Ag<|Abh<|Abi<|Sr<|Ax (Ld I As 0 0 2 rfl rfl rfl)<|Abj (Abm I call22 (Hl _ I.j6 p hp hnm) rfl fun w I=>Ai Ag<|Abh<|Sr<|Ai Mv<|Ad (AbK rfl rfl)<|Abh ?_));refine Abl rfl (fun h=>?_) (fun h=>?_)
 ·refine Sr<|Ai Mv<|As0 Ag<|Ai Ag<|Abh<|Wr ?_;exact BH.mk (vs:=[.slice _ _ _,.int .i64 _]) rfl ⟨rfl,rfl,trivial⟩ I.j5 (.inl ⟨h,rfl⟩)
 have h0:=Afh.1 h;obtain⟨k1,k2,k3,M,hM⟩:=AB h0;refine Abk<|Sr<|Ax (Ld I As 0 0 2 rfl rfl rfl)<|Abj (AbE I call62 (Hk _ I.j6 p hp (Jw k3) k1) rfl ?_);rintro v14 h3 w I le3 hL;rcases hL with ⟨s,hS,hI,rfl⟩|⟨hno,rfl⟩;rotate_left;exact absurd hM (hno M);refine Au Mv<|As0 (Y.extract rfl rfl)<|Ab (Y.extract rfl rfl)<|As0 Ag<|Ab Ag<|Abh<|Sr<|As0 Mv<|As0 Ag<|Ai Ag<|Abh<|Wr ?_;exact BH.mk (vs:=[.slice _ _ _,.int .i64 _]) rfl ⟨rfl,rfl,trivial⟩ I.j5 (.inr ⟨h0,s,hS,hI,rfl⟩)
theorem C6(B:Aq)(hB:B.ok)(p:Prg)(hp:p.In B.h)(h0:Ac p=0):Fn prog 97 [p.val] B (fun v h=>∃s:Sl Int,DF (AX p.rules.xs) p.preds.xs.length s.xs∧s.Is 1 KG h∧v=s.val):=by
 obtain⟨k1,k2,k3,M,hM⟩:=AB h0;refine Fo hB func97 rfl ntmps97 fun e I=>Sr<|Abj (O.box (v:=.agg #[_,_]) I rfl rfl fun b1 w I=>As0 Ag<|Abh<|Sr<|Ax (Ld I As 0 0 2 rfl rfl rfl)<|Abj (AbE I call44 (NA _ I.j6 p hp (Jw k3) k1 k2 (fun r hr=>(DX (Bn.1 k3 r hr)).2.1)) rfl ?_));rintro v14 h3 w I le3 hL;rcases hL with ⟨s,hS,hI,rfl⟩|⟨hno,rfl⟩;rotate_left;exact absurd hM (hno M);refine Au Mv<|As0 (Y.extract rfl rfl)<|Ab (Y.extract rfl rfl)<|As0 Ag<|Ab Ag<|Abh<|Sr<|As0 Mv<|As0 Ag<|Abh<|Wr ?_;exact Rm (v:=.slice _ _ _) rfl rfl I (⟨s,hS,hI,rfl⟩)
end
section
theorem Tx{f:List Fct}{p:Int}{k:Nat}(hk:k<f.length)(h:∀j,j<k→∀hj:j<f.length,Ah f[j]≠p)(he:Ah f[k]=p):lkF f p=some f[k].v:=by
 have:f.find? (fun y=>decide (Ah y=p))=some f[k]:=Ahn.2 ⟨by simpa using he,k,hk,rfl,fun j hj=>by simpa using h j hj (by omega)⟩;simp only[lkF,this,Agf]
theorem Mi(B:Aq)(hB:B.ok)(f:Sl Fct)(hf:Cv f B.h)(hp:∀y∈f.xs,PF y)(x:Fct)(hx:PF x):Fn prog 151 [f.val,x.val] B (fun v _=>v=.tuple #[.int .i64 (findF f.xs x).1,.bool (findF f.xs x).2]):=by
 have hsf:=hf.small;refine Fo hB func151 rfl ntmps151 fun e I=>Sr<|Abj (O.box (v:=.agg #[_,_,_,_]) I rfl rfl fun b3 w I=>Ai Ag<|Ab Ag<|Abh<|Abi<|Sr<|Ai Ag<|Abh<|WP.block ?_);refine Abx (σ:=Nat) (fun k=>[(0,f.val),(3,Pt b3),(6,.int .i64 k)]) (fun k w=>Inv B B.h [box b3 x.enc 83] w∧k≤f.xs.length∧∀j,j<k→∀hj:j<f.xs.length,Ah f.xs[j]≠Ah x) (fun k=>f.xs.length-k)
  ⟨0,⟨rfl,rfl,rfl,trivial⟩,I,Afa _,fun j hj=>by omega⟩ ?_
 rintro k e w ⟨I,hk,hn⟩;refine Abi<|Sr<|Ai Mv<|As0 Mv<|Ai (AbA Ah8 rfl)<|Ad (AbC rfl rfl)<|Abh ?_;refine Abl rfl (fun h=>?_) (fun h=>?_)
 ·have hk':k<f.xs.length:=by omega
  have E1:=hf.at hk';refine Abk<|Abi<|WP.block<|Abi<|AbD AC I (by kernel_rfl)<|Qs (fun w I=>Mv)<|Qi (fun w I=>Mv)<|Qp (fun w I=>Ix E1 Ah8 Aih rfl rfl)<|Qz (fun w I=>Abn AH rfl (I.rd (E1.rd.part 0 4)) rfl rfl)<|Am.c (fun w I=>AbO I call113 (BW _ I.j6 _ (hp _ (Ae5 hk'))) rfl)<|Qz (fun w I=>Ld I AH 0 0 4 rfl rfl rfl)<|Am.c (fun w I=>AbO I call113 (BW _ I.j6 _ hx) rfl)<|Qd (fun w I=>AbI rfl rfl)<|AbH fun w I=>?_;refine Abl rfl (fun h4=>?_) (fun h4=>?_)
  ·refine Sr<|As0 Mv<|Ai Mv<|Ap (Ix E1 Ah8 Aih rfl rfl)<|Ap (Abr BL rfl)<|Ai (Abn An rfl (I.rd (E1.rd.part 3 1)) rfl rfl)<|Ai Ag<|Ab Ag<|Abh ?_;have hl:=Tx hk' hn h4;refine Wr ?_;exact BH.mk (vs:=[.int .i64 _,.bool _]) rfl ⟨rfl,rfl,trivial⟩ I.j5 (by simp only[tup,findF,hl];rfl)
  refine Abk<|Abg<|Ai Mv<|Ai (Dd rfl rfl)<|Ai Ag<|Abh ?_;exact⟨k+1,⟨⟨rfl,rfl,rfl,trivial⟩,I,by omega,fun j hj hj'=>by
   rcases Afd.1 hj with h'|rfl
   ·exact hn j h' hj'
   ·exact h4⟩,by omega⟩
 have hl:lkF f.xs (Ah x)=none:=DV.2 fun y hy=>by obtain⟨j,hj,rfl⟩:=Afz hy;exact hn j (by omega) hj
 refine Abz<|Sr<|Ai Ag<|Ab Ag<|Abh<|Wr ?_;exact BH.mk (vs:=[.int .i64 _,.bool _]) rfl ⟨rfl,rfl,trivial⟩ I.j5 (by simp only[tup,findF,hl];rfl)
theorem ZM(B:Aq)(hB:B.ok)(f:Sl Fct)(hf:Cv f B.h)(hp:∀y∈f.xs,PF y)(hs:IN f.xs)(x:Fct)(hx:PF x) :
  Fn prog 185 [f.val,x.val,.func (.func 111) #[] #[]] B (fun v _=>v=.tuple #[.int .i64 (DC f.xs x:Nat),.bool (isF f.xs x)]):=by
 have hsf:=hf.small;refine Fo hB func185 rfl ntmps185 fun e I=>Sr<|Abj (O.box (v:=.agg #[_,_,_,_]) I rfl rfl fun b4 w I=>Ai Ag<|Ab Ag<|Abh<|Sr<|As0 Mv<|Ai (AbA Ah8 rfl)<|Ai Ag<|Abh<|Sr<|Ai Mv<|Ai Ag<|Ai Ag<|Abh<|Abi<|WP.block ?_);refine Abx (σ:=Nat×Nat) (fun s=>[(0,f.val),(2,.func (.func 111) #[] #[]),(4,Pt b4),(8,.int .i64 f.xs.length),(9,.int .i64 s.1),(10,.int .i64 s.2)])
  (fun s w=>Inv B B.h [box b4 x.enc 83] w∧s.1≤s.2∧s.2≤f.xs.length∧(∀m,(h:m<f.xs.length)→m<s.1→Ah f.xs[m]<Ah x)∧(∀m,(h:m<f.xs.length)→s.2≤m→¬Ah f.xs[m]<Ah x)) (fun s=>s.2-s.1)
  ⟨(0,f.xs.length),⟨rfl,rfl,rfl,rfl,rfl,rfl,trivial⟩,I,Afa _,Afg _,fun m h hm=>absurd hm (AhD _),fun m h hm=>absurd h (Nat.not_lt.2 hm)⟩ ?_
 rintro⟨i,j⟩ e w ⟨I,hij,hjn,hlo,hhi⟩;dsimp only at I hij hjn hlo hhi ⊢;refine Abi<|Sr<|Ai Mv<|Ai Mv<|Ad (AbC rfl rfl)<|Abh ?_;refine Abl rfl (fun h=>?_) (fun h=>?_)
 ·have hm:(i+j) / 2<f.xs.length:=by omega
  have E1:=hf.at hm;have pm:=hp _ (Ae5 hm);refine Abk<|WP.block<|Sr<|Ai Mv<|Ai Mv<|Ai (Dd rfl rfl)<|AbB (v:=.int .u64 _) (AcV (by rw[Ait];rfl) underlying210 (Va (by omega) (by omega)) rfl)<|AbB (v:=.int .u64 _) (AeY (by decide) rfl rfl)<|Ai (AcV (by rw[underlying210];rfl) Ait (EL ⟨by omega,by omega⟩) rfl)<|Ai Ag<|Abh<|Abi<|AbD AC I (by kernel_rfl)<|Qf (fun w I=>Mv)<|Qs (fun w I=>Mv)<|Qi (fun w I=>Mv)<|Qp (fun w I=>AbJ E1 Ah8 Aih rfl rfl (by omega) (by omega))<|Qz (fun w I=>Abn AH rfl (I.rd (E1.rd.part 0 4)) rfl rfl)<|Qz (fun w I=>Ld I AH 0 0 4 rfl rfl rfl)<|Am.c (fun w I=>Acx I call111 (fs:=[]) (cs:=[]) rfl (Mh _ I.j6 _ _) rfl)<|Qd (fun w I=>AbC rfl rfl)<|AbH fun w I=>?_;refine Abl rfl (fun h5=>?_) (fun h5=>?_)
  ·have hlt:=(IM pm hx).1 h5;refine Abg<|Ai Mv<|Ai (Dd rfl rfl)<|Ai Ag<|Abh ?_;exact⟨((i+j) / 2+1,j),⟨⟨rfl,rfl,rfl,rfl,by simp only[E,upd];congr 1,rfl,trivial⟩,I,by omega,hjn,fun m h hm'=>by
    rcases Af4 m ((i+j) / 2) with h'|h'
    ·exact Ah6 (hs.get h' hm) hlt
    ·obtain rfl:m=(i+j) / 2:=by omega
     exact hlt,hhi⟩,by omega⟩
  have hge:¬Ah f.xs[(i+j) / 2]<Ah x:=fun hh=>h5 ((IM pm hx).2 hh);refine Abg<|Ai Mv<|Ai Ag<|Abh ?_;exact⟨(i,(i+j) / 2),⟨⟨rfl,rfl,rfl,rfl,rfl,by simp only[E,upd];congr 1,trivial⟩,I,by omega,by omega,hlo,fun m h hm'=>by
    rcases Af4 ((i+j) / 2) m with h'|h'
    ·have:=hs.get h' h;omega
    ·obtain rfl:m=(i+j) / 2:=by omega
     exact hge⟩,by omega⟩
 obtain rfl:j=i:=by omega
 have hpos:DC f.xs x=j:=Js hjn (fun m h hm=>hlo m h hm) (fun h=>hhi j h (Afg _));have hiff:=GJ (x:=x) hs;by_cases o1:(j:Int)<(f.xs.length:Int)
 ·have E1:=hf.at (i:=j) (by omega);have pm:=hp f.xs[j] (Ae5 _);refine Abz<|Abi<|AbD AC I (by kernel_rfl)<|Qi (fun w I=>Mv)<|Qi (fun w I=>Mv)<|Qi (fun w I=>Mv)<|QT (fun w I=>Abs (AbC rfl rfl) (o1))<|Qb (fun w I=>Mv)<|Hf (fun w I=>Mv)<|Hs (fun w I=>Mv)<|Hi (fun w I=>Mv)<|Hp (fun w I=>Ix E1 Ah8 Aih rfl rfl)<|Hz (fun w I=>Abn AH rfl (I.rd (E1.rd.part 0 4)) rfl rfl)<|Hz (fun w I=>Ld I AH 0 0 4 rfl rfl rfl)<|Acj rfl (fun w I=>Acx I call111 (fs:=[]) (cs:=[]) rfl (Mh _ I.j6 _ _) rfl)<|Hd (fun w I=>AbI rfl rfl)<|Qb (fun w I=>Abo rfl rfl)<|Qi (fun w I=>Ag)<|Qb (fun w I=>Ag)<|AbH fun w I=>?_;have hb:isF f.xs x=decide (Xo f.xs[j] x=0):=by
   rw[AgH,hiff,decide_eq_true_eq,SB pm hx];simp only[hpos];exact⟨fun ⟨_,hh⟩=>hh,fun hh=>⟨by omega,hh⟩⟩
  refine Wr ?_;exact BH.mk (vs:=[.int .i64 _,.bool _]) rfl ⟨rfl,rfl,trivial⟩ I.j5 (by simp only[tup];rw[hpos,hb])
 ·refine Abz<|Abi<|AbD AC I (by kernel_rfl)<|Qi (fun w I=>Mv)<|Qi (fun w I=>Mv)<|Qi (fun w I=>Mv)<|QF (fun w I=>Abt (AbC rfl rfl) (o1))<|Qb (fun w I=>Mv)<|Abv rfl<|Abv rfl<|Abv rfl<|Abv rfl<|Abv rfl<|Abv rfl<|Abv rfl<|Abv rfl<|Qb (fun w I=>Abp rfl rfl)<|Qi (fun w I=>Ag)<|Qb (fun w I=>Ag)<|AbH fun w I=>?_;have hb:isF f.xs x=false:=by
   rw[AgA];intro hh;obtain⟨hh,_⟩:=hiff.1 hh;omega
  refine Wr ?_;exact BH.mk (vs:=[.int .i64 _,.bool _]) rfl ⟨rfl,rfl,trivial⟩ I.j5 (by simp only[tup];rw[hpos,hb])
theorem Mj(B:Aq)(hB:B.ok)(f:Sl Fct)(hf:Cv f B.h)(hp:∀y∈f.xs,PF y)(hs:IN f.xs)(x:Fct)(hx:PF x):Fn prog 141 [f.val,x.val] B (fun v _=>v=.tuple #[.int .i64 (DC f.xs x:Nat),.bool (isF f.xs x)]):=by
 refine Fo hB func141 rfl ntmps141 fun e I=>Sr<|Abj (O.box (v:=.agg #[_,_,_,_]) I rfl rfl fun b3 w I=>Ai Ag<|Ab Ag<|Abh<|Sr<|As0 Mv<|Az (Ld I AH 0 0 4 rfl rfl rfl)<|Abj (Abm I call185 (ZM _ I.j6 f hf hp hs x hx) rfl fun w I=>Ai (Y.extract rfl rfl)<|Ab (Y.extract rfl rfl)<|Ai Ag<|Ab Ag<|Abh<|Wr ?_));exact BH.mk (vs:=[.int .i64 _,.bool _]) rfl ⟨rfl,rfl,trivial⟩ I.j5 (rfl)
theorem Tz{l:List Prd}{x:Fct}(h:factFine l x=true):0≤(Al l x.pred).kind∧(Al l x.pred).kind≤3:=by
 have:=DA.1 (Ct.1 h).2.2.2.2.2;omega
end
section
theorem PZ(A Z X:List Value):Im (A++Z) A.length X=A++X++Z.drop X.length:=by
 unfold Im;rw[Ag1,Ahr,AgP (by omega),AfC,AgN]
theorem P2{L D:List Value}{o:Nat}(h:o+D.length=L.length):Im L o D=L.take o++D:=by
 unfold Im;rw[AgP (by omega),Aft]
theorem VU(A Z X D:List Value)(h:X.length+D.length=Z.length):Im (Im (A++Z) A.length X) (A.length+X.length) D=A++X++D:=by
 rw[PZ,P2 (by simp only[Ae2,AfD];omega)];rw[←Ae2,Ag1]
theorem TA(A D Y X:List Value)(h:X.length=Y.length):Im (Im (A++(D++Y)) (A.length+X.length) D) A.length X=A++X++D:=by
 rw[P2 (L:=A++(D++Y)) (o:=A.length+X.length) (by simp only[Ae2];omega),Ahq,AfW (by omega),AgN,Afe,PZ];congr 1;have hl:((D++Y).take X.length).length=X.length:=by simp only[Afj,Ae2];omega
 rw[Ahr,AgP (by omega),hl,AhZ];rfl
theorem P3(xs:List Fct)(x:Fct)(i:Nat):(xs.take i++x::xs.drop i).flatMap Fct.enc=(xs.take i).flatMap Fct.enc++x.enc++(xs.drop i).flatMap Fct.enc:=by
 rw[Afm,AfK,Afe]
theorem TB(xs:List Fct):AJ (xs.flatMap Fct.enc)=true:=by
 simp only[AJ,AhQ];rw[Aff];intro x _;rfl
theorem Yl(vs:Array Value)(w:World):(callFunc 221 vs).run prog w=((Extern.SlicesOverlaps.overlaps #[31,31] #[4] vs).run prog w).andThen fun v w'=>.ok (.value v) w':=
 run_callFunc_extern func221 (by kernel_rfl) (by kernel_rfl) (by kernel_rfl) (e:=Extern.SlicesOverlaps.overlaps #[31,31] #[4]) (by kernel_rfl) vs w
theorem TC{B:Aq}{h:Ae}{M:List SA}{w:World}{v:Value}{n:Nat}{xs:List Fct}(I:Inv B h (Ao 83 4 v n (xs.flatMap Fct.enc)::M) w)(hn:n=xs.length)(i:Nat)(hi:i≤n)(x:Fct)(u:Nat)(hu:h u=some (.cells x.enc.toArray 83 (0,0)))(hb:n≤1000000000) :
  Calls prog 176 [v,.int .i64 i,.slice (some ⟨u,0,none⟩) (1:Nat) (1:Nat)].toArray w
   (fun ed w'=>∃v' h',ed=.returned v'∧h.le h'∧Inv B h' (Ao 83 4 v' (n+1) ((xs.take i++x::xs.drop i).flatMap Fct.enc)::M) w'):=by
 have hux:RdH h u 0 x.enc:=fun j y hj=>by simp only[Ae.cell,hu,Agg];simpa using hj
 have hfl:∀y:Fct,y.enc.length=4:=fun _=>rfl;by_cases hend:i=n
 ·have hfin:(xs.take i++x::xs.drop i).flatMap Fct.enc=xs.flatMap Fct.enc++x.enc:=by
   rw[P3,hend,hn,Afo,Ahs];simp
  rw[hfin];rcases(I.at 0 rfl).2 with ⟨rfl,h0⟩|⟨gg,cap,cur,rfl,_,hg,hnc,hcm,_⟩
  ·obtain rfl:n=0:=by simpa using h0
   obtain rfl:i=0:=hend;refine AbV (args:=[.slice none 0 0,.int .i64 (0:Nat),.slice (some ⟨u,0,none⟩) (1:Nat) (1:Nat)]) func176 rfl ntmps176 (by kernel_rfl) (by simp) fun e=>Sr<|As0 Ag<|Abh<|Sr<|As0 Mv<|Ai Mv<|As0 (Aee Ah8 Aih rfl (.inr ⟨_,_,rfl,rfl⟩) (.inl rfl))<|Abh<|Sr<|As0 Mv<|Ai (AbA Ah8 rfl)<|Ai Ag<|Abh<|Abi<|Sr<|Ai Mv<|AF (Abt (AbI rfl rfl) ((by decide)))<|Abh<|Abq rfl<|Abk<|Sr<|As0 Mv<|Ai (AbA Ah8 rfl)<|Ai Ag<|Abh<|Abi<|Sr<|Ai Mv<|Ai Mv<|AT (Abs (AbI rfl rfl) ((by decide)))<|Abh<|Abw rfl<|Sr<|As0 Mv<|As0 Mv<|Abj (Ab0 I Ah8 D6 0 rfl rfl rfl (I.rd hux) rfl rfl (by decide) (by omega) (by omega) fun g2 c2 w I=>As0 Ag<|Abh<|Wr ?_);exact⟨.inl rfl,[.slice (some ⟨g2,0,none⟩) (0+1) c2],⟨rfl,trivial⟩,_,_,rfl,Ae.le.refl _,I⟩
  ·simp only[maxLen] at hcm;refine AbV (args:=[.slice (some ⟨gg,0,none⟩) n cap,.int .i64 i,.slice (some ⟨u,0,none⟩) (1:Nat) (1:Nat)]) func176 rfl ntmps176 (by kernel_rfl) (by simp) fun e=>Sr<|As0 Ag<|Abh<|Sr<|As0 Mv<|Ai Mv<|As0 (AcF (l:=i) (h:=n) Ah8 Aih rfl (.inr ⟨_,_,rfl,rfl⟩) (.inl ⟨rfl,rfl⟩) (by omega) (by omega))<|Abh<|Sr<|As0 Mv<|Ai (AbA Ah8 rfl)<|Ai Ag<|Abh<|Abi<|Sr<|Ai Mv<|AF (Abt (AbI rfl rfl) ((by decide)))<|Abh<|Abq rfl<|Abk<|Sr<|As0 Mv<|Ai (AbA Ah8 rfl)<|Ai Ag<|Abh<|Abi<|Sr<|Ai Mv<|Ai Mv<|AT (Abs (AbI rfl rfl) ((by omega)))<|Abh<|Abw rfl<|Sr<|As0 Mv<|As0 Mv<|Abj (Ab0 I Ah8 D6 0 rfl rfl rfl (I.rd hux) rfl rfl (by decide) (by omega) (by omega) fun g2 c2 w I=>As0 Ag<|Abh<|Wr ?_);exact⟨.inl rfl,[.slice (some ⟨g2,0,none⟩) (n+1) c2],⟨rfl,trivial⟩,_,_,rfl,Ae.le.refl _,I⟩
 rcases(I.at 0 rfl).2 with ⟨rfl,h0⟩|⟨gg,cap,cur,rfl,_,hg,hnc,hcm,_⟩
 ·exfalso;have:n=0:=by simpa using h0
  omega
 simp only[maxLen] at hcm;have hAl:((xs.take i).flatMap Fct.enc).length=i*4:=by rw[Cr hfl,Afj];congr 1;omega
 have hDl:((xs.drop i).flatMap Fct.enc).length=(n-i)*4:=by rw[Cr hfl,AfD,hn]
 rw[P3];refine AbV (args:=[.slice (some ⟨gg,0,none⟩) n cap,.int .i64 i,.slice (some ⟨u,0,none⟩) (1:Nat) (1:Nat)]) func176 rfl ntmps176 (by kernel_rfl) (by simp) fun e=>Sr<|As0 Ag<|Abh<|Sr<|As0 Mv<|Ai Mv<|As0 (AcF (l:=i) (h:=n) Ah8 Aih rfl (.inr ⟨_,_,rfl,rfl⟩) (.inl ⟨rfl,rfl⟩) (by omega) (by omega))<|Abh<|Sr<|As0 Mv<|Ai (AbA Ah8 rfl)<|Ai Ag<|Abh<|Abi<|Sr<|Ai Mv<|AF (Abt (AbI rfl rfl) ((by decide)))<|Abh<|Abq rfl<|Abk<|Sr<|As0 Mv<|Ai (AbA Ah8 rfl)<|Ai Ag<|Abh<|Abi<|Sr<|Ai Mv<|Ai Mv<|AF (Abt (AbI rfl rfl) ((by omega)))<|Abh<|Abq rfl<|Abk<|Abi<|Sr<|Ai Mv<|Ai Mv<|Ai (Dd rfl rfl)<|As0 Mv<|Ai (AeZ Ah8 rfl)<|Ad (AbL rfl rfl)<|Abh ?_;refine Abl rfl (fun h8=>?_) (fun h8=>?_)
 ·have hRd:Rd w gg 0 ((xs.take i).flatMap Fct.enc):=by
   have:=I.y8 0 rfl 0 (i*4);rwa [AhM,Dy hfl] at this
  have hgw:gg<w.heap.size:=((I.own _ (Ae7 ..)).2 gg (by simp[Ao,Value.ownBlock])).2.1;refine Sr<|As0 Mv<|Ai Mv<|As0 (AcC (l:=0) (h':=i) Ah8 Aih rfl (.inl ⟨rfl,rfl⟩) (.inr ⟨_,_,rfl,rfl⟩) (by omega) (by omega) (by omega))<|Ai Mv<|Ai Mv<|Ai (Dd rfl rfl)<|Ai Mv<|Ai (AcA rfl rfl ⟨by omega,by omega⟩) ?_;refine Abj (Aeq (n:=i) (m:=n+1-i) I Ah8 Ait D6 rfl hRd hAl (congrArg (Value.int .i64) (by omega)) (by omega) (by omega) (by omega) (by omega) ?_ hgw);intro g2 c2 w I hne;refine As0 Ag<|Abh ?_;have hs2:=(I.y9 0 rfl).2;have hZl:((Builtin.zeroCells (Value.agg #[.int .i64 0,.int .i64 0,.int .i64 0,.int .i64 0]).cells (n+1-i)).toList).length=(n+1-i)*4:=by rw[Af2,size_zeroCells];rfl
  generalize (Builtin.zeroCells (Value.agg #[.int .i64 0,.int .i64 0,.int .i64 0,.int .i64 0]).cells (n+1-i)).toList=Z at I hZl;rw[show i+(n+1-i)=n+1 by omega] at I hs2 ⊢;refine Sr<|As0 Mv<|Ai Mv<|As0 (AcC (l:=i) (h':=n+1) Ah8 Aih rfl (.inr ⟨_,_,rfl,rfl⟩) (.inl ⟨rfl,rfl⟩) (by omega) (by omega) (by omega))<|As0 Mv<|Abj (AdU I Ah8 D6 0 rfl rfl rfl (q:=1) (by simp only[Ah4];split<;>omega) (by omega) (I.rd hux) rfl rfl fun w I=>Abh<|Abi<|AbM AC I 8 (by kernel_rfl)<|Fs (fun _ w us hl I=>Mv)<|Fi (fun _ w us hl I=>Mv)<|Fi (fun _ w us hl I=>Mv)<|Fi (fun _ w us hl I=>Dd rfl rfl)<|Fs (fun _ w us hl I=>AcC (l:=i+1) (h':=n+1) Ah8 Aih rfl (.inr ⟨_,_,rfl,rfl⟩) (.inl ⟨rfl,rfl⟩) (by omega) (by omega) (by omega))<|Fs (fun _ w us hl I=>Mv)<|Fi (fun _ w us hl I=>Mv)<|Fs (fun _ w us hl I=>AcC (l:=i) (h':=n) Ah8 Aih rfl (.inr ⟨_,_,rfl,rfl⟩) (.inl ⟨rfl,rfl⟩) (by omega) (by omega) (by omega))<|AbX fun _ w hl I=>?_);try unfold CT
  have hRd2:Rd w gg (i*4) ((xs.drop i).flatMap Fct.enc):=by have:=I.y8 1 rfl (i*4) ((n-i)*4);rwa [Ei hfl,AfW (by omega)] at this
  refine Abj (AdU I Ah8 D6 0 rfl rfl rfl (q:=n-i) (by simp only[Ah4];split<;>omega) (by omega) hRd2 hDl (TB _) fun w I=>Abh<|Sr<|As0 Mv<|As0 Ag<|Abh<|Wr ?_);have hI:Im (Im ((xs.take i).flatMap Fct.enc++Z) (i*4) x.enc) ((i+1)*4) ((xs.drop i).flatMap Fct.enc)=(xs.take i).flatMap Fct.enc++x.enc++(xs.drop i).flatMap Fct.enc:=by
   have:=VU ((xs.take i).flatMap Fct.enc) Z x.enc ((xs.drop i).flatMap Fct.enc) (by rw[hZl,hDl,hfl];omega);rwa [hAl,hfl,show i*4+4=(i+1)*4 by omega] at this
  have I:=I.weak (M':=_::M) (List.Sublist.cons_cons _ (Af3 _ _));try simp only[List.set_cons_zero] at I
  rw[hI] at I;exact⟨.inl rfl,[.slice (some ⟨g2,0,none⟩) (n+1) c2],⟨rfl,trivial⟩,_,_,rfl,hl,I⟩
 ·have hcn:n+1≤cap:=by omega
  obtain⟨Yz,hYl,I⟩:=I.widen (m:=1) hcn;have hou:=((I.own _ (Ae7 ..)).2 gg (by simp[Ao,Value.ownBlock])).2.2;have hne:u≠gg:=fun e=>by rw[←e,hu] at hou;cases hou
  refine Abk<|Sr<|As0 Mv<|Ai Mv<|Ai Mv<|Ai (Dd rfl rfl)<|As0 (AcC (l:=0) (h':=n+1) Ah8 Aih rfl (.inl ⟨rfl,rfl⟩) (.inr ⟨_,_,rfl,rfl⟩) (by omega) (by omega) (by omega))<|As0 Ag<|Abh ?_;have hsB:=(I.y9 0 rfl).1;have hsA:w.shape? u=some (83,4):=by simp[World.shape?,I.imm _ _ hu]
  have hfr:∀o,w.frozen? ⟨u,o,none⟩=false:=fun o=>by simp[World.frozen?,I.imm _ _ hu]
  refine Abi<|Sr<|As0 Mv<|As0 Mv<|Ai Mv<|Ai Mv<|Ai (Dd rfl rfl)<|As0 (AcC (l:=i+1) (h':=n+1) Ah8 Aih rfl (.inr ⟨_,_,rfl,rfl⟩) (.inl ⟨rfl,rfl⟩) (by omega) (by omega) (by omega))<|AbB (v:=_) (O.overlaps Yl Ah8 Aih rfl rfl hne hsA hsB (by omega) hfr)<|Ab (Y.not rfl)<|Abh<|Abw rfl<|Abi<|AbM AC I 8 (by kernel_rfl)<|Fs (fun _ w us hl I=>Mv)<|Fi (fun _ w us hl I=>Mv)<|Fi (fun _ w us hl I=>Mv)<|Fi (fun _ w us hl I=>Dd rfl rfl)<|Fs (fun _ w us hl I=>AcC (l:=i+1) (h':=n+1) Ah8 Aih rfl (.inr ⟨_,_,rfl,rfl⟩) (.inl ⟨rfl,rfl⟩) (by omega) (by omega) (by omega))<|Fs (fun _ w us hl I=>Mv)<|Fi (fun _ w us hl I=>Mv)<|Fs (fun _ w us hl I=>AcC (l:=i) (h':=n+1) Ah8 Aih rfl (.inr ⟨_,_,rfl,rfl⟩) (.inl ⟨rfl,rfl⟩) (by omega) (by omega) (by omega))<|AbX fun _ w hl I=>?_;try unfold CT
  have hRd2:Rd w gg (i*4) ((xs.drop i).flatMap Fct.enc):=by have:=I.y8 0 rfl (i*4) ((n-i)*4);rwa [List.drop_append_of_le_length (by rw[Cr hfl];omega),Ei hfl,AhX hDl] at this
  refine Abj (AdU I Ah8 D6 0 rfl rfl rfl (q:=n-i) (by simp only[Ah4];split<;>omega) (by omega) hRd2 hDl (TB _) fun w I=>Abh<|Sr<|As0 Mv<|Ai Mv<|As0 (AcC (l:=i) (h':=n+1) Ah8 Aih rfl (.inr ⟨_,_,rfl,rfl⟩) (.inl ⟨rfl,rfl⟩) (by omega) (by omega) (by omega))<|As0 Mv<|Abj (AdU I Ah8 D6 0 rfl rfl rfl (q:=1) (by simp only[Ah4];split<;>omega) (by omega) (I.rd (hux.le hl)) rfl rfl fun w I=>Abh<|Sr<|As0 Mv<|As0 Ag<|Abh<|Wr ?_));have hI:Im (Im (xs.flatMap Fct.enc++Yz) ((i+1)*4) ((xs.drop i).flatMap Fct.enc)) (i*4) x.enc=(xs.take i).flatMap Fct.enc++x.enc++(xs.drop i).flatMap Fct.enc:=by
   have:=TA ((xs.take i).flatMap Fct.enc) ((xs.drop i).flatMap Fct.enc) Yz x.enc (by rw[hYl,hfl]);rw[hAl,hfl,show i*4+4=(i+1)*4 by omega,←Afe,←Afm,AgG] at this;exact this
  try simp only[List.set_cons_zero] at I
  rw[hI] at I;exact⟨.inl rfl,[.slice (some ⟨gg,0,none⟩) (n+1) cap],⟨rfl,trivial⟩,_,_,rfl,hl,I⟩
end
section
noncomputable def TD(p:Prg)(f:List Fct):Int:=if Ac p≠0 then Ac p else checkFacts p.preds.xs f
theorem P4{p:Prg}{f:List Fct}:TD p f=0↔Ac p=0∧FOk p.preds.xs f:=by
 unfold TD;constructor
 ·intro h;split at h
  ·rename_i h1;exact absurd h h1
  ·rename_i h1;exact⟨Afh.1 h1,ES.1 h⟩
 ·rintro⟨h1,h2⟩;rw[if_neg (by omega)];exact ES.2 h2
theorem Mk(B:Aq)(hB:B.ok)(p:Prg)(hp:p.In B.h)(hnm:p.Nm)(f:Sl Fct)(hf:Cv f B.h):Fn prog 20 [p.val,f.val] B (fun v _=>v=.int .i64 (TD p f.xs)):=by
 refine Fo hB func20 rfl ntmps20 fun e I=>Sr<|Abj (O.box (v:=.agg #[_,_]) I rfl rfl fun b2 w I=>Ai Ag<|Abh<|Abi<|Sr<|Ax (Ld I As 0 0 2 rfl rfl rfl)<|Abj (Abm I call16 (De _ I.j6 p hp hnm) rfl fun w I=>Ai Ag<|Abh<|Sr<|Ai Mv<|Ad (AbK rfl rfl)<|Abh ?_));refine Abl rfl (fun h1=>?_) (fun h1=>?_)
 ·refine Sr<|Ai Mv<|Ai Ag<|Abh<|Wr ?_;exact Rm (v:=.int .i64 _) rfl rfl I (by simp only[tup,TD];rw[if_pos h1])
 refine Abk<|Sr<|Ap (Abu At rfl)<|As0 (Ld I A7 0 0 1 rfl rfl rfl)<|As0 Mv<|Abj (Abm I call52 (KI _ I.j6 p.preds hp.preds f hf) rfl fun w I=>Ai Ag<|Abh<|Wr ?_);exact Rm (v:=.int .i64 _) rfl rfl I (by simp only[tup,TD];rw[if_neg h1])
end
section
theorem NL{f:List Fct}(hp:∀y∈f,PF y)(hs:IN f):∀i,(hi:i<f.length)→(i:Int)≤Ah f[i]
 |0,hi=>(hp _ (Ae5 hi)).place.1
 |i+1,hi=>by
  have h1:=NL hp hs i (by omega);have h2:=hs.get (i:=i) (j:=i+1) (by omega) hi;omega
theorem Ym{f:List Fct}(hp:∀y∈f,PF y)(hs:IN f):f.length≤125:=by
 rcases Af4 125 f.length with h|h
 ·have h1:=NL hp hs 125 h;have h2:=(hp _ (Ae5 h)).place.2;omega
 ·exact h
theorem FOk.aa4{l:List Prd}{f:List Fct}(ok:FOk l f):f.length≤125:=Ym ok.pf ok.srt
def P5(xs:List Fct)(h0:Ae):Value→Ae→Prop:=fun v h=>∃s:Sl Fct,v=s.val∧s.xs=xs∧Di 83 4 s Fct.enc h0 h∧(s.xs=[]→s.cap=0)
theorem P5.mono{xs:List Fct}{h0:Ae}:Bt (P5 xs h0):=fun _ _ _ hl hx=>by
 obtain⟨s,h1,h2,h3,h4⟩:=hx;exact⟨s,h1,h2,h3.le hl,h4⟩
theorem Yn{x y:Fct}(h:x.enc=y.enc):x=y:=by
 cases x;cases y;simp only[Fct.enc,List.cons.injEq,Value.int.injEq,true_and,and_true] at h;simp only[Fct.mk.injEq];exact h
theorem TE{s:Sl Fct}{u:Nat}{h0 h:Ae}{x:Fct}(o:Di 83 4 s Fct.enc h0 h)(s0:s.xs=[]→s.cap=0)(hu:h u=some (.cells x.enc.toArray 83 (0,0)))(hx:x∉s.xs):s.at_≠some ⟨u,0,none⟩:=by
 intro e;rcases o with rfl|⟨g,cur,e1,e2,e3,e4,e5,e6,e7⟩
 ·cases e
 ·rw[e1] at e;have:g=u:=by simpa using e
  subst this;rw[e3] at hu;have hc:cur=x.enc.toArray:=by simpa using hu
  subst hc;have hcap:s.cap=1:=by simp only[Afx,Fct.enc,Ae6,Afc] at e6;omega
  match hs:s.xs with
  |[]=>have:=s0 hs;omega
  |[y]=>
   rw[hs] at e7;have:x.enc=y.enc:=by simpa[Fct.enc] using e7
   exact hx (by rw[hs,Yn this];simp)
  |_::_::_=>rw[hs] at e4;simp only[Ae6] at e4;omega
theorem P6(v:Int):∀(xs:List Fct) (i:Nat) (hi:i<xs.length),(xs.flatMap Fct.enc).set (i*4+3) (.int .i64 v)=(xs.set i ⟨xs[i].pred,xs[i].a,xs[i].b,v⟩).flatMap Fct.enc
 |[],i,hi=>absurd hi (AhD _)
 |x::xs,0,_=>by simp[Fct.enc]
 |x::xs,i+1,hi=>by
  have:=P6 v xs i (by simpa using hi);simp only[AfK,List.set_cons_succ,Agc];rw[←this,List.set_append,if_neg (by simp only[Fct.enc,Ae6,Afc];omega)];congr 2;show(i+1)*4+3-4=_;omega
theorem Yo{f:List Fct}{x:Fct}(h:isF f x=false):x∉f:=fun hx=>by
 have:lkF f (Ah x)=none:=by unfold isF at h;cases hk:lkF f (Ah x)<;>simp_all
 exact DV.1 this x hx rfl
def U2(r:List Fct×Bool)(v:Value)(h:Ae):Prop:=∃s:Sl Fct,v=.tuple #[s.val,.bool r.2]∧s.xs=r.1∧Cv s h
def U3(h0:Ae)(r:List Fct×Bool)(v:Value)(h:Ae):Prop:=∃s:Sl Fct,v=.tuple #[s.val,.bool r.2]∧s.xs=r.1∧Cv s h∧Di 83 4 s Fct.enc h0 h
theorem U3.put{h0 h:Ae}{r:List Fct×Bool}{v:Value}(x:U3 h0 r v h):U2 r v h:=by obtain⟨s,a,b,c,_⟩:=x;exact⟨s,a,b,c⟩
theorem TH(B:Aq)(hB:B.ok)(l:Sl Prd)(hls:HQ l B.h)(f:Sl Fct)(hf:Cv f B.h)(ok:FOk l.xs f.xs)(x:Fct)(hx:factFine l.xs x=true):Fn prog 132 [l.val,f.val,x.val] B (U3 B.h (Dw (Al l.xs x.pred).kind f.xs x)):=by
 have px:=By ok.len hx;have hiff:=GJ (x:=x) ok.srt;have h01:=(Ct.1 hx).1;have hk:x.pred.toNat<l.xs.length:=by omega
 have E2:=hls.at hk;have hpo:l.xs[x.pred.toNat]=Al l.xs x.pred:=(BT h01.1 h01.2).symm;have hkd:=Tz hx;rw[←hpo] at hkd;have h125:=ok.aa4;refine Fo hB func132 rfl ntmps132 fun e I=>Sr<|Abj (O.box (v:=.agg #[_,_,_,_]) I rfl rfl fun b5 w I=>As0 Ag<|Ab Ag<|Abh<|Sr<|As0 Mv<|Az (Ld I AH 0 0 4 rfl rfl rfl)<|Abj (Abm I call141 (Mj _ I.j6 f hf ok.pf ok.srt x px) rfl fun w I=>Au Mv<|Ai (Y.extract rfl rfl)<|Ab (Y.extract rfl rfl)<|Ai Ag<|Ab Ag<|Abh ?_));cases hi:isF f.xs x
 ·refine Abi<|Sr<|Ab Mv<|AT (Y.b (Y.not rfl) ((by first|rfl|(rw[hi];rfl))))<|Abh<|Abw rfl<|Abi<|AbM AC I 5 (by kernel_rfl)<|Fs (fun _ w us hl I=>Mv) ?_;refine AbR (Φ:=P5 f.xs B.h) P5.mono (fun _=>Aj _) ?_ ?_
  ·intro _ w hl I;try unfold CT
   refine AbE I call137 (C4 _ I.j6 f (hf.le hl) (by omega)) rfl ?_;rintro _ h2 w I hl' ⟨s,rfl,es,o,s0⟩;exact⟨_,hl',I,⟨s,rfl,es,o.older hl,s0⟩⟩
  refine Fi (fun _ w us hl I=>Mv)<|Fz (fun _ w us hl I=>Ld I AH 0 0 4 rfl rfl rfl) ?_;refine AbR (Φ:=LK 83 x.enc 1) LK.mono (fun _=>Aj _) ?_ ?_
  ·intro _ w hl I u21 q21;exact AcM (cs:=x.enc) I Ah8 Aih Aii (by decide) (by decide) rfl rfl (fun v h w I le sl=>⟨h,le,I,sl⟩)
  refine AbX fun _ w hl I u21 q21 u24 q24=>?_;obtain⟨s,rfl,es,o,s0⟩:=q21 rfl;obtain⟨u,rfl,hu⟩:=q24 rfl;have hne:=TE o s0 hu (by rw[es];exact Yo hi);obtain⟨h6,I,mono6,keep6⟩:=I.x9 o (Ae.le.refl _);refine Abj (Ace call176 (TC I rfl (DC f.xs x) (by rw[es];exact SE) x u ((keep6 u _ hu).resolve_right hne) (by rw[es];omega)) rfl ?_);rintro ed w ⟨v7,h7,rfl,le7,I⟩;refine⟨_,rfl,?_⟩;have hB6:=I.ext;obtain⟨h8,s8,le8,rfl,hx8,o8,I⟩:=I.y5 (by have:=SE (f:=f.xs) (x:=x);simp only[Ae2,Ae6,Afj,AfD,es];omega);refine As0 Ag<|Ab Ag<|Abh<|Wr ?_;exact BH.mk (vs:=[.slice _ _ _,.bool _]) rfl ⟨rfl,rfl,trivial⟩ I.j5 (by rw[IR ok.srt hi];exact⟨s8,rfl,by rw[hx8,es],⟨o8.in (fun _=>rfl),by rw[hx8,es];simp only[Ae2,Ae6,Afj,AfD];omega⟩,o8.older hB6⟩)
 ·obtain⟨hlt,he⟩:=hiff.1 hi;have E1:=hf.at hlt;have ha:=LY (k:=(Al l.xs x.pred).kind) ok.srt hlt he;refine Abi<|Sr<|Ab Mv<|AF (Y.b (Y.not rfl) ((by first|rfl|(rw[hi];rfl))))<|Abh<|Abq rfl<|Abk<|Abi<|AbD AC I (by kernel_rfl)<|Qs (fun w I=>Mv)<|Qp (fun w I=>Abu Bu rfl)<|Qi (fun w I=>Ld I An 0 0 1 rfl rfl rfl)<|Qp (fun w I=>AbJ E2 Aia Aim rfl rfl h01.1 rfl)<|Qp (fun w I=>Abr A3 rfl)<|Qi (fun w I=>Abn An rfl (I.rd (E2.rd.part 2 1)) rfl rfl)<|Qs (fun w I=>Mv)<|Qi (fun w I=>Mv)<|Qp (fun w I=>Ix E1 Ah8 Aih rfl rfl)<|Qp (fun w I=>Abr BL rfl)<|Qi (fun w I=>Abn An rfl (I.rd (E1.rd.part 3 1)) rfl rfl)<|Qp (fun w I=>Abr BL rfl)<|Qi (fun w I=>Ld I An 0 3 1 rfl rfl rfl)<|Am.c (fun w I=>AbO I call177 (S9 _ I.j6 _ _ _ hkd) rfl)<|Qi (fun w I=>Ag)<|AbH fun w I=>Abi<|Sr<|Ai Mv<|As0 Mv<|Ai Mv<|Ap (Ix E1 Ah8 Aih rfl rfl)<|Ap (Abr BL rfl)<|Ai (Abn An rfl (I.rd (E1.rd.part 3 1)) rfl rfl)<|Ad (AbI rfl rfl)<|Abh ?_;refine Abl rfl (fun h5=>?_) (fun h5=>?_)
  ·rw[hpo] at h5;refine Sr<|As0 Mv<|Abj (AbE I call137 (C4 _ I.j6 f hf (by omega)) rfl ?_);rintro _ h2 w I le2 ⟨s,rfl,es,o,s0⟩;refine As0 Ag<|Ab Ag<|Abh ?_;have hset:f.xs.set (DC f.xs x) ⟨f.xs[DC f.xs x].pred,f.xs[DC f.xs x].a,f.xs[DC f.xs x].b,joinV (Al l.xs x.pred).kind f.xs[DC f.xs x].v x.v⟩=f.xs:=by rw[h5];exact Ahl _
   refine Wr ?_;exact BH.mk (vs:=[.slice _ _ _,.bool _]) rfl ⟨rfl,rfl,trivial⟩ I.j5 (by rw[ha,hset];exact⟨s,by rw[decide_eq_false (fun h=>h h5)];rfl,es,⟨o.in (fun _=>rfl),by rw[es];omega⟩,o⟩)
  rw[hpo] at h5;refine Abk<|Sr<|As0 Mv<|Abj (AbE I call137 (C4 _ I.j6 f hf (by omega)) rfl ?_);rintro _ h2 w I le2 ⟨s,rfl,es,o,s0⟩;refine As0 Ag<|Abh ?_;obtain⟨a,c,ys⟩:=s;dsimp only at es;subst es;have E3:=(o.in (fun _=>rfl)).el (Ae4 hlt);obtain⟨g,rfl⟩:∃g,a=some ⟨g,0,none⟩:=by
   rcases o with o|⟨g,cur,e1,_⟩
   ·have:=congrArg Sl.xs o;dsimp only at this;rw[this] at hlt;simp at hlt
   ·exact⟨g,e1⟩
  obtain⟨h6,I,mono6,keep6⟩:=I.x9 o (Ae.le.refl _);refine Sr<|As0 Mv<|Ai Mv<|Ai Mv<|Ap (Ix E3 Ah8 Aih rfl rfl)<|Ap (Abr BL rfl)<|Abj (AeC (v:=.int .i64 _) I An D6 0 rfl rfl rfl rfl rfl (by rw[Cr (enc:=Fct.enc) (k:=4) (fun _=>rfl)];simp only[Sl.off,Aga];omega) fun w I=>Abh ?_);have I:Inv B h6 [Ao 83 4 (.slice (some ⟨g,0,none⟩) f.xs.length c) f.xs.length ((f.xs.set (DC f.xs x) ⟨f.xs[DC f.xs x].pred,f.xs[DC f.xs x].a,f.xs[DC f.xs x].b,joinV (Al l.xs x.pred).kind f.xs[DC f.xs x].v x.v⟩).flatMap Fct.enc),box b5 x.enc 83] w:=by
   rw[←P6,←hpo];have J:=I;simp only[Sl.off,Aga,Agg] at J;exact J
  have hB6:=I.ext;obtain⟨h8,s8,le8,hv8,hx8,o8,I⟩:=I.y5 (by rw[Ahz]);refine Sr<|As0 Mv<|As0 Ag<|Ab Ag<|Abh<|Wr ?_;exact BH.mk (vs:=[.slice _ _ _,.bool _]) rfl ⟨rfl,rfl,trivial⟩ I.j5 (by rw[ha];exact⟨s8,by rw[hv8,decide_eq_true h5];rfl,hx8,⟨o8.in (fun _=>rfl),by rw[hx8,Ahz];omega⟩,o8.older hB6⟩)
theorem TI(B:Aq)(hB:B.ok)(l:Sl Prd)(hls:HQ l B.h)(f:Sl Fct)(hf:Cv f B.h)(ok:FOk l.xs f.xs)(x:Fct)(hx:factFine l.xs x=true):Fn prog 132 [l.val,f.val,x.val] B (U2 (Dw (Al l.xs x.pred).kind f.xs x)):=(TH B hB l hls f hf ok x hx).mono fun _ _ _ h=>h.put
theorem nilF{h:Ae}:Cv ⟨none,0,[]⟩ h:=⟨fun i x hx=>by simp at hx,by simp⟩
structure AaX where
 k:Nat
 n:Nat
 a:Option Addr
 c:Nat
 acc:List Fct
 th:Bool
 ch:Bool
structure Aa8(B:Aq)(b5:Nat)(x:Fct)(kd:Int)(f:List Fct)(s:AaX)(w:World):Prop where
 inv:∃h1,B.h.le h1∧Inv B h1 [Ao 83 4 (.slice s.a s.n s.c) s.n (s.acc.flatMap Fct.enc),box b5 x.enc 83] w
 n:s.n=s.acc.length
 k:s.k≤f.length
 le:s.n≤s.k+1
 lo:s.th=false→s.acc=f.take s.k∧s.ch=false∧∀j,j<s.k→∀hj:j<f.length,Ah f[j]<Ah x
 hi:s.th=true→Dw kd f x=(s.acc++f.drop s.k,s.ch)∧∀j,s.k≤j→∀hj:j<f.length,Ah x<Ah f[j]
theorem Ez(acc:List Fct)(y:Fct):(acc++[y]).flatMap Fct.enc=acc.flatMap Fct.enc++y.enc:=by simp
theorem OW(B:Aq)(hB:B.ok)(l:Sl Prd)(hls:HQ l B.h)(f:Sl Fct)(hf:Cv f B.h)(ok:FOk l.xs f.xs)(x:Fct)(hx:factFine l.xs x=true):Fn prog 150 [l.val,f.val,x.val] B (U2 (Dw (Al l.xs x.pred).kind f.xs x)):=by
 have px:=By ok.len hx;have h01:=(Ct.1 hx).1;have hkp:x.pred.toNat<l.xs.length:=by omega
 have hpo:l.xs[x.pred.toNat]=Al l.xs x.pred:=(BT h01.1 h01.2).symm;have h125:=ok.aa4;refine Fo hB func150 rfl ntmps150 fun e I=>Sr<|Abj (O.box (v:=.agg #[_,_,_,_]) I rfl rfl fun b5 w I=>As0 Ag<|Ab Ag<|Abh ?_);have I:=I.l9 83 4;refine Sr<|As0 Ag<|Abh<|Sr<|Ab Ag<|Ab Ag<|Abh<|Abi<|Sr<|Ai Ag<|Abh<|WP.block ?_;refine Abx (σ:=AaX) (fun s=>[(0,l.val),(1,f.val),(5,Pt b5),(8,.slice s.a s.n s.c),(9,.bool s.th),(10,.bool s.ch),(11,.int .i64 s.k)]) (Aa8 B b5 x (Al l.xs x.pred).kind f.xs) (fun s=>f.xs.length-s.k)
  ⟨⟨0,0,none,0,[],false,false⟩,⟨rfl,rfl,rfl,rfl,rfl,rfl,rfl,trivial⟩,⟨_,Ae.le.refl _,I⟩,rfl,Afa _,Afa _,fun _=>⟨rfl,rfl,fun j hj=>absurd hj (AhD _)⟩,fun h=>by cases h⟩ ?_
 rintro⟨k,n,a,c,acc,th,ch⟩ e w ⟨⟨h1,gl,I⟩,hn,hk,hle,hF,hT⟩;dsimp only at I hn hk hle hF hT ⊢;refine Abi<|Sr<|Ai Mv<|As0 Mv<|Ai (AbA Ah8 rfl)<|Ad (AbC rfl rfl)<|Abh ?_;refine Abl rfl (fun h=>?_) (fun h=>?_)
 ·have hk':k<f.xs.length:=by omega
  have E1:=(hf.le gl).at hk';have E2:=(hls.le gl).at hkp;have py:=ok.pf _ (Ae5 hk');have hdr:f.xs.drop k=f.xs[k]::f.xs.drop (k+1):=AfZ hk';have htk:f.xs.take (k+1)=f.xs.take k++[f.xs[k]]:=by rw[Afi hk']
  refine Abk<|Abi<|WP.block<|Sr<|As0 Mv<|Ai Mv<|Ap (Ix E1 Ah8 Aih rfl rfl)<|Az (Abn AH rfl (I.rd (E1.rd.part 0 4)) rfl rfl)<|Abj (O.alloc I Aii rfl fun b12 w I=>Abj (Sz I AH 0 rfl rfl rfl rfl fun w I=>Abh ?_));cases th
  ·obtain⟨rfl,rfl,hlo⟩:=hF rfl;rcases Int.lt_trichotomy (Ah f.xs[k]) (Ah x) with hlt|heq|hgt
   ·refine Abi<|Abi<|AbD AC I (by kernel_rfl)<|Qz (fun w I=>Ld I AH 0 0 4 rfl rfl rfl)<|Am.c (fun w I=>AbO I call113 (BW _ I.j6 _ py) rfl)<|Qz (fun w I=>Ld I AH 2 0 4 rfl rfl rfl)<|Am.c (fun w I=>AbO I call113 (BW _ I.j6 _ px) rfl)<|QF (fun w I=>Abt (AbI rfl rfl) ((by omega)))<|AbH fun w I=>Abq rfl<|Abk<|Abi<|Abi<|AbD AC I (by kernel_rfl)<|Qb (fun w I=>Mv)<|QT (fun w I=>Y.b (Y.not rfl) (rfl))<|Qb (fun w I=>Mv)<|Hz (fun w I=>Ld I AH 0 0 4 rfl rfl rfl)<|Acj rfl (fun w I=>AbO I call113 (BW _ I.j6 _ py) rfl)<|Hz (fun w I=>Ld I AH 2 0 4 rfl rfl rfl)<|Acj rfl (fun w I=>AbO I call113 (BW _ I.j6 _ px) rfl)<|HF (fun w I=>Abt (AbL rfl rfl) ((by omega)))<|Qb (fun w I=>Abo rfl rfl)<|AbH fun w I=>Abq rfl<|Abk<|Abg<|As0 Mv<|Az (Ld I AH 0 0 4 rfl rfl rfl)<|Abj (AbY (xs:=[f.xs[k]]) (enc:=Fct.enc) I Ah8 Aih Aii rfl (Nb rfl) rfl rfl (by decide) (fun _=>rfl) fun b61 h61 w I le61 sl61=>Abj (Ab0 I Ah8 D6 1 rfl rfl rfl (I.rd (sl61 0 _ rfl).2) rfl rfl (by decide) ((by omega)) (by omega) fun b62 c62 w I=>As0 Ag<|Abh<|Abg<|Ai Mv<|Ai (Dd rfl rfl)<|Ai Ag<|Abh ?_));exact⟨⟨k+1,n+1,some ⟨b62,0,none⟩,c62,f.xs.take (k+1),false,false⟩,⟨⟨rfl,rfl,rfl,rfl,rfl,rfl,rfl,trivial⟩,⟨h61,gl.trans le61,by rw[htk,Ez];exact I.drop⟩,by rw[htk,Ae2,←hn];rfl,(by dsimp only;omega),(by dsimp only;omega),fun _=>⟨rfl,rfl,fun j hj hj'=>by
     rcases Afd.1 hj with h'|rfl
     ·exact hlo j h' hj'
     ·exact hlt⟩,fun h=>by cases h⟩,(by dsimp only;omega)⟩
   ·have hpos:DC f.xs x=k:=Js (by omega) (fun m h hm=>hlo m hm h) (fun h=>by omega);have ha:=LY (k:=(Al l.xs x.pred).kind) ok.srt (x:=x) (by omega) (by simp only[hpos];exact heq);simp only[hpos] at ha;refine Abi<|Abi<|AbD AC I (by kernel_rfl)<|Qz (fun w I=>Ld I AH 0 0 4 rfl rfl rfl)<|Am.c (fun w I=>AbO I call113 (BW _ I.j6 _ py) rfl)<|Qz (fun w I=>Ld I AH 2 0 4 rfl rfl rfl)<|Am.c (fun w I=>AbO I call113 (BW _ I.j6 _ px) rfl)<|QT (fun w I=>Abs (AbI rfl rfl) (heq))<|AbH fun w I=>Abw rfl<|Sr<|Ab Ag<|Abh<|Abi<|AbD AC I (by kernel_rfl)<|Qs (fun w I=>Mv)<|Qp (fun w I=>Abu Bu rfl)<|Qi (fun w I=>Ld I An 2 0 1 rfl rfl rfl)<|Qp (fun w I=>AbJ E2 Aia Aim rfl rfl h01.1 rfl)<|Qp (fun w I=>Abr A3 rfl)<|Qi (fun w I=>Abn An rfl (I.rd (E2.rd.part 2 1)) rfl rfl)<|Qp (fun w I=>Abr BL rfl)<|Qi (fun w I=>Ld I An 0 3 1 rfl rfl rfl)<|Qp (fun w I=>Abr BL rfl)<|Qi (fun w I=>Ld I An 2 3 1 rfl rfl rfl)<|Am.c (fun w I=>AbO I call196 (VJ _ I.j6 _ _ _) rfl)<|Qi (fun w I=>Ag)<|AbH fun w I=>Sr<|Ai Mv<|Ap (Abr BL rfl)<|Ai (Ld I An 0 3 1 rfl rfl rfl)<|Ad (AbK rfl rfl)<|Ab Ag<|Abh<|Abg<|Ai Mv<|Ap (Abr BL rfl)<|Abj (Si I An 0 rfl rfl rfl rfl fun w I=>Abh<|Abi<|Abi<|AbD AC I (by kernel_rfl)<|Qb (fun w I=>Mv)<|QF (fun w I=>Y.b (Y.not rfl) (rfl))<|Qb (fun w I=>Mv)<|Abv rfl<|Abv rfl<|Abv rfl<|Abv rfl<|Abv rfl<|Qb (fun w I=>Abp rfl rfl)<|AbH fun w I=>Abq rfl<|Abk<|Abg<|As0 Mv<|Az (Ld I AH 0 0 4 rfl rfl rfl)<|Abj (AbY (xs:=[⟨f.xs[k].pred,f.xs[k].a,f.xs[k].b,joinV l.xs[x.pred.toNat].kind f.xs[k].v x.v⟩]) (enc:=Fct.enc) I Ah8 Aih Aii rfl (Nb rfl) rfl rfl (by decide) (fun _=>rfl) fun b61 h61 w I le61 sl61=>Abj (Ab0 I Ah8 D6 1 rfl rfl rfl (I.rd (sl61 0 _ rfl).2) rfl rfl (by decide) ((by omega)) (by omega) fun b62 c62 w I=>As0 Ag<|Abh<|Abg<|Ai Mv<|Ai (Dd rfl rfl)<|Ai Ag<|Abh ?_)));exact⟨⟨k+1,n+1,some ⟨b62,0,none⟩,c62,f.xs.take k++[⟨f.xs[k].pred,f.xs[k].a,f.xs[k].b,joinV l.xs[x.pred.toNat].kind f.xs[k].v x.v⟩],true,_⟩,⟨⟨rfl,rfl,rfl,rfl,rfl,rfl,rfl,trivial⟩,⟨h61,gl.trans le61,by rw[Ez];exact I.drop⟩,by rw[Ae2,←hn];rfl,(by dsimp only;omega),(by dsimp only;omega),(fun h=>by cases h),fun _=>⟨by
     rw[ha,hpo,Agm,if_pos hk',Afe];rfl,fun j hj hj'=>by
     dsimp only at hj;have:=ok.srt.get (show k<j by omega) hj';omega⟩⟩,(by dsimp only;omega)⟩
   ·have hpos:DC f.xs x=k:=Js (by omega) (fun m h hm=>hlo m hm h) (fun h=>by omega);have hnk:n=k:=by rw[hn,Afj];omega
    have hno:isF f.xs x=false:=by
     rw[AgA];intro hh;obtain⟨q1,q2⟩:=(GJ (x:=x) ok.srt).1 hh;simp only[hpos] at q2;omega
    have ha:=IR (k:=(Al l.xs x.pred).kind) ok.srt hno;rw[hpos] at ha;refine Abi<|Abi<|AbD AC I (by kernel_rfl)<|Qz (fun w I=>Ld I AH 0 0 4 rfl rfl rfl)<|Am.c (fun w I=>AbO I call113 (BW _ I.j6 _ py) rfl)<|Qz (fun w I=>Ld I AH 2 0 4 rfl rfl rfl)<|Am.c (fun w I=>AbO I call113 (BW _ I.j6 _ px) rfl)<|QF (fun w I=>Abt (AbI rfl rfl) ((by omega)))<|AbH fun w I=>Abq rfl<|Abk<|Abi<|Abi<|AbD AC I (by kernel_rfl)<|Qb (fun w I=>Mv)<|QT (fun w I=>Y.b (Y.not rfl) (rfl))<|Qb (fun w I=>Mv)<|Hz (fun w I=>Ld I AH 0 0 4 rfl rfl rfl)<|Acj rfl (fun w I=>AbO I call113 (BW _ I.j6 _ py) rfl)<|Hz (fun w I=>Ld I AH 2 0 4 rfl rfl rfl)<|Acj rfl (fun w I=>AbO I call113 (BW _ I.j6 _ px) rfl)<|HT (fun w I=>Abs (AbL rfl rfl) ((by omega)))<|Qb (fun w I=>Abo rfl rfl)<|AbH fun w I=>Abw rfl<|Sr<|As0 Mv<|Az (Ld I AH 2 0 4 rfl rfl rfl)<|Abj (AbY (xs:=[x]) (enc:=Fct.enc) I Ah8 Aih Aii rfl (Nb rfl) rfl rfl (by decide) (fun _=>rfl) fun b57 h57 w I le57 sl57=>Abj (Ab0 I Ah8 D6 1 rfl rfl rfl (I.rd (sl57 0 _ rfl).2) rfl rfl (by decide) ((by omega)) (by omega) fun b58 c58 w I=>As0 Ag<|Abh<|Abg<|Ab Ag<|Ab Ag<|Abh<|Abg<|As0 Mv<|Az (Ld I AH 0 0 4 rfl rfl rfl)<|Abj (AbY (xs:=[f.xs[k]]) (enc:=Fct.enc) I Ah8 Aih Aii rfl (Nb rfl) rfl rfl (by decide) (fun _=>rfl) fun b61 h61 w I le61 sl61=>Abj (Ab0 I Ah8 D6 1 rfl rfl rfl (I.rd (sl61 0 _ rfl).2) rfl rfl (by decide) ((by omega)) (by omega) fun b62 c62 w I=>As0 Ag<|Abh<|Abg<|Ai Mv<|Ai (Dd rfl rfl)<|Ai Ag<|Abh ?_))));exact⟨⟨k+1,n+1+1,some ⟨b62,0,none⟩,c62,f.xs.take k++[x]++[f.xs[k]],true,true⟩,⟨⟨rfl,rfl,rfl,rfl,rfl,rfl,rfl,trivial⟩,⟨h61,(gl.trans le57).trans le61,by rw[Ez,Ez];exact I.drop⟩,by rw[Ae2,Ae2,←hn];rfl,(by dsimp only;omega),(by dsimp only;omega),(fun h=>by cases h),fun _=>⟨by
     rw[ha,hdr];simp,fun j hj hj'=>by
     dsimp only at hj;have:=ok.srt.get (show k<j by omega) hj';omega⟩⟩,(by dsimp only;omega)⟩
  ·obtain⟨ha,hhi⟩:=hT rfl;have hgt:=hhi k (Afg _) hk';refine Abi<|Abi<|AbD AC I (by kernel_rfl)<|Qz (fun w I=>Ld I AH 0 0 4 rfl rfl rfl)<|Am.c (fun w I=>AbO I call113 (BW _ I.j6 _ py) rfl)<|Qz (fun w I=>Ld I AH 2 0 4 rfl rfl rfl)<|Am.c (fun w I=>AbO I call113 (BW _ I.j6 _ px) rfl)<|QF (fun w I=>Abt (AbI rfl rfl) ((by omega)))<|AbH fun w I=>Abq rfl<|Abk<|Abi<|Abi<|AbD AC I (by kernel_rfl)<|Qb (fun w I=>Mv)<|QF (fun w I=>Y.b (Y.not rfl) (rfl))<|Qb (fun w I=>Mv)<|Abv rfl<|Abv rfl<|Abv rfl<|Abv rfl<|Abv rfl<|Qb (fun w I=>Abp rfl rfl)<|AbH fun w I=>Abq rfl<|Abk<|Abg<|As0 Mv<|Az (Ld I AH 0 0 4 rfl rfl rfl)<|Abj (AbY (xs:=[f.xs[k]]) (enc:=Fct.enc) I Ah8 Aih Aii rfl (Nb rfl) rfl rfl (by decide) (fun _=>rfl) fun b61 h61 w I le61 sl61=>Abj (Ab0 I Ah8 D6 1 rfl rfl rfl (I.rd (sl61 0 _ rfl).2) rfl rfl (by decide) ((by omega)) (by omega) fun b62 c62 w I=>As0 Ag<|Abh<|Abg<|Ai Mv<|Ai (Dd rfl rfl)<|Ai Ag<|Abh ?_));exact⟨⟨k+1,n+1,some ⟨b62,0,none⟩,c62,acc++[f.xs[k]],true,ch⟩,⟨⟨rfl,rfl,rfl,rfl,rfl,rfl,rfl,trivial⟩,⟨h61,gl.trans le61,by rw[Ez];exact I.drop⟩,by rw[Ae2,←hn];rfl,(by dsimp only;omega),(by dsimp only;omega),(fun h=>by cases h),fun _=>⟨by
     rw[ha,hdr,Afe];rfl,fun j hj hj'=>hhi j (by dsimp only at hj;omega) hj'⟩⟩,(by dsimp only;omega)⟩
 obtain rfl:k=f.xs.length:=by omega
 cases th
 ·obtain⟨rfl,rfl,hlo⟩:=hF rfl;have hpos:DC f.xs x=f.xs.length:=Js (by omega) (fun m h hm=>hlo m hm h) (fun h=>by omega);have hno:isF f.xs x=false:=by
   rw[AgA];intro hh;obtain⟨q1,q2⟩:=(GJ (x:=x) ok.srt).1 hh;omega
  have ha:=IR (k:=(Al l.xs x.pred).kind) ok.srt hno;rw[hpos,Afo,Ahs] at ha;rw[Afo] at I hn;refine Abz<|Abi<|Sr<|Ab Mv<|AT (Y.b (Y.not rfl) (rfl))<|Abh<|Abw rfl<|Sr<|As0 Mv<|Az (Ld I AH 1 0 4 rfl rfl rfl)<|Abj (AbY (xs:=[x]) (enc:=Fct.enc) I Ah8 Aih Aii rfl (Nb rfl) rfl rfl (by decide) (fun _=>rfl) fun b67 h67 w I le67 sl67=>Abj (Ab0 I Ah8 D6 0 rfl rfl rfl (I.rd (sl67 0 _ rfl).2) rfl rfl (by decide) ((by omega)) (by omega) fun b68 c68 w I=>As0 Ag<|Abh<|Abg<|Ab Ag<|Abh ?_));have I:Inv B h67 [Ao 83 4 (.slice (some ⟨b68,0,none⟩) (n+1) c68) (n+1) ((f.xs++[x]).flatMap Fct.enc),box b5 x.enc 83] w:=by rw[Ez];exact I
  obtain⟨h8,s8,le8,hv8,hx8,in8,I⟩:=I.p8 (fun _=>rfl) (by rw[Ae2,←hn];rfl);refine Sr<|As0 Mv<|Ab Mv<|As0 Ag<|Ab Ag<|Abh<|Wr ?_;exact BH.mk (vs:=[.slice _ _ _,.bool _]) rfl ⟨rfl,rfl,trivial⟩ I.j5 (by rw[ha];exact⟨s8,by rw[hv8];rfl,hx8,in8,by rw[hx8,Ae2,←hn];simp only[Afv];omega⟩)
 ·obtain⟨ha,_⟩:=hT rfl;rw[Ahs,Aft] at ha;refine Abz<|Abi<|Sr<|Ab Mv<|AF (Y.b (Y.not rfl) (rfl))<|Abh<|Abq rfl ?_;obtain⟨h8,s8,le8,hv8,hx8,in8,I⟩:=I.p8 (fun _=>rfl) hn;refine Abk<|Sr<|As0 Mv<|Ab Mv<|As0 Ag<|Ab Ag<|Abh<|Wr ?_;exact BH.mk (vs:=[.slice _ _ _,.bool _]) rfl ⟨rfl,rfl,trivial⟩ I.j5 (by rw[ha];exact⟨s8,by rw[hv8];rfl,hx8,in8,by rw[hx8,←hn];omega⟩)
end
section
set_option linter.unusedSimpArgs false
theorem J3{p:Prg}(hp0:Ac p=0){x:Fct}(r:Ze p.preds.xs x):(CF p.preds.xs x).length≤21:=by
 have h1:=IY hp0 r.aok;have dl:=FE (n:=x.v.toNat) (by have:=r.v;omega);unfold CF;split<;>simp only[Ae2,Ae6,Afc]<;>omega
end
section
instance :DecidableEq Trm:=fun a b=>decidable_of_iff (a.var=b.var∧a.n=b.n) (by cases a;cases b;simp)
instance :DecidableEq Prd:=fun a b=>decidable_of_iff (a.name=b.name∧a.arity=b.arity∧a.kind=b.kind) (by cases a;cases b;simp)
end
section
end
section
end
section
end
section
theorem Cl.nm{p:Prg}{h:Ae}(x:Cl p h):p.Nm:=by
 unfold Prg.Nm;rw[x.preds];decide
theorem Cl.check{p:Prg}{h:Ae}(x:Cl p h):Ac p=0:=by rw[←B6,x.er,GO]
end
section
end
section
theorem P7{p:Prg}(h:Ac p=0):(Cz p).length≤1183:=by
 have:=JV h (BI p).length;rwa [Afo] at this
theorem OX{p:Prg}(h:Ac p=0):B4 (mk (Cz p))=some (p.preds.xs,p.rules.xs.map Rul.er):=by
 have hl:=P7 h;unfold B4;rw[if_neg (by rw[Ar];omega)];rw[show tx (mk (Cz p))=Cz p from rfl,PL h];simp only;have e:D9 (p.preds.xs,p.rules.xs.map Rul.er)=p.er:=rfl;rw[e,B6,F4,if_pos ⟨h,rfl⟩]
theorem VV{p:Prg}(h:p.er=AM):Cz p=Cz AM:=by rw[←F4,h]
end
section
theorem Yp(B:Aq)(hB:B.ok)(p:Prg)(hp:Cl p B.h):Fn prog 7 [p.val] B (fun v _=>v=.tuple #[.string (mk (Cz AM)),.int .i64 0]):=
 (Md B hB p hp.is hp.nm).mono fun v h' _ hv=>by rw[hv];unfold JW;rw[if_pos hp.check,VV hp.er]
end
section
def ofQ(p:Prg)(M:List Int)(st:Int)(n:Nat):Bool:=decide (lv M (p.rules.xs.getD n default).head.pred=st)
def BB(l:List Prd)(f:List Fct)(rs:List Rul)(q:Nat→Bool)(n:Nat):List (Stp×Fct):=
 if q n then (A6 f n (rs.getD n default)).map fun s=>(s,CP l f (rs.getD n default) s.vars) else []
def Cx(l:List Prd)(f:List Fct)(rs:List Rul)(q:Nat→Bool)(k:Nat):List (Stp×Fct):=(List.range k).flatMap (BB l f rs q)
abbrev BM(l:List Prd)(f:List Fct)(rs:List Rul)(q:Nat→Bool):List (Stp×Fct):=Cx l f rs q rs.length
section
variable {l:List Prd}{f:List Fct}{rs:List Rul}{q:Nat→Bool}{n:Nat}
theorem B0:Cx l f rs q (n+1)=Cx l f rs q n++BB l f rs q n:=by unfold Cx;rw[AgW,Afm];simp
theorem TK{m k:Nat}(hn:n<m){x:Stp×Fct}(hk:(BB l f rs q n)[k]?=some x):(Cx l f rs q m)[(Cx l f rs q n).length+k]?=some x:=by
 obtain⟨t,ht⟩:∃t,Cx l f rs q m=Cx l f rs q n++BB l f rs q n++t:=by
  induction m with
  |zero=>omega
  |succ m ih=>
   by_cases e:n=m
   ·subst e;exact⟨[],by rw[B0,Aft]⟩
   ·obtain⟨t,ht⟩:=ih (by omega);exact⟨t++BB l f rs q m,by rw[B0,ht,Afe]⟩
 have hl:=(Ae9.1 hk).1;rw[ht,Afe,Af5 (by omega),AfU (by omega)];rw[←hk];congr 1;omega
theorem Dr{x:Stp×Fct}:x∈BM l f rs q↔∃n r,rs[n]?=some r∧q n=true∧x.1∈A6 f n r∧x.2=CP l f r x.1.vars:=by
 unfold BM Cx;rw[Af1];constructor
 ·rintro⟨n,hn,hx⟩;have hn':n<rs.length:=Af0.1 hn;have hr:rs[n]?=some rs[n]:=Ae4 hn';unfold BB at hx;rw[Ae3,hr] at hx;simp only[Aga] at hx;split at hx
  ·rename_i hq;obtain⟨s,hs,rfl⟩:=AfE.1 hx;exact⟨n,rs[n],hr,hq,hs,rfl⟩
  ·cases hx
 ·rintro⟨n,r,hr,hq,hs,he⟩;refine⟨n,Af0.2 (Ae9.1 hr).1,?_⟩;unfold BB;rw[Ae3,hr,if_pos hq];simp only[Aga];exact AfE.2 ⟨x.1,hs,by obtain⟨a,b⟩:=x;dsimp only at he ⊢;rw[he]⟩
end
def Kx(l:List Prd)(s:List Fct×Bool)(x:Fct):List Fct×Bool:=((Dw (Al l x.pred).kind s.1 x).1,s.2 || (Dw (Al l x.pred).kind s.1 x).2)
def CV(l:List Prd)(f:List Fct)(ts:List (Stp×Fct)):List Fct×Bool:=ts.foldl (fun s t=>Kx l s t.2) (f,false)
theorem F8{l:List Prd}{f:List Fct}{ts:List (Stp×Fct)}{t:Stp×Fct}:CV l f (ts++[t])=Kx l (CV l f ts) t.2:=by unfold CV;rw[Agq];rfl
theorem Lj{l:List Prd}{f:List Fct}{ts:List (Stp×Fct)}{k:Nat}(hk:k<ts.length):CV l f (ts.take (k+1))=Kx l (CV l f (ts.take k)) ts[k].2:=by
 rw[Afi hk,F8]
theorem CW{l:List Prd}{f:List Fct}(okf:FOk l f){ts:List (Stp×Fct)}(h:∀t∈ts,factFine l t.2=true):FOk l (CV l f ts).1:=by
 have:∀k,k≤ts.length→FOk l (CV l f (ts.take k)).1:=fun k=>by
  induction k with
  |zero=>intro _;exact okf
  |succ k ih=>
   intro hk;rw[Lj (by omega)];exact DW (ih (by omega)) (h _ (Ae5 _))
 have:=this ts.length (Afg _);rwa [Afo] at this
theorem Cn{f:List Fct}{n:Int}{r:Rul}{s:Stp}(h:s∈A6 f n r):s.rule=n∧KE s.vars∧Bv f r s.vars=true:=by
 unfold A6 at h;obtain⟨x,hx,rfl⟩:=AfE.1 h;obtain⟨h1,h2⟩:=AfN.1 hx;rw[Afn] at h2;exact⟨rfl,G9.1 h1,h2.2⟩
theorem Bj{l:List Prd}{f:List Fct}{rs:List Rul}{q:Nat→Bool}(ok:∀r∈rs,ROk l r)(okf:FOk l f):∀t∈BM l f rs q,factFine l t.2=true:=fun t ht=>by
 obtain⟨n,r,hr,_,hs,he⟩:=Dr.1 ht;obtain⟨_,hv,hh⟩:=Cn hs;rw[he];exact Et (ok r (Afk hr)) okf hv hh
end
section
section
variable {l:List Prd}{f b:List Fct}{x:Fct}
theorem TL(hf:FOk l f)(hb:FOk l b)(hx:factFine l x=true)(h1:A8 l f b=true)(h2:A8 l [x] b=true):A8 l (SH l f x) b=true:=A1.2 fun z hz=>by
 have okA:FOk l (SH l f x):=DW hf hx;have hzf:=okA.fine z hz;have hlz:=Es okA.srt hz;rw[FY hf] at hlz;obtain⟨v,hv1,hv2⟩:=A1.1 h2 x (Ahc _);split at hlz
 ·rename_i e;have hpz:=DD hf.len hzf hx e;rw[e] at hlz;rw[e,hpz];refine⟨v,hv1,?_⟩;injection hlz with hlz;rw[←hlz];cases hu:lkF f (Ah x) with
  |none=>exact hv2
  |some u=>
   obtain⟨y,hy,ey,rfl⟩:=DB hu;obtain⟨v',k1,k2⟩:=A1.1 h1 y hy;rw[ey,hv1] at k1;injection k1 with k1;subst k1;have hyp:=DD hf.len (hf.fine y hy) hx ey;rw[hyp] at k2;have hvo:=hb.look hx hv1;have hyo:=Da (hf.fine y hy);rw[hyp] at hyo;exact(M6 hyo (Da hx) hvo).2 ⟨k2,hv2⟩
 ·obtain⟨y,hy,ey,e2⟩:=DB hlz;obtain⟨v',k1,k2⟩:=A1.1 h1 y hy;have hyp:=DD hf.len (hf.fine y hy) hzf ey;rw[ey] at k1;rw[hyp,e2] at k2;exact⟨v',k1,k2⟩
theorem TM(hf:FOk l f)(hx:factFine l x=true)(h:A8 l [x] f=true):Dw (Al l x.pred).kind f x=(f,false):=by
 obtain⟨v,h1,h2⟩:=A1.1 h x (Ahc _);have hv:=hf.look hx h1;have hc:(Dw (Al l x.pred).kind f x).2=false:=by
  rw[LX hf.srt,h1];apply decide_eq_false;intro hh;apply hh;show some v=some (joinV _ v x.v);rw[FW hv (Da hx),show joinV _ x.v v=v from h2]
 exact Prod.ext (G7 hc) hc
end
def TN(l:List Prd)(s:List Fct×Bool)(ts:List (Stp×Fct)):List Fct×Bool:=ts.foldl (fun s t=>Kx l s t.2) s
structure AaE(l:List Prd)(s r:List Fct×Bool)(ts:List (Stp×Fct)):Prop where
 fok:FOk l r.1
 up:A8 l s.1 r.1=true
 each:∀t∈ts,A8 l [t.2] r.1=true
 no:r.2=false→s.2=false∧r.1=s.1
 yes:r.2=true→s.2=true∨r.1≠s.1
theorem Ho{l:List Prd}:∀(ts:List (Stp×Fct)) (s:List Fct×Bool),FOk l s.1→(∀t∈ts,factFine l t.2=true)→AaE l s (TN l s ts) ts
 |[],s,hs,_=>⟨hs,FZ hs,fun t ht=>by simp at ht,fun h=>⟨h,rfl⟩,fun h=>.inl h⟩
 |t::ts,s,hs,hf=>by
  have hx:=hf t Ae7;have hs':FOk l (Kx l s t.2).1:=DW hs hx;have ih:=Ho ts (Kx l s t.2) hs' fun u hu=>hf u (Ae8 _ hu);have hr:TN l s (t::ts)=TN l (Kx l s t.2) ts:=rfl;rw[hr];have u1:A8 l s.1 (Kx l s t.2).1=true:=Jt hs hx;have u2:A8 l [t.2] (Kx l s t.2).1=true:=Nc hs hx;have hch:(Kx l s t.2).2=(s.2 || decide ((Kx l s t.2).1≠s.1)):=by show(s.2 || (Dw _ s.1 t.2).2)=_;rw[XR hs];rfl
  refine⟨ih.fok,DE hs hs' ih.fok u1 ih.up,fun u hu=>?_,fun h=>?_,fun h=>?_⟩
  ·rcases Afq.1 hu with rfl|hu
   ·exact DE (OF hs.len hs.preds hx) hs' ih.fok u2 ih.up
   ·exact ih.each u hu
  ·obtain⟨h1,h2⟩:=ih.no h;rw[hch,Agx,decide_eq_false_iff_not,Afh] at h1;exact⟨h1.1,h2.trans h1.2⟩
  ·have key:(TN l (Kx l s t.2) ts).1=s.1→(Kx l s t.2).1=s.1:=fun e=>by
    have:=ih.up;rw[e] at this;exact F0 hs' hs this u1
   rcases ih.yes h with h1|h1
   ·rw[hch,Agl,decide_eq_true_eq] at h1;rcases h1 with h1|h1
    ·exact .inl h1
    ·exact .inr fun e=>h1 (key e)
   ·exact .inr fun e=>h1 (e.trans (key e).symm)
theorem J4{l:List Prd}{b:List Fct}(hb:FOk l b):∀(ts:List (Stp×Fct)) (s:List Fct×Bool),FOk l s.1→(∀t∈ts,factFine l t.2=true)→A8 l s.1 b=true→(∀t∈ts,A8 l [t.2] b=true)→A8 l (TN l s ts).1 b=true
 |[],s,_,_,h,_=>h
 |t::ts,s,hs,hf,h,ht=>by
  have hx:=hf t Ae7;exact J4 hb ts (Kx l s t.2) (DW hs hx) (fun u hu=>hf u (Ae8 _ hu)) (TL hs hb hx h (ht t Ae7)) fun u hu=>ht u (Ae8 _ hu)
theorem P8{l:List Prd}{f:List Fct}(hf:FOk l f):∀(ts:List (Stp×Fct)),(∀t∈ts,factFine l t.2=true)→(∀t∈ts,A8 l [t.2] f=true)→TN l (f,false) ts=(f,false)
 |[],_,_=>rfl
 |t::ts,h1,h2=>by
  have:Kx l (f,false) t.2=(f,false):=by
   unfold Kx;rw[TM hf (h1 t Ae7) (h2 t Ae7)];rfl
  show TN l (Kx l (f,false) t.2) ts=_;rw[this];exact P8 hf ts (fun u hu=>h1 u (Ae8 _ hu)) fun u hu=>h2 u (Ae8 _ hu)
theorem P9(l:List Prd)(f:List Fct)(ts:List (Stp×Fct)):CV l f ts=TN l (f,false) ts:=rfl
section
variable {l:List Prd}{f:List Fct}{ts:List (Stp×Fct)}(hf:FOk l f)(ht:∀t∈ts,factFine l t.2=true)
include hf ht
theorem I5:(CV l f ts).2=decide ((CV l f ts).1≠f):=by
 have r:=Ho ts (f,false) hf ht;rw[P9];cases h:(TN l (f,false) ts).2
 ·exact(decide_eq_false (fun e=>e (r.no h).2)).symm
 ·rcases r.yes h with h1|h1
  ·cases h1
  ·exact(decide_eq_true h1).symm
theorem Dx:A8 l f (CV l f ts).1=true:=(Ho ts (f,false) hf ht).up
theorem TO:(CV l f ts).2=false↔∀t∈ts,A8 l [t.2] f=true:=by
 have r:=Ho ts (f,false) hf ht;constructor
 ·intro h t htm;have:=r.each t htm;rwa [(r.no h).2] at this
 ·intro h;rw[P9,P8 hf ts ht h]
end
end
section
def ZN:List Fct:=(List.range 5).flatMap fun (p:Nat)=>(List.range 5).flatMap fun (a:Nat)=>(List.range 5).flatMap fun (b:Nat)=>(List.range 16).map fun (v:Nat)=>(⟨(p:Int),(a:Int),(b:Int),(v:Int)⟩:Fct)
theorem VW:ZN.length=2000:=by decide +kernel
def Ec(l:List Prd)(f:List Fct):Nat:=ZN.countP fun x=>factFine l x && A8 l [x] f
theorem B1(l:List Prd)(f:List Fct):Ec l f≤2000:=by
 have:Ec l f≤ZN.length:=AgV;rwa [VW] at this
theorem VX{l:List Prd}(h5:l.length≤5){x:Fct}(hx:factFine l x=true):x∈ZN:=by
 obtain⟨h1,h2,h3,_,_,hv⟩:=Ct.1 hx;have h6:=DA.1 hv;obtain⟨p,a,b,v⟩:=x;dsimp only at h1 h2 h3 h6;simp only[ZN,Af1,AfE,Af0];exact⟨p.toNat,by omega,a.toNat,by omega,b.toNat,by omega,v.toNat,by omega,by simp only[Fct.mk.injEq];omega⟩
theorem Lk{α:Type}{p q:α→Bool}:∀{l:List α},(∀x∈l,p x=true→q x=true)→(∃x∈l,p x=false∧q x=true)→l.countP p<l.countP q
 |[],_,⟨x,hx,_⟩=>by simp at hx
 |y::l,h,⟨x,hx,h1,h2⟩=>by
  have hl:l.countP p≤l.countP q:=AhY fun z hz=>h z (Ae8 _ hz);rw[AhR,AhR];rcases Afq.1 hx with rfl|hx
  ·simp only[h1,h2,Afy,if_false,if_true];omega
  ·have:=Lk (fun z hz=>h z (Ae8 _ hz)) ⟨x,hx,h1,h2⟩;have hy:=h y Ae7;cases hp:p y
   ·simp only[Afy,if_false];split<;>omega
   ·simp only[hy hp,if_true];omega
theorem F9{l:List Prd}{f g:List Fct}:A8 l f g=true↔∀y∈f,A8 l [y] g=true:=by
 rw[A1];constructor
 ·intro h y hy;rw[A1];intro z hz;rw[Afl.1 hz];exact h y hy
 ·intro h y hy;exact A1.1 (h y hy) y (Ahc _)
theorem GR{l:List Prd}{f g:List Fct}(okf:FOk l f)(okg:FOk l g)(hu:A8 l f g=true)(hne:g≠f):Ec l f<Ec l g:=by
 refine Lk (fun x _ hx=>?_) ?_
 ·rw[Afn] at hx ⊢;exact⟨hx.1,DE (OF okf.len okf.preds hx.1) okf okg hx.2 hu⟩
 ·by_cases h:∀y∈g,A8 l [y] f=true
  ·exact absurd (F0 okg okf (F9.2 h) hu) hne
  ·rw[Classical.not_forall] at h;obtain⟨y,h⟩:=h;rw[Classical.not_imp] at h;obtain⟨hy,hn⟩:=h;have hyf:=okg.fine y hy;exact⟨y,VX okg.len hyf,by rw[hyf,AgY];simpa using hn,by rw[hyf,AgY];exact F9.1 (FZ okg) y hy⟩
inductive Clo(T:List Fct→List Fct×Bool):List Fct→List Fct→Nat→Prop
 |stop {f:List Fct} (h:(T f).2=false):Clo T f f 0
 |step {f r:List Fct} {n:Nat} (h:(T f).2=true) (c:Clo T (T f).1 r n):Clo T f r (n+1)
theorem Clo.uniq{T:List Fct→List Fct×Bool}{f r:List Fct}{n:Nat}(h:Clo T f r n):∀{r':List Fct} {n':Nat},Clo T f r' n'→r'=r∧n'=n:=by
 induction h with
 |stop h=>
  intro r' n' h';cases h' with
  |stop _=>exact⟨rfl,rfl⟩
  |step h2 _=>rw[h] at h2;cases h2
 |step h c ih=>
  intro r' n' h';cases h' with
  |stop h2=>rw[h] at h2;cases h2
  |step _ c'=>obtain⟨rfl,rfl⟩:=ih c';exact⟨rfl,rfl⟩
theorem Clo.end_{T:List Fct→List Fct×Bool}{f r:List Fct}{n:Nat}(h:Clo T f r n):(T r).2=false:=by
 induction h with
 |stop h=>exact h
 |step _ _ ih=>exact ih
theorem Clo.inv{T:List Fct→List Fct×Bool}{J:List Fct→Prop}{f r:List Fct}{n:Nat}(h:Clo T f r n)(j0:J f)(hs:∀g,J g→(T g).2=true→J (T g).1):J r:=by
 induction h with
 |stop _=>exact j0
 |step h _ ih=>exact ih (hs _ j0 h)
def TP(T:List Fct→List Fct×Bool)(f0:List Fct)(k:Nat)(f:List Fct):Prop:=∀r n,Clo T f r n→Clo T f0 r (k+n)
theorem TP.zero{T:List Fct→List Fct×Bool}{f:List Fct}:TP T f 0 f:=fun r n h=>by rw[Agg];exact h
theorem TP.next{T:List Fct→List Fct×Bool}{f0 f:List Fct}{k:Nat}(h:TP T f0 k f)(h2:(T f).2=true):TP T f0 (k+1) (T f).1:=fun r n c=>by
 have:=h r (n+1) (.step h2 c);rwa [show k+(n+1)=k+1+n by omega] at this
theorem TP.done{T:List Fct→List Fct×Bool}{f0 f:List Fct}{k:Nat}(h:TP T f0 k f)(h2:(T f).2=false):Clo T f0 f k:=h f 0 (.stop h2)
def RU(T:List Fct→List Fct×Bool):Nat→List Fct→Option (List Fct×Nat)
 |0,_=>none
 |k+1,f=>if (T f).2 then (RU T k (T f).1).map fun r=>(r.1,r.2+1) else some (f,0)
theorem Hq{T:List Fct→List Fct×Bool}:∀{k:Nat} {f r:List Fct} {n:Nat},RU T k f=some (r,n)→Clo T f r n
 |0,_,_,_,h=>by cases h
 |k+1,f,r,n,h=>by
  rw[RU] at h;split at h
  ·rename_i h2;cases hc:RU T k (T f).1 with
   |none=>rw[hc] at h;cases h
   |some x=>
    rw[hc] at h;simp only[Agf,Option.some.injEq,Prod.mk.injEq] at h;obtain⟨rfl,rfl⟩:=h;exact .step h2 (Hq hc)
  ·rename_i h2;simp only[Option.some.injEq,Prod.mk.injEq] at h;obtain⟨rfl,rfl⟩:=h;exact .stop (by simpa using h2)
def B2(p:Prg)(M:List Int)(st:Int)(f:List Fct):List Fct×Bool:=CV p.preds.xs f (BM p.preds.xs f p.rules.xs (ofQ p M st))
def GB(p:Prg)(M:List Int):Nat→List Fct→List Int→Prop
 |0,f,rs=>f=[]∧rs=[]
 |k+1,f,rs=>∃f0 rs0 n,GB p M k f0 rs0∧Clo (B2 p M k) f0 f n∧rs=rs0++[(n:Int)]
theorem GB.uniq{p:Prg}{M:List Int}:∀{k:Nat} {f f':List Fct} {rs rs':List Int},GB p M k f rs→GB p M k f' rs'→f'=f∧rs'=rs
 |0,_,_,_,_,⟨h1,h2⟩,⟨h3,h4⟩=>⟨h3.trans h1.symm,h4.trans h2.symm⟩
 |k+1,_,_,_,_,⟨f0,r0,n,a,b,c⟩,⟨f0',r0',n',a',b',c'⟩=>by
  obtain⟨rfl,rfl⟩:=GB.uniq a a';obtain⟨rfl,rfl⟩:=b.uniq b';exact⟨rfl,c'.trans c.symm⟩
theorem GB.len{p:Prg}{M:List Int}:∀{k:Nat} {f:List Fct} {rs:List Int},GB p M k f rs→rs.length=k
 |0,_,_,⟨_,h⟩=>by rw[h];rfl
 |k+1,_,_,⟨_,_,_,a,_,c⟩=>by rw[c,Ae2,GB.len a];rfl
def EV(l:List Int):Int:=l.foldl max (-1)
theorem NM(l:List Int):∀(a:Int),l.foldl max a=max a (l.foldl max a)∧(∀x∈l,x≤l.foldl max a)∧(l.foldl max a=a∨l.foldl max a∈l):=by
 induction l with
 |nil=>intro a;exact⟨by simp,fun x hx=>by simp at hx,.inl rfl⟩
 |cons y l ih=>
  intro a;obtain⟨h1,h2,h3⟩:=ih (max a y);rw[Agk];refine⟨by omega,fun x hx=>?_,?_⟩
  ·rcases Afq.1 hx with rfl|hx
   ·omega
   ·exact h2 x hx
  ·rcases h3 with h3|h3
   ·rcases Int.le_total a y with h|h
    ·right;rw[h3,Int.max_eq_right h];exact Ae7
    ·left;rw[h3,Int.max_eq_left h]
   ·exact .inr (Ae8 _ h3)
theorem VY(l:List Int):-1≤EV l:=by have:=(NM l (-1)).1;unfold EV;omega
theorem VZ(l:List Int):EV l=-1∨EV l∈l:=(NM l (-1)).2.2
abbrev Ds(M:List Int):Nat:=(EV M+1).toNat
end
end Go.TF
