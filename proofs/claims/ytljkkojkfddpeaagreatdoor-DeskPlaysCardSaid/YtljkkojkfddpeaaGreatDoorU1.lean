/- Texts LIBA Base1 Base2 Base3 Base4 Base5 Base6 Base7 Base8 Base9. -/
import Derived.WalkKit
import Derived.WalkLawsBesides
import Derived.Orders
import Derived.Deep.Quiet
import Derived.OwnWalk
import Derived.Laws.StructEq
set_option maxRecDepth 20000
set_option maxHeartbeats 16000000
set_option linter.unusedVariables false
set_option linter.unusedSimpArgs false
set_option linter.defProp false
namespace Go.TF
open Go Go.RowKit
section
def Ae2:=@List.length_append
def Ae3:=@List.getD_eq_getElem?_getD
def Ae4:=@List.getElem?_eq_getElem
def Ae5:=@List.getElem_mem
def Ae6:=@List.length_cons
def Ae7:=@List.mem_cons_self
def Ae8:=@List.mem_cons_of_mem
def Ae9:=@List.getElem?_eq_some_iff
def Afa:=@Nat.zero_le
def Afb:=@ByteArray.size_append
def Afc:=@List.length_nil
def Afd:=@Nat.lt_succ_iff_lt_or_eq
def Afe:=@List.append_assoc
def Aff:=@List.all_eq_true
def Afg:=@Nat.le_refl
def Afh:=@Decidable.not_not
def Afi:=@List.take_succ_eq_append_getElem
def Afj:=@List.length_take
def Afk:=@List.mem_of_getElem?
def Afl:=@List.mem_singleton
def Afm:=@List.flatMap_append
def Afn:=@Bool.and_eq_true
def Afo:=@List.take_length
def Afp:=@Array.getD_eq_getD_getElem?
def Afq:=@List.mem_cons
def Afr:=@Array.getElem?_eq_some_iff
def Afs:=@Int.toNat_natCast
def Aft:=@List.append_nil
def Afu:=@List.mem_append
def Afv:=@List.length_singleton
def Afw:=@List.length_map
def Afx:=@List.size_toArray
def Afy:=@Bool.false_eq_true
def Afz:=@List.getElem_of_mem
def AfA:=@Nat.mul_le_mul_right
def AfB:=@List.pairwise_cons
def AfC:=@List.nil_append
def AfD:=@List.length_drop
def AfE:=@List.mem_map
def AfF:=@List.getElem?_take
def AfG:=@List.any_eq_true
def AfH:=@List.cons_append
def AfI:=@List.getElem?_map
def AfJ:=@List.sublist_append_right
def AfK:=@List.flatMap_cons
def AfL:=@Array.getElem?_replicate
def AfM:=@List.map_append
def AfN:=@List.mem_filter
def AfO:=@List.length_filter_le
def AfP:=@Nat.add_mul
def AfQ:=@List.map_cons
def AfR:=@Int.natCast_nonneg
def AfS:=@List.take_add_one
def AfT:=@List.flatMap_singleton
def AfU:=@List.getElem?_append_left
def AfV:=@List.drop_eq_nil_of_le
def AfW:=@List.take_of_length_le
def AfX:=@List.mem_of_mem_take
def AfY:=@Nat.le_trans
def AfZ:=@List.drop_eq_getElem_cons
def Af0:=@List.mem_range
def Af1:=@List.mem_flatMap
def Af2:=@Array.length_toList
def Af3:=@List.sublist_cons_self
def Af4:=@Nat.lt_or_ge
def Af5:=@List.getElem?_append_right
def Af6:=@Array.mem_of_getElem?
def Af7:=@List.length_pos_iff
def Af8:=@List.not_mem_nil
def Af9:=@List.getElem?_drop
def Aga:=@Option.getD_some
def Agb:=@List.any_eq_false
def Agc:=@List.getElem_cons_succ
def Agd:=@List.getElem_cons_zero
def Age:=@Array.getElem?_append
def Agf:=@Option.map_some
def Agg:=@Nat.zero_add
def Agh:=@List.length_eq_zero_iff
def Agi:=@List.perm_middle
def Agj:=@List.getElem?_eq_none
def Agk:=@List.foldl_cons
def Agl:=@Bool.or_eq_true
def Agm:=@List.set_eq_take_append_cons_drop
def Agn:=@List.findIdx?_eq_some_iff_getElem
def Ago:=@List.ext_getElem?
def Agp:=@List.mem_map_of_mem
def Agq:=@List.foldl_append
def Agr:=@List.eraseIdx_eq_take_drop_succ
def Ags:=@Nat.min_eq_left
def Agt:=@Option.isSome_iff_exists
def Agu:=@List.eq_nil_of_length_eq_zero
def Agv:=@List.filter_cons
def Agw:=@List.getElem?_set_ne
def Agx:=@Bool.or_eq_false_iff
def Agy:=@Bool.false_or
def Agz:=@Bool.and_false
def AgA:=@Bool.eq_false_iff
def AgB:=@Bool.not_eq_true'
def AgC:=@List.isSuffixOf_iff_suffix
def AgD:=@List.filter_append
def AgE:=@Bool.not_eq_false'
def AgF:=@List.perm_append_comm
def AgG:=@List.take_append_drop
def AgH:=@Bool.eq_iff_iff
def AgI:=@List.all_eq_false
def AgJ:=@List.map_map
def AgK:=@List.drop_succ_cons
def AgL:=@List.getElem?_cons_succ
def AgM:=@List.map_congr_left
def AgN:=@Nat.add_sub_cancel_left
def AgO:=@Bool.false_and
def AgP:=@List.drop_of_length_le
def AgQ:=@List.map_singleton
def AgR:=@Nat.eq_of_beq_eq_true
def AgS:=@Nat.add_zero
def AgT:=@List.map_nil
def AgU:=@List.mem_iff_getElem?
def AgV:=@List.countP_le_length
def AgW:=@List.range_succ
def AgX:=@UInt8.toNat_inj
def AgY:=@Bool.true_and
def AgZ:=@List.getElem?_modify
def Ag0:=@List.range_eq_range'
def Ag1:=@List.take_left
def Ag2:=@List.findIdx?_eq_none_iff
def Ag3:=@Bool.not_eq_true
def Ag4:=@Bool.true_or
def Ag5:=@List.all_cons
def Ag6:=@Nat.lt_of_lt_of_le
def Ag7:=@List.getElem?_cons_zero
def Ag8:=@List.of_mem_zip
def Ag9:=@List.pairwise_singleton
def Aha:=@List.map_replicate
def Ahb:=@Option.toList_some
def Ahc:=@List.mem_singleton_self
def Ahd:=@List.filter_eq_nil_iff
def Ahe:=@List.getElem?_set
def Ahf:=@Array.size_append
def Ahg:=@Nat.lt_trichotomy
def Ahh:=@Int.le_refl
def Ahi:=@Nat.one_mul
def Ahj:=@List.take_zero
def Ahk:=@Nat.le_of_ble_eq_true
def Ahl:=@List.set_getElem_self
def Ahm:=@List.singleton_append
def Ahn:=@List.find?_eq_some_iff_getElem
def Aho:=@Int.le_of_eq
def Ahp:=@List.range'_succ
def Ahq:=@List.take_append
def Ahr:=@List.drop_append
def Ahs:=@List.drop_length
def Aht:=@List.flatMap_def
def Ahu:=@Nat.lt_succ_self
def Ahv:=@Array.getElem?_setIfInBounds
def Ahw:=@Nat.add_assoc
def Ahx:=@List.mem_zipIdx_iff_getElem?
def Ahy:=@Bool.and_true
def Ahz:=@List.length_set
def AhA:=@Array.toList_append
def AhB:=@List.countP_pos_iff
def AhC:=@List.takeWhile_cons
def AhD:=@Nat.not_lt_zero
def AhE:=@List.filter_sublist
def AhF:=@List.isPrefixOf_iff_prefix
def AhG:=@Array.getElem?_append_left
def AhH:=@Array.foldl_toList
def AhI:=@Option.isNone_some
def AhJ:=@List.getElem?_eq_none_iff
def AhK:=@List.drop_take
def AhL:=@List.pairwise_iff_getElem
def AhM:=@List.drop_zero
def AhN:=@List.getElem_take
def AhO:=@List.eraseIdx_cons_succ
def AhP:=@Option.bind_some
def AhQ:=@List.all_flatMap
def AhR:=@List.countP_cons
def AhS:=@List.getElem_map
def AhT:=@Bool.beq_eq_decide_eq
def AhU:=@List.getElem?_toArray
def AhV:=@List.modify_succ_cons
def AhW:=@Nat.le_of_lt
def AhX:=@List.take_left'
def AhY:=@List.countP_mono_left
def AhZ:=@Nat.sub_self
def Ah0:=@Array.getElem?_modify
def Ah1:=@List.take_take
def Ah2:=@List.drop_drop
def Ah3:=@List.foldl_nil
def Ah4:=@Nat.min_def
def Ah5:=@Nat.zero_mul
def Ah6:=@Int.lt_trans
def Ah7:=@List.any_map
end
section
abbrev Env:=Nat→Value
def upd(e:Env)(d:Nat)(v:Value):Env:=fun i=>bif Nat.beq i d then v else e i
def CQ(e:Env)(d:Option Nat)(v:Value):Env:=match d with|some d=>upd e d v|none=>e
def ev(e:Env):Operand→Value
 |.tmp t=>e t
 |.const v=>v
 |.global g=>.pointer (some ⟨g,0,none⟩)
 |.func f=>.func (.func f) #[] #[]
def env(a:Act):Env:=fun i=>a.tmps.getD i undef
theorem BU(a:Act):a.eval=ev (env a):=by funext x;cases x<;>rfl
theorem RY(a:Act)(d:Nat)(v:Value)(h:d<a.tmps.size):env (a.put (some d) v)=upd (env a) d v:=by
 funext i;simp only[env,Act.put,upd,Afp,Ahv];by_cases hi:d=i
 ·subst hi;simp[h]
 ·have:Nat.beq i d=false:=by
   cases hb:Nat.beq i d
   ·rfl
   ·exact(hi (AgR hb).symm).elim
  simp[hi,this]
theorem Bm(a:Act)(d:Option Nat)(v:Value):(a.put d v).tmps.size=a.tmps.size:=by cases d<;>simp[Act.put]
theorem AY(a:Act)(d:Option Nat)(v:Value):(a.put d v).defers=a.defers:=by cases d<;>rfl
theorem Cg(a:Act)(d:Option Nat)(v:Value)(h:d.all (· < a.tmps.size)=true):env (a.put d v)=CQ (env a) d v:=by
 cases d with
 |none=>rfl
 |some d=>exact RY a d v (by simpa using h)
def Op1(P:Program)(o:Oper)(e:Env)(w:World)(K:Value→World→Prop):Prop:=
 match (execOp (ev e) o).run P w with
 |.ok (.value v) w'=>K v w'
 |.ok .skip w'=>K undef w'
 |.ok (.enter f args) w'=>Calls P f args w' fun
   |.returned v,w''=>K v w''
   |_,_=>False
 |_=>False
theorem MR{P:Program}{o:Oper}{a:Act}{w:World}{next:Act→World→Prop}{Q:Exit→Act→World→Prop}
  (h:Op1 P o (env a) w fun v w'=>next (a.put o.dst v) w'):o.wp P a w next Q:=by
 unfold Op1 at h;unfold Oper.wp;rw[BU];generalize (execOp (ev (env a)) o).run P w=r at *;cases r with
 |ok n w'=>
  cases n<;>simp only at h<;>first|exact h.elim|exact h|skip;exact Calls.mono h fun e w'' he=>by cases e<;>first|exact he|exact he.elim
 |halt x w'=>exact h.elim
theorem Op1.mono{P:Program}{o:Oper}{e:Env}{w:World}{K K':Value→World→Prop}(h:Op1 P o e w K)(hk:∀v w',K v w'→K' v w'):Op1 P o e w K':=by
 unfold Op1 at *;generalize (execOp (ev e) o).run P w=r at *;cases r with
 |ok n w'=>
  cases n<;>simp only at h ⊢<;>first|exact h.elim|exact hk _ _ h|skip;exact Calls.mono h fun e w'' he=>by cases e<;>first|exact hk _ _ he|exact he.elim
 |halt x w'=>exact h.elim
def A4(ops:Array Oper)(e:Env)(j:Nat):Option Bool:=
 match (ops[j]?).bind (·.dst) with
 |some d=>match e d with|.bool b=>some b|_=>none
 |none=>none
def runs(ops:Array Oper)(e:Env)(o:Oper):Bool:=
 match o.guard with
 |none=>true
 |some (j,want)=>A4 ops e j == some want
theorem Ou(ops:Array Oper)(a:Act)(j:Nat):yielded ops a.tmps j=A4 ops (env a) j:=by
 unfold yielded A4;cases h:(ops[j]?).bind (·.dst) with
 |none=>simp
 |some d=>
  simp only[AhP,env,Afp];cases h2:a.tmps[d]? with
  |none=>simp[undef]
  |some v=>cases v<;>rfl
theorem BX(ops:Array Oper)(a:Act)(o:Oper):Region.wanted o (yielded ops a.tmps)=runs ops (env a) o:=by
 unfold Region.wanted runs;split<;>simp_all [Ou]
def Ops(P:Program)(full:Array Oper):List Oper→Env→World→(Env→World→Prop)→Prop
 |[],e,w,K=>K e w
 |o::rest,e,w,K=>if runs full e o then Op1 P o e w (fun v w'=>Ops P full rest (CQ e o.dst v) w' K) else Ops P full rest (CQ e o.dst undef) w K
def C8(N:Nat)(l:List Oper):Bool:=l.all fun o=>o.dst.all (· < N)
theorem Adt{P:Program}{full:Array Oper}{Q:Exit→Act→World→Prop}{N:Nat}{D:List Deferred}:∀(l:List Oper) (a:Act) (w:World) (K:Env→World→Prop),
  C8 N l=true→a.tmps.size=N→a.defers=D→(∀a' w',a'.tmps.size=N→a'.defers=D→K (env a') w'→Q .normal a' w')→Ops P full l (env a) w K→wpList P full Q l a w
 |[],a,w,K,_,hs,hd,hK,h=>by simp only[Ops] at h;exact hK _ _ hs hd h
 |o::rest,a,w,K,hds,hs,hd,hK,h=>by
  simp only[C8,Ag5,Afn] at hds;have hput:∀v,env (a.put o.dst v)=CQ (env a) o.dst v:=fun v=>Cg a o.dst v (by rw[hs];exact hds.1);simp only[wpList,BX];simp only[Ops] at h;split
  ·rename_i hr;rw[if_pos hr] at h;refine .inl (MR (h.mono fun v w' hh=>?_));rw[←hput] at hh;exact Adt rest _ _ K hds.2 (by rw[Bm,hs]) (by rw[AY,hd]) hK hh
  ·rename_i hr;rw[if_neg hr] at h;rw[←hput] at h;exact Adt rest _ _ K hds.2 (by rw[Bm,hs]) (by rw[AY,hd]) hK h
def AS(N:Nat):Code→Bool
 |.region _ ops _=>C8 N ops.toList
 |.seq a b=>AS N a && AS N b
 |.cond _ a b=>AS N a && AS N b
 |.block _ b=>AS N b
 |.loop b=>AS N b
 |.scope b=>AS N b
 |_=>true
def WP(P:Program)(N:Nat)(D:List Deferred)(c:Code)(e:Env)(w:World)(Q:Exit→Env→World→Prop):Prop:=
 AS N c=true→∀a:Act,a.tmps.size=N→a.defers=D→env a=e→c.wp P (fun x a' w'=>a'.tmps.size=N∧a'.defers=D∧Q x (env a') w') a w
def Fh(next:Env→World→Prop)(Q:Exit→Env→World→Prop):Exit→Env→World→Prop
 |.normal,e,w=>next e w
 |x,e,w=>Q x e w
def MS(id:Nat)(Q:Exit→Env→World→Prop):Exit→Env→World→Prop
 |.exit id',e,w=>if id'=id then Q .normal e w else Q (.exit id') e w
 |x,e,w=>Q x e w
theorem MT{K:Env→World→Prop}{Q:Exit→Env→World→Prop}{e:Env}{w:World}(h:Q .ret e w):Fh K Q .ret e w:=h
theorem KM{id:Nat}{Q:Exit→Env→World→Prop}{e:Env}{w:World}(h:Q .ret e w):MS id Q .ret e w:=h
section
variable {P:Program}{N:Nat}{D:List Deferred}{e:Env}{w:World}{Q:Exit→Env→World→Prop}
theorem WP.mono{c:Code}{Q':Exit→Env→World→Prop}(h:WP P N D c e w Q)(hq:∀x e w,Q x e w→Q' x e w):WP P N D c e w Q':=
 fun hs a h1 h2 h3=>wp_mono (h hs a h1 h2 h3) fun _ _ _ ⟨g1,g2,g3⟩=>⟨g1,g2,hq _ _ _ g3⟩
theorem Abi{x y:Code}(h:WP P N D x e w (Fh (fun e' w'=>WP P N D y e' w' Q) Q)):WP P N D (.seq x y) e w Q:=by
 intro hs a h1 h2 h3;simp only[AS,Afn] at hs;refine wp_seq (wp_mono (h hs.1 a h1 h2 h3) ?_);rintro x a' w' ⟨g1,g2,g3⟩;cases x<;>simp only[Fh] at g3<;>first|exact⟨g1,g2,g3⟩|exact g3 hs.2 a' g1 g2 rfl
theorem Abk(h:Q .normal e w):WP P N D .skip e w Q:=fun _ _ h1 h2 h3=>wp_skip ⟨h1,h2,h3▸h⟩
theorem Acv(h:Q .ret e w):WP P N D .ret e w Q:=fun _ _ h1 h2 h3=>wp_ret ⟨h1,h2,h3▸h⟩
theorem Abz{id:Nat}(h:Q (.exit id) e w):WP P N D (.exit id) e w Q:=fun _ _ h1 h2 h3=>wp_exit ⟨h1,h2,h3▸h⟩
theorem WP.block{id:Nat}{c:Code}(h:WP P N D c e w (MS id Q)):WP P N D (.block id c) e w Q:=by
 intro hs a h1 h2 h3;refine wp_block (wp_mono (h hs a h1 h2 h3) ?_);rintro x a' w' ⟨g1,g2,g3⟩;cases x<;>simp only[MS] at g3<;>simp only[Exit.inBlock]<;>first|exact⟨g1,g2,g3⟩|(split at g3<;>rename_i hi<;>simp only[hi,if_true,if_false]<;>exact⟨g1,g2,g3⟩)
theorem AbG{c:Operand}{x y:Code}{b:Bool}(hc:ev e c=.bool b)(ht:b=true→WP P N D x e w Q)(hf:b=false→WP P N D y e w Q):WP P N D (.cond c x y) e w Q:=by
 intro hs a h1 h2 h3;simp only[AS,Afn] at hs;have he:a.eval c=.bool b:=by rw[BU,h3];exact hc
 exact wp_cond_split he (fun t=>ht t hs.1 a h1 h2 h3) (fun t=>hf t hs.2 a h1 h2 h3)
theorem Abl{c:Operand}{x y:Code}{p:Prop}[Decidable p](hc:ev e c=.bool (decide p))(ht:p→WP P N D x e w Q)(hf:¬p→WP P N D y e w Q):WP P N D (.cond c x y) e w Q:=
 AbG hc (fun h=>ht (of_decide_eq_true h)) (fun h=>hf (of_decide_eq_false h))
theorem Aco{c:Operand}{x y:Code}{p:Prop}[Decidable p](hc:ev e c=.bool (decide p))(hp:p)(ht:WP P N D x e w Q):WP P N D (.cond c x y) e w Q:=
 Abl hc (fun _=>ht) (fun h=>(h hp).elim)
theorem Ach{c:Operand}{x y:Code}{p:Prop}[Decidable p](hc:ev e c=.bool (decide p))(hp:¬p)(hf:WP P N D y e w Q):WP P N D (.cond c x y) e w Q:=
 Abl hc (fun h=>(hp h).elim) (fun _=>hf)
theorem Abw{c:Operand}{x y:Code}(hc:ev e c=.bool true)(ht:WP P N D x e w Q):WP P N D (.cond c x y) e w Q:=
 AbG hc (fun _=>ht) (fun h=>by cases h)
theorem Abq{c:Operand}{x y:Code}(hc:ev e c=.bool false)(hf:WP P N D y e w Q):WP P N D (.cond c x y) e w Q:=
 AbG hc (fun h=>by cases h) (fun _=>hf)
theorem Abg{id:Nat}{ops:Array Oper}(h:Ops P ops ops.toList e w (fun e' w'=>Q .normal e' w')):WP P N D (.region id ops false) e w Q:=by
 intro hs a h1 h2 h3;subst h3;exact wp_region_list (Adt _ a w _ hs h1 h2 (fun _ _ g1 g2 g3=>⟨g1,g2,g3⟩) h)
theorem AeM{σ:Type}(I:σ→Env→World→Prop)(μ:σ→Nat){c:Code}(h0:∃s,I s e w)
  (round:∀s e w,I s e w→WP P N D c e w (Fh (fun e' w'=>∃s',I s' e' w'∧μ s' < μ s) Q)):WP P N D (.loop c) e w Q:=by
 intro hs a h1 h2 h3;obtain⟨s0,hi0⟩:=h0;intro b k cs;have key:∀n s a w,μ s=n→a.tmps.size=N→a.defers=D→I s (env a) w→
   ∃x a' w',(a'.tmps.size=N∧a'.defers=D∧Q x (env a') w')∧Arrives P (lone (b.at a (.code c::.inLoop c::k)) cs w) b k cs x a' w':=by
  intro n;induction n using Nat.strongRecOn with
  |_ n ih=>
   intro s a w hn g1 g2 hI;obtain⟨x,a₁,w₁,⟨q1,q2,q3⟩,harr⟩:=round s (env a) w hI hs a g1 g2 rfl b (.inLoop c::k) cs;cases x with
   |normal=>
    obtain⟨s',hI₁,hlt⟩:=q3;obtain⟨e₂,a₂,w₂,hq₂,harr₂⟩:=ih (μ s') (hn▸hlt) s' a₁ w₁ rfl q1 q2 hI₁;exact⟨e₂,a₂,w₂,hq₂,.of_steps (Steps.trans harr (.one step_inLoop)) harr₂⟩
   |exit id=>exact⟨_,a₁,w₁,⟨q1,q2,q3⟩,.pass (x:=.inLoop c) rfl (fun _ _=>.inl (by simp)) harr⟩
   |goto l=>exact⟨_,a₁,w₁,⟨q1,q2,q3⟩,.pass (x:=.inLoop c) rfl (fun _ _=>.inl (by simp)) harr⟩
   |ret=>exact⟨_,a₁,w₁,⟨q1,q2,q3⟩,.pass (x:=.inLoop c) rfl (fun _ _=>.inl (by simp)) harr⟩
   |panic ch=>exact⟨_,a₁,w₁,⟨q1,q2,q3⟩,.pass (x:=.inLoop c) rfl (fun _ _=>.inl (by simp)) harr⟩
   |outgrown=>exact⟨_,a₁,w₁,⟨q1,q2,q3⟩,.pass (x:=.inLoop c) rfl (fun _ _=>.inl (by simp)) harr⟩
 obtain⟨x,a',w',hq,harr⟩:=key _ s0 a w rfl h1 h2 (h3▸hi0);exact⟨x,a',w',hq,.of_steps (.one step_loop) harr⟩
end
def E(e:Env):List (Nat×Value)→Env
 |[]=>e
 |(i,v)::r=>upd (E e r) i v
def Has(e:Env):List (Nat×Value)→Prop
 |[]=>True
 |(i,v)::r=>e i=v∧Has e r
theorem U7{e:Env}{i:Nat}{v:Value}(h:e i=v):upd e i v=e:=by
 funext j;unfold upd;cases hb:Nat.beq j i
 ·rfl
 ·have:j=i:=AgR hb;subst this;exact h.symm
theorem C9{e:Env}:∀{l:List (Nat×Value)},Has e l→E e l=e
 |[],_=>rfl
 |(i,v)::r,h=>by simp only[E];rw[C9 h.2];exact U7 h.1
theorem Abx{P:Program}{N:Nat}{D:List Deferred}{e:Env}{w:World}{Q:Exit→Env→World→Prop}{c:Code}{σ:Type}(kv:σ→List (Nat×Value))(J:σ→World→Prop)(μ:σ→Nat)
  (h0:∃s,Has e (kv s)∧J s w)
  (round:∀s e w,J s w→WP P N D c (E e (kv s)) w (Fh (fun e' w'=>∃s',(Has e' (kv s')∧J s' w')∧μ s' < μ s) Q)):WP P N D (.loop c) e w Q:=by
 refine AeM (fun s e w=>Has e (kv s)∧J s w) μ h0 ?_;rintro s e w ⟨h,hj⟩;have:=round s e w hj;rwa [C9 h] at this
section
variable {P:Program}{full:Array Oper}{rest:List Oper}{e:Env}{w:World}{K:Env→World→Prop}
def Y(P:Program)(o:Oper)(e:Env)(w:World)(v:Value):Prop:=(execOp (ev e) o).run P w=.ok (.value v) w
theorem Abh(h:K e w):Ops P full [] e w K:=h
theorem Abj{d:Option Nat}{op:Op}{t:TypeId}{pos:String}{af:Array Edge}(h:Op1 P ⟨d,op,t,pos,af,none⟩ e w (fun v w'=>Ops P full rest (CQ e d v) w' K)) :
  Ops P full (⟨d,op,t,pos,af,none⟩::rest) e w K:=by simpa[Ops,runs] using h
theorem AbB{d:Nat}{op:Op}{t:TypeId}{pos:String}{af:Array Edge}{v:Value}(hy:Y P ⟨some d,op,t,pos,af,none⟩ e w v)(h:Ops P full rest (upd e d v) w K) :
  Ops P full (⟨some d,op,t,pos,af,none⟩::rest) e w K:=Abj (by unfold Op1;rw[hy];exact h)
theorem Ab8{d:Option Nat}{op:Op}{t:TypeId}{pos:String}{af:Array Edge}{j:Nat}{b:Bool}(hg:A4 full e j=some b)(h:Op1 P ⟨d,op,t,pos,af,some (j,b)⟩ e w (fun v w'=>Ops P full rest (CQ e d v) w' K)) :
  Ops P full (⟨d,op,t,pos,af,some (j,b)⟩::rest) e w K:=by simpa[Ops,runs,hg] using h
theorem Acp{d:Nat}{op:Op}{t:TypeId}{pos:String}{af:Array Edge}{v:Value}{j:Nat}{b:Bool}(hg:A4 full e j=some b)(hy:Y P ⟨some d,op,t,pos,af,some (j,b)⟩ e w v)(h:Ops P full rest (upd e d v) w K) :
  Ops P full (⟨some d,op,t,pos,af,some (j,b)⟩::rest) e w K:=Ab8 hg (by unfold Op1;rw[hy];exact h)
theorem AeU{d:Nat}{op:Op}{t:TypeId}{pos:String}{af:Array Edge}{j:Nat}{b:Bool}(hg:(A4 full e j == some b)=false)(h:Ops P full rest (upd e d undef) w K) :
  Ops P full (⟨some d,op,t,pos,af,some (j,b)⟩::rest) e w K:=by simpa[Ops,runs,hg,CQ] using h
end
end
section
abbrev Ae:=Nat→Option Obj
def Ae.cell(h:Ae)(b o:Nat):Option Value:=match h b with|some (.cells c _ _)=>c[o]?|_=>none
def Ae.le(h h':Ae):Prop:=∀b o,h b=some o→h' b=some o
theorem Ae.le.refl(h:Ae):h.le h:=fun _ _ e=>e
theorem Ae.le.trans{a b c:Ae}(h:a.le b)(k:b.le c):a.le c:=fun x o e=>k x o (h x o e)
theorem Ae.le.cell{h h':Ae}(hl:h.le h'){b o:Nat}{v:Value}(hc:h.cell b o=some v):h'.cell b o=some v:=by
 unfold Ae.cell at *;split at hc
 ·rename_i c t f hb;rw[hl _ _ hb];exact hc
 ·cases hc
structure SA where
 fp:List Nat
 P:World→Prop
 loc:∀w w':World,(∀b∈fp,w'.heap[b]?=w.heap[b]?)→P w→P w'
structure Aq where
 w:World
 h:Ae
structure Inv(B:Aq)(h:Ae)(M:List SA)(w:World):Prop where
 below:Below B.w.heap.size B.w w
 ext:B.h.le h
 new:∀b o,h b=some o→B.h b=some o∨B.w.heap.size≤b
 imm:∀b o,h b=some o→w.heap[b]?=some o
 own:∀A∈M,A.P w∧∀b∈A.fp,B.w.heap.size≤b∧b<w.heap.size∧h b=none
 apart:M.Pairwise fun A C=>∀b∈A.fp,b∉C.fp
def Aq.ok(B:Aq):Prop:=∀b o,B.h b=some o→B.w.heap[b]?=some o
theorem Ab2{B:Aq}(h:B.ok):Inv B B.h [] B.w:=
 ⟨Below.refl _ _,Ae.le.refl _,fun _ _ e=>.inl e,h,(fun _ h=>by cases h),List.Pairwise.nil⟩
def CZ(w w':World):Prop:=Below w.heap.size w w'
theorem CZ.refl(w:World):CZ w w:=Below.refl _ _
theorem CZ.trans{a b c:World}(h:CZ a b)(k:CZ b c):CZ a c:=Below.trans h (Below.mono k h.size)
theorem CZ.drew(w:World):CZ w w.drew:=(Below.refl _ w).drew
theorem CZ.alloc(w:World)(o:Obj):CZ w (w.alloc o):=(Below.refl _ w).alloc (Afg _) o
section
variable {B:Aq}{h:Ae}{M:List SA}{w w':World}
theorem Inv.lt(I:Inv B h M w){b:Nat}{o:Obj}(hb:h b=some o):b<w.heap.size:=by
 have:=I.imm b o hb;exact(Afr.1 this).1
theorem Inv.grow(I:Inv B h M w)(g:CZ w w'):Inv B h M w' where
 below:=I.below.trans (g.mono I.below.size)
 ext:=I.ext;new:=I.new
 imm:=fun b o hb=>(g.block b (I.lt hb)).trans (I.imm b o hb)
 own:=fun A hA=>by
  obtain⟨h1,h2⟩:=I.own A hA;refine⟨A.loc w w' (fun b hb=>g.block b (h2 b hb).2.1) h1,fun b hb=>?_⟩;obtain⟨k1,k2,k3⟩:=h2 b hb;exact⟨k1,Ag6 k2 g.size,k3⟩
 apart:=I.apart
theorem Inv.drew(I:Inv B h M w):Inv B h M w.drew:=I.grow (CZ.drew w)
abbrev Ext(B:Aq)(w:World)(h:Ae):Prop:=Inv B h [] w
theorem Inv.j5(I:Inv B h M w):Ext B w h:=⟨I.below,I.ext,I.new,I.imm,(fun _ h=>by cases h),List.Pairwise.nil⟩
theorem Inv.called{h':Ae}(I:Inv B h M w)(X:Ext ⟨w,h⟩ w' h'):Inv B h' M w' where
 below:=I.below.trans (X.below.mono I.below.size)
 ext:=I.ext.trans X.ext;new:=fun b o hb=>by
  rcases X.new b o hb with h1|h1
  ·exact I.new b o h1
  ·exact .inr (AfY I.below.size h1)
 imm:=X.imm
 own:=fun A hA=>by
  obtain⟨h1,h2⟩:=I.own A hA;refine⟨A.loc w w' (fun b hb=>X.below.block b (h2 b hb).2.1) h1,fun b hb=>?_⟩;obtain⟨k1,k2,k3⟩:=h2 b hb;refine⟨k1,Ag6 k2 X.below.size,?_⟩;cases hh:h' b with
  |none=>rfl
  |some o=>
   rcases X.new b o hh with h1|h1
   ·exact absurd (h1.symm.trans k3) (by simp)
   ·exact absurd k2 (by simpa using h1)
 apart:=I.apart
theorem Inv.j6(I:Inv B h M w):Aq.ok ⟨w,h⟩:=I.imm
theorem Inv.weak(I:Inv B h M w){M':List SA}(hs:M'.Sublist M):Inv B h M' w:=
 ⟨I.below,I.ext,I.new,I.imm,fun A hA=>I.own A (hs.subset hA),I.apart.sublist hs⟩
theorem Inv.drop{A:SA}(I:Inv B h (A::M) w):Inv B h M w:=I.weak (Af3 A M)
theorem Inv.clear(I:Inv B h M w):Inv B h [] w:=I.weak (List.nil_sublist M)
theorem Inv.perm{M':List SA}(I:Inv B h M w)(hp:M'.Perm M):Inv B h M' w:=
 ⟨I.below,I.ext,I.new,I.imm,fun A hA=>I.own A (hp.subset hA),I.apart.perm hp.symm fun hxy b hb hb'=>hxy b hb' hb⟩
theorem HR{α:Type}:∀(l:List α) (n:Nat) (h:n<l.length),(l[n]::l.eraseIdx n).Perm l
 |a::l,0,_=>List.Perm.refl _
 |a::l,n+1,h=>by
  simp only[Agc,AhO];exact(List.Perm.swap a _ _).trans ((HR l n (by simpa using h)).cons a)
theorem Inv.front(I:Inv B h M w)(n:Nat){A:SA}(hn:M[n]?=some A):Inv B h (A::M.eraseIdx n) w:=by
 obtain⟨hlt,rfl⟩:=Ae9.1 hn;exact I.perm (HR M n hlt)
theorem Inv.at(I:Inv B h M w)(n:Nat){A:SA}(hn:M[n]?=some A):A.P w:=(I.own A (Afk hn)).1
theorem Inv.step{A A':SA}(I:Inv B h (A::M) w)(hos:w'.os=w.os)(ht:w'.tape=w.tape)(ho:w'.output=w.output)(hs:w.heap.size≤w'.heap.size)
  (hb:∀b,b<w.heap.size→b∉A.fp→w'.heap[b]?=w.heap[b]?) (hA:A'.P w') (hf:∀b∈A'.fp,(b∈A.fp∨w.heap.size≤b)∧b<w'.heap.size):Inv B h (A'::M) w':=by
 have hown:=I.own A (Ae7 ..);have hnot:∀b,h b≠none→b∉A.fp:=fun b hb hm=>hb (hown.2 b hm).2.2;have hap:=AfB.1 I.apart;refine⟨?_,I.ext,I.new,fun b o hbo=>?_,fun C hC=>?_,AfB.2 ⟨fun C hC b hb' hbC=>?_,hap.2⟩⟩
 ·exact I.below.trans ⟨hos,ht,ho,hs,fun k hk=>hb k (Ag6 hk I.below.size) (fun hm=>by have:=(hown.2 k hm).1;omega)⟩
 ·rw[hb b (I.lt hbo) (hnot b (by simp[hbo]))];exact I.imm b o hbo
 ·rcases Afq.1 hC with rfl|hC
  ·refine⟨hA,fun b hb'=>?_⟩;obtain⟨h1,h2⟩:=hf b hb';rcases h1 with h1|h1
   ·exact⟨(hown.2 b h1).1,h2,(hown.2 b h1).2.2⟩
   ·refine⟨AfY I.below.size h1,h2,?_⟩;cases hh:h b with
    |none=>rfl
    |some o=>exact absurd (I.lt hh) (by omega)
  ·obtain⟨h1,h2⟩:=I.own C (Ae8 _ hC);refine⟨C.loc w w' (fun b hb'=>hb b (h2 b hb').2.1 (fun hm=>hap.1 C hC b hm hb')) h1,fun b hb'=>?_⟩;obtain⟨k1,k2,k3⟩:=h2 b hb';exact⟨k1,Ag6 k2 hs,k3⟩
 ·obtain⟨h1,_⟩:=hf b hb';rcases h1 with h1|h1
  ·exact hap.1 C hC b h1 hbC
  ·have:=((I.own C (Ae8 _ hC)).2 b hbC).2.1;omega
theorem Inv.gain{A:SA}(I:Inv B h M w)(g:CZ w w')(hA:A.P w')(hf:∀b∈A.fp,w.heap.size≤b∧b<w'.heap.size):Inv B h (A::M) w':=by
 have I':Inv B h (⟨[],fun _=>True,fun _ _ _ h=>h⟩::M) w:=
  ⟨I.below,I.ext,I.new,I.imm,fun C hC=>by
   rcases Afq.1 hC with rfl|hC
   ·exact⟨trivial,(fun b hb=>by cases hb)⟩
   ·exact I.own C hC,AfB.2 ⟨(fun _ _ b hb=>by cases hb),I.apart⟩⟩
 exact I'.step g.os g.tape g.output g.size (fun b hb _=>g.block b hb) hA (fun b hb=>⟨.inr (hf b hb).1,(hf b hb).2⟩)
theorem Inv.settle{A:SA}(I:Inv B h (A::M) w):∃h',h.le h'∧(∀b∈A.fp,h' b=w.heap[b]?)∧Inv B h' M w:=by
 have hown:=I.own A (Ae7 ..);have hap:=AfB.1 I.apart;refine⟨fun b=>if b∈A.fp then w.heap[b]? else h b,?_,fun b hb=>by simp[hb],?_⟩
 ·intro b o hb;have:b∉A.fp:=fun hm=>by have:=(hown.2 b hm).2.2;simp[this] at hb
  simp[this,hb]
 ·refine⟨I.below,fun b o hb=>?_,fun b o hb=>?_,fun b o hb=>?_,fun C hC=>?_,hap.2⟩
  ·have hb':=I.ext b o hb;have:b∉A.fp:=fun hm=>by have:=(hown.2 b hm).2.2;simp[this] at hb'
   simp[this,hb']
  ·by_cases hm:b∈A.fp
   ·exact .inr (hown.2 b hm).1
   ·simp only[hm,if_false] at hb;exact I.new b o hb
  ·by_cases hm:b∈A.fp
   ·simpa[hm] using hb
   ·simp only[hm,if_false] at hb;exact I.imm b o hb
  ·obtain⟨h1,h2⟩:=I.own C (Ae8 _ hC);refine⟨h1,fun b hb=>?_⟩;obtain⟨k1,k2,k3⟩:=h2 b hb;have:b∉A.fp:=fun hm=>hap.1 C hC b hm hb;exact⟨k1,k2,by simp[this,k3]⟩
end
def box(b:Nat)(cs:List Value)(T:TypeId):SA where
 fp:=[b]
 P:=fun w=>w.heap[b]?=some (.cells cs.toArray T (0,0))
 loc:=fun _ _ h hp=>(h b (by simp)).trans hp
def Rd(w:World)(b o:Nat)(cs:List Value):Prop:=∀j v,cs[j]?=some v→w.cell? ⟨b,o+j,none⟩=some v
def RdH(h:Ae)(b o:Nat)(cs:List Value):Prop:=∀j v,cs[j]?=some v→h.cell b (o+j)=some v
theorem Inv.cell{B:Aq}{h:Ae}{M:List SA}{w:World}(I:Inv B h M w){b o:Nat}{v:Value}(hc:h.cell b o=some v):w.cell? ⟨b,o,none⟩=some v:=by
 unfold Ae.cell at hc;split at hc
 ·rename_i c t f hb;simp[World.cell?,I.imm _ _ hb,hc]
 ·cases hc
theorem Inv.rd{B:Aq}{h:Ae}{M:List SA}{w:World}(I:Inv B h M w){b o:Nat}{cs:List Value}(hr:RdH h b o cs):Rd w b o cs:=fun j v e=>I.cell (hr j v e)
theorem RdH.le{h h':Ae}(hl:h.le h'){b o:Nat}{cs:List Value}(hr:RdH h b o cs):RdH h' b o cs:=fun j v e=>hl.cell (hr j v e)
theorem RdH.part{h:Ae}{b o:Nat}{cs:List Value}(hr:RdH h b o cs)(i n:Nat):RdH h b (o+i) ((cs.drop i).take n):=fun j v e=>by
 rw[Ahw];refine hr (i+j) v ?_;rw[AfF] at e;split at e
 ·rwa [Af9] at e
 ·cases e
theorem Pi{w:World}{b:Nat}{cs:List Value}{T:TypeId}(hp:w.heap[b]?=some (.cells cs.toArray T (0,0)))(o n:Nat):Rd w b o ((cs.drop o).take n):=fun j v e=>by
 rw[AfF] at e;split at e
 ·rw[Af9] at e;simp[World.cell?,hp,e]
 ·cases e
theorem Inv.l5{B:Aq}{h:Ae}{M:List SA}{w:World}(I:Inv B h M w)(n:Nat){b:Nat}{cs:List Value}{T:TypeId}(hn:M[n]?=some (box b cs T))(o m:Nat):Rd w b o ((cs.drop o).take m):=
 Pi (I.at n hn) o m
def ldv:Bool→List Value→Value
 |true,cs=>.agg cs.toArray
 |false,cs=>cs.headD undef
theorem BN(b o i:Nat):(⟨b,o,none⟩:Addr).add i=⟨b,o+i,none⟩:=by unfold Addr.add;split<;>simp_all
end
section
structure Ty(P:Program)(T:TypeId)(n:Nat)(ag:Bool):Prop where
 size:∀w,(sizeOf T).run P w=.ok n w
 agg:∀w,(isAgg T).run P w=.ok ag w
 one:ag=false→n=1
def FA(P:Program)(T i off:Nat):Prop:=∀(a:Addr) w,(Instr.fieldAt T (.pointer (some a)) i).run P w=.ok (.pointer (some (a.add off))) w
def Und(P:Program)(T:TypeId)(d:TypeDesc):Prop:=P.underlying T=some d
def Pj(P:Program)(T:TypeId)(v:Value):Prop:=∀w,(zeroValue T).run P w=.ok v w
theorem Ja{P:Program}{T:TypeId}{n:Nat}{ag:Bool}(ti:Ty P T n ag){w:World}{b o:Nat}{cs:List Value}(hr:Rd w b o cs)(hl:cs.length=n) :
  (loadVar T ⟨b,o,none⟩).run P w=.ok (ldv ag cs) w:=by
 unfold loadVar;cases ag with
 |true=>
  have:=run_loadCells_list (P:=P) (w:=w) ⟨b,o,none⟩ cs (fun j v e=>by rw[BN];exact hr j v e);simp[ti.agg,ti.size,←hl,this,ldv]
 |false=>
  have:=ti.one rfl;match cs,hl with
  |[c],_=>
   have hc:=hr 0 c rfl;simp only[AgS] at hc;simp[ti.agg,hc,ldv,load,Sem.run]
  |[],hl=>simp at hl;omega
  |_::_::_,hl=>simp at hl;omega
section
variable {P:Program}{e:Env}{w:World}{d:Option Nat}{t:TypeId}{pos:String}{af:Array Edge}{g:Option (Nat×Bool)}
theorem AeV{x:Operand}{v:Value}(hx:ev e x=v):Y P ⟨d,.move x,t,pos,af,g⟩ e w v:=by simp[Y,execOp,hx,Pure.pure]
theorem Aet{x:Operand}{v:Value}(hx:ev e x=v):Y P ⟨d,.assign x,t,pos,af,g⟩ e w v:=by simp[Y,execOp,hx,Pure.pure]
theorem Abo{c x y:Operand}{v:Value}(hc:ev e c=.bool true)(hx:ev e x=v):Y P ⟨d,.pick c x y,t,pos,af,g⟩ e w v:=by simp[Y,execOp,hc,hx,asBool]
theorem Abp{c x y:Operand}{v:Value}(hc:ev e c=.bool false)(hx:ev e y=v):Y P ⟨d,.pick c x y,t,pos,af,g⟩ e w v:=by simp[Y,execOp,hc,hx,asBool]
theorem Ab4{x:Operand}{a:Addr}(hx:ev e x=.pointer (some a)):Y P ⟨d,.nilCheck x,t,pos,af,g⟩ e w (.pointer (some a)):=by simp[Y,execOp,hx]
theorem Y.not{x:Operand}{T:TypeId}{b:Bool}(hx:ev e x=.bool b):Y P ⟨d,.unOp .not T x,t,pos,af,g⟩ e w (.bool !b):=by simp[Y,execOp,hx,Op.unary]
theorem Ac3{x:Operand}{T:TypeId}{p:Prop}[Decidable p](hx:ev e x=.bool (decide p)):Y P ⟨d,.unOp .not T x,t,pos,af,g⟩ e w (.bool (decide ¬p)):=by
 simp[Y,execOp,hx,Op.unary]
theorem AbI{x y:Operand}{T T':TypeId}{k:IntKind}{a b:Int}(hx:ev e x=.int k a)(hy:ev e y=.int k b):Y P ⟨d,.binOp .eql T x y T',t,pos,af,g⟩ e w (.bool (decide (a=b))):=by
 simp[Y,execOp,hx,hy,eqGuard,binOp,Op.intCmp,AhT]
theorem AbK{x y:Operand}{T T':TypeId}{k:IntKind}{a b:Int}(hx:ev e x=.int k a)(hy:ev e y=.int k b):Y P ⟨d,.binOp .neq T x y T',t,pos,af,g⟩ e w (.bool (decide (a≠b))):=by
 simp[Y,execOp,hx,hy,eqGuard,binOp,Op.intCmp];cases h:a != b<;>simp_all
theorem AbC{x y:Operand}{T T':TypeId}{k:IntKind}{a b:Int}(hx:ev e x=.int k a)(hy:ev e y=.int k b):Y P ⟨d,.binOp .lss T x y T',t,pos,af,g⟩ e w (.bool (decide (a<b))):=by
 simp[Y,execOp,hx,hy,eqGuard,binOp,Op.intCmp]
theorem AcD{x y:Operand}{T T':TypeId}{k:IntKind}{a b:Int}(hx:ev e x=.int k a)(hy:ev e y=.int k b):Y P ⟨d,.binOp .leq T x y T',t,pos,af,g⟩ e w (.bool (decide (a≤b))):=by
 simp[Y,execOp,hx,hy,eqGuard,binOp,Op.intCmp]
theorem AbL{x y:Operand}{T T':TypeId}{k:IntKind}{a b:Int}(hx:ev e x=.int k a)(hy:ev e y=.int k b):Y P ⟨d,.binOp .gtr T x y T',t,pos,af,g⟩ e w (.bool (decide (b<a))):=by
 simp[Y,execOp,hx,hy,eqGuard,binOp,Op.intCmp]
theorem AbZ{x y:Operand}{T T':TypeId}{k:IntKind}{a b:Int}(hx:ev e x=.int k a)(hy:ev e y=.int k b):Y P ⟨d,.binOp .geq T x y T',t,pos,af,g⟩ e w (.bool (decide (b≤a))):=by
 simp[Y,execOp,hx,hy,eqGuard,binOp,Op.intCmp]
abbrev I64(a:Int):Prop:=-9223372036854775808≤a∧a<9223372036854775808
theorem EL{a:Int}(h:I64 a):IntKind.i64.wrap a=a:=by
 have h64:IntKind.i64.bits=64:=rfl;have hs:IntKind.i64.signed=true:=rfl;unfold IntKind.wrap;simp only[h64,hs,AgY,Nat.add_one_sub_one];obtain⟨h1,h2⟩:=h;simp only[show(2 ^ 64:Int)=18446744073709551616 from rfl,show(2 ^ (64-1):Int)=9223372036854775808 from rfl,ge_iff_le,decide_eq_true_eq];split<;>omega
theorem Ad9{x y:Operand}{T T':TypeId}{a b:Int}(hx:ev e x=.int .i64 a)(hy:ev e y=.int .i64 b)(hr:I64 (a+b)):Y P ⟨d,.binOp .add T x y T',t,pos,af,g⟩ e w (.int .i64 (a+b)):=by
 simp[Y,execOp,hx,hy,eqGuard,binOp,Op.intArith,EL hr]
theorem AcA{x y:Operand}{T T':TypeId}{a b:Int}(hx:ev e x=.int .i64 a)(hy:ev e y=.int .i64 b)(hr:I64 (a-b)):Y P ⟨d,.binOp .sub T x y T',t,pos,af,g⟩ e w (.int .i64 (a-b)):=by
 simp[Y,execOp,hx,hy,eqGuard,binOp,Op.intArith,EL hr]
theorem AdQ{x y:Operand}{T T':TypeId}{a b:Int}(hx:ev e x=.int .i64 a)(hy:ev e y=.int .i64 b)(hr:I64 (a*b)):Y P ⟨d,.binOp .mul T x y T',t,pos,af,g⟩ e w (.int .i64 (a*b)):=by
 simp[Y,execOp,hx,hy,eqGuard,binOp,Op.intArith,EL hr]
theorem AdR{x y:Operand}{T T':TypeId}{k:IntKind}{a b:Int}(hx:ev e x=.int k a)(hy:ev e y=.int k b)(hb:b≠0):Y P ⟨d,.binOp .rem T x y T',t,pos,af,g⟩ e w (.int k (a.tmod b)):=by
 simp[Y,execOp,hx,hy,eqGuard,binOp,Op.intDiv,hb]
theorem Aeu{x y:Operand}{T T':TypeId}{a b:Int}(hx:ev e x=.int .i64 a)(hy:ev e y=.int .i64 b)(hb:b≠0)(hr:I64 (a.tdiv b)):Y P ⟨d,.binOp .quo T x y T',t,pos,af,g⟩ e w (.int .i64 (a.tdiv b)):=by
 simp[Y,execOp,hx,hy,eqGuard,binOp,Op.intDiv,hb,EL hr]
def orI(a b:Int):Int:=IntKind.i64.wrap (BitVec.ofInt 64 a ||| BitVec.ofInt 64 b).toNat
theorem Aev{x y:Operand}{T T':TypeId}{a b:Int}(hx:ev e x=.int .i64 a)(hy:ev e y=.int .i64 b):Y P ⟨d,.binOp .or T x y T',t,pos,af,g⟩ e w (.int .i64 (orI a b)):=by
 simp[Y,execOp,hx,hy,eqGuard,binOp,Op.intBits,orI];rfl
theorem Ab6{x y:Operand}{T T':TypeId}{a b:ByteArray}(hx:ev e x=.string a)(hy:ev e y=.string b):Y P ⟨d,.binOp .eql T x y T',t,pos,af,g⟩ e w (.bool (a.toList == b.toList)):=by
 simp[Y,execOp,hx,hy,eqGuard,binOp,Op.stringOp]
theorem Ac4{x y:Operand}{T T':TypeId}{a b:ByteArray}(hx:ev e x=.string a)(hy:ev e y=.string b):Y P ⟨d,.binOp .neq T x y T',t,pos,af,g⟩ e w (.bool !(a.toList == b.toList)):=by
 simp[Y,execOp,hx,hy,eqGuard,binOp,Op.stringOp]
theorem AbP{x y:Operand}{T T':TypeId}{a b:ByteArray}(hx:ev e x=.string a)(hy:ev e y=.string b)(hr:a.size+b.size≤9223372036854775807):Y P ⟨d,.binOp .add T x y T',t,pos,af,g⟩ e w (.string (a++b)):=by
 have h64:IntKind.i64.max=9223372036854775807:=rfl;have:¬((a.size+b.size:Nat):Int)>9223372036854775807:=by omega
 simp only[Y,execOp,hx,hy,eqGuard,binOp,Op.stringOp,h64,if_neg this];simp
theorem AdX{x y:Operand}{T T':TypeId}{a b:Bool}(hT:Und P T .bool)(hx:ev e x=.bool a)(hy:ev e y=.bool b):Y P ⟨d,.binOp .eql T x y T',t,pos,af,g⟩ e w (.bool (decide (a=b))):=by
 have hh:(a == b)=decide (a=b):=by cases a<;>cases b<;>rfl
 simp[Y,execOp,hx,hy,eqGuard,run_eql_bool w T a b hT];exact hh
theorem AbA{x:Operand}{T r:TypeId}{a:Option Addr}{n c:Nat}(hT:Und P T (.slice r))(hx:ev e x=.slice a n c) :
  Y P ⟨d,.call {callee:=.builtin .len,args:=#[x],argTypes:=#[T]},t,pos,af,g⟩ e w (.int .i64 n):=by
 simp[Y,execOp,hx,resolve,invoke,builtin,Builtin.len_,run_underlying hT,goInt]
theorem AbF{x:Operand}{T:TypeId}{s:ByteArray}(hT:Und P T .string)(hx:ev e x=.string s) :
  Y P ⟨d,.call {callee:=.builtin .len,args:=#[x],argTypes:=#[T]},t,pos,af,g⟩ e w (.int .i64 s.size):=by
 simp[Y,execOp,hx,resolve,invoke,builtin,Builtin.len_,run_underlying hT,goInt]
theorem Y.max2{x y:Operand}{T T':TypeId}{k:IntKind}{a b:Int}(hx:ev e x=.int k a)(hy:ev e y=.int k b) :
  Y P ⟨d,.call {callee:=.builtin .max,args:=#[x,y],argTypes:=#[T,T']},t,pos,af,g⟩ e w (.int k (max a b)):=by
 have:(if b>a then b else a)=max a b:=by omega
 simp[Y,execOp,hx,hy,resolve,invoke,builtin,Builtin.max_,Builtin.max2,this]
theorem Y.min2{x y:Operand}{T T':TypeId}{k:IntKind}{a b:Int}(hx:ev e x=.int k a)(hy:ev e y=.int k b) :
  Y P ⟨d,.call {callee:=.builtin .min,args:=#[x,y],argTypes:=#[T,T']},t,pos,af,g⟩ e w (.int k (min a b)):=by
 have:(if b<a then b else a)=min a b:=by omega
 simp[Y,execOp,hx,hy,resolve,invoke,builtin,Builtin.min_,Builtin.min2,this]
theorem Y.extract{x:Operand}{i:Nat}{vs:List Value}{v:Value}(hx:ev e x=.tuple vs.toArray)(hv:vs[i]?=some v):Y P ⟨d,.extract x i,t,pos,af,g⟩ e w v:=by
 simp[Y,execOp,hx,Instr.extract,hv]
theorem Acq{fn:Fn}{first captured:Array Operand}{fs cs:List Value}(hf:first.toList.map (ev e)=fs)(hc:captured.toList.map (ev e)=cs) :
  Y P ⟨d,.makeFunc fn first captured,t,pos,af,g⟩ e w (.func fn fs.toArray cs.toArray):=by
 have h1:first.map (ev e)=fs.toArray:=by rw[←hf];apply Array.ext';simp
 have h2:captured.map (ev e)=cs.toArray:=by rw[←hc];apply Array.ext';simp
 simp[Y,execOp,Instr.makeFunc,h1,h2]
theorem AeN{x:Operand}{T:TypeId}{dd:TypeDesc}{v:Value}(hT:Und P T dd)(hd:∀ms,dd≠.interface ms)(hx:ev e x=v):Y P ⟨d,.makeInterface T x,t,pos,af,g⟩ e w (.iface T v):=by
 simp only[Y,execOp,hx,Instr.makeInterface];cases dd<;>simp_all [run_underlying hT]
theorem Abr{x:Operand}{T i off b o:Nat}(hT:FA P T i off)(hx:ev e x=.pointer (some ⟨b,o,none⟩)):Y P ⟨d,.fieldAddr T x i,t,pos,af,g⟩ e w (.pointer (some ⟨b,o+off,none⟩)):=by
 simp[Y,execOp,hx,hT _ w,BN]
theorem Abu{x:Operand}{T i b o:Nat}(hT:FA P T i 0)(hx:ev e x=.pointer (some ⟨b,o,none⟩)):Y P ⟨d,.fieldAddr T x i,t,pos,af,g⟩ e w (.pointer (some ⟨b,o,none⟩)):=by
 simp[Y,execOp,hx,hT _ w,BN]
theorem AeW{x:Operand}{T n b o:Nat}{ag:Bool}{cs:List Value}(hT:Ty P T n ag)(hx:ev e x=.pointer (some ⟨b,o,none⟩))(hr:Rd w b o cs)(hl:cs.length=n) :
  Y P ⟨d,.load T x,t,pos,af,g⟩ e w (ldv ag cs):=by
 simp[Y,execOp,hx,Instr.loadAt,Instr.sureAddr,Ja hT hr hl]
theorem Acy{x ix:Operand}{T el k n c b o:Nat}{ik:IntKind}{i:Int}(hT:Und P T (.slice el))(hk:∀w,(sizeOf el).run P w=.ok k w)(hx:ev e x=.slice (some ⟨b,o,none⟩) n c)(hi:ev e ix=.int ik i)
  (h0:0≤i) (h1:i<n):Y P ⟨d,.indexAddr T x ix,t,pos,af,g⟩ e w (.pointer (some ⟨b,o+i.toNat*k,none⟩)):=by
 simp[Y,execOp,hx,hi,Instr.indexAt,asIntOf,run_underlying hT,hk,h0,h1,BN]
theorem Ab1{x ix:Operand}{T el k n b o:Nat}{ik:IntKind}{i:Int}(hT:Und P T (.array n el))(hk:∀w,(sizeOf el).run P w=.ok k w)(hx:ev e x=.pointer (some ⟨b,o,none⟩))(hi:ev e ix=.int ik i)
  (h0:0≤i) (h1:i<n):Y P ⟨d,.indexAddr T x ix,t,pos,af,g⟩ e w (.pointer (some ⟨b,o+i.toNat*k,none⟩)):=by
 simp[Y,execOp,hx,hi,Instr.indexAt,Instr.sureAddr,asIntOf,run_underlying hT,hk,h0,h1,BN]
theorem Aci{x ix:Operand}{T:TypeId}{ik:IntKind}{i:Int}{s:ByteArray}{c:UInt8}(hT:Und P T .string)(hx:ev e x=.string s)(hi:ev e ix=.int ik i)(h0:0≤i)(hc:s[i.toNat]?=some c) :
  Y P ⟨d,.index T x ix,t,pos,af,g⟩ e w (.int .u8 c.toNat):=by
 simp[Y,execOp,hx,hi,Instr.index,asIntOf,run_underlying hT,h0,hc]
theorem AeX{x ix:Operand}{T el k n:Nat}{ag:Bool}{ik:IntKind}{i:Int}{cs:List Value}(hT:Und P T (.array n el))(hk:Ty P el k ag)(hx:ev e x=.agg cs.toArray)(hi:ev e ix=.int ik i)(h0:0≤i)(h1:i<n)
  {part:List Value} (hp:(cs.drop (i.toNat*k)).take k=part) (hl:part.length=k) :
  Y P ⟨d,.index T x ix,t,pos,af,g⟩ e w (ldv ag part):=by
 have hpart:(Go.part el cs.toArray (i.toNat*k)).run P w=.ok (ldv ag part) w:=by
  subst hp;cases ag with
  |true=>
   simp[Go.part,hk.agg,hk.size,ldv]
  |false=>
   have:=hk.one rfl;subst this;cases hh:cs[i.toNat]? with
   |none=>simp[AfV (AhJ.1 hh)] at hl
   |some v=>
    have:(cs.drop i.toNat).take 1=[v]:=by
     obtain⟨h2,h3⟩:=Ae9.1 hh;rw[AfZ h2,h3];rfl
    simp[Go.part,hk.agg,hh,ldv,this]
 simp[Y,execOp,hx,hi,Instr.index,asIntOf,run_underlying hT,h0,h1,hk.size,hpart]
theorem Acu{x:Operand}{T:TypeId}{lo hi:Option Operand}{s:ByteArray}{l h:Nat}(hT:Und P T .string)(hx:ev e x=.string s)
  (hl:lo=none∧l=0∨∃q k,lo=some q∧ev e q=.int k (l:Int)) (hh:hi=none∧h=s.size∨∃q k,hi=some q∧ev e q=.int k (h:Int)) (h1:l≤h) (h2:h≤s.size) :
  Y P ⟨d,.slice T x lo hi none,t,pos,af,g⟩ e w (.string (s.extract l h)):=by
 have hh':h≤s.size:=h2;rcases hl with ⟨rfl,rfl⟩|⟨q,k,rfl,hq⟩<;>rcases hh with ⟨rfl,rfl⟩|⟨q',k',rfl,hq'⟩<;>
  simp_all [Y,execOp,Instr.sliceAt,Instr.slice,Instr.sliceBounds,Instr.sliceBound,run_underlying hT,asIntOf]
theorem AcF{x:Operand}{T el k:TypeId}{lo hi:Option Operand}{b o n c l h:Nat}(hT:Und P T (.slice el))(hk:∀w,(sizeOf el).run P w=.ok k w)(hx:ev e x=.slice (some ⟨b,o,none⟩) n c)
  (hl:lo=none∧l=0∨∃q k,lo=some q∧ev e q=.int k (l:Int)) (hh:hi=none∧h=n∨∃q k,hi=some q∧ev e q=.int k (h:Int)) (h1:l≤h) (h2:h≤c) :
  Y P ⟨d,.slice T x lo hi none,t,pos,af,g⟩ e w (.slice (some (if c=l then ⟨b,o,none⟩ else ⟨b,o+l*k,none⟩)) (h-l) (c-l)):=by
 rcases hl with ⟨rfl,rfl⟩|⟨q,k,rfl,hq⟩<;>rcases hh with ⟨rfl,rfl⟩|⟨q',k',rfl,hq'⟩<;>
  simp_all [Y,execOp,Instr.sliceAt,Instr.slice,Instr.sliceBounds,Instr.sliceBound,run_underlying hT,asIntOf,BN]<;>(try split)<;>rfl
end
end
section
theorem Inv.alloc{B:Aq}{h:Ae}{M:List SA}{w:World}(I:Inv B h M w)(cs:List Value)(T:TypeId):Inv B h (box w.heap.size cs T::M) (w.alloc (.cells cs.toArray T)):=
 I.gain (CZ.alloc w _) (heap_alloc_new w _) (fun b hb=>by simp[box] at hb;subst hb;simp)
def CB(cs:List Value):Nat→List Value→List Value
 |0,vs=>vs++cs.drop vs.length
 |o+1,vs=>match cs with
  |[]=>vs
  |c::r=>c::CB r o vs
theorem Dp:∀(cs:List Value) (o:Nat) (vs:List Value),o≤cs.length→CB cs o vs=cs.take o++vs++cs.drop (o+vs.length)
 |cs,0,vs,_=>by simp[CB]
 |[],o+1,vs,h=>by simp at h
 |c::r,o+1,vs,h=>by
  simp only[CB,Dp r o vs (by simpa using h),List.take_succ_cons,AfH];congr 2;rw[show o+1+vs.length=(o+vs.length)+1 by omega,AgK]
def AJ(vs:List Value):Bool:=vs.all (·.oneCell')
theorem GY(P:Program){w:World}{b:Nat}{cs:List Value}{T:TypeId}(hb:w.heap[b]?=some (.cells cs.toArray T (0,0)))(o:Nat)(vs:List Value)(h1:AJ vs=true)(hl:o+vs.length≤cs.length) :
  (storeCells ⟨b,o,none⟩ vs).run P w=.ok () (w.setRow b (CB cs o vs).toArray):=by
 have:=run_storeCells_at P b o T vs 0 cs.toArray w hb (by simpa using hl) (by simpa[AJ] using h1);rw[Dp cs o vs (by omega)];simpa using this
theorem Inv.l6{B:Aq}{h:Ae}{M:List SA}{w w':World}(I:Inv B h M w)(n:Nat){A A':SA}(hn:M[n]?=some A)(hos:w'.os=w.os)(ht:w'.tape=w.tape)(ho:w'.output=w.output)(hs:w.heap.size≤w'.heap.size)
  (hb:∀b,b<w.heap.size→b∉A.fp→w'.heap[b]?=w.heap[b]?) (hA:A'.P w') (hf:∀b∈A'.fp,(b∈A.fp∨w.heap.size≤b)∧b<w'.heap.size):Inv B h (M.set n A') w':=by
 have I1:=(I.front n hn).step hos ht ho hs hb hA hf;refine I1.perm ?_;obtain⟨hlt,_⟩:=Ae9.1 hn;have:=HR (M.set n A') n (by simpa using hlt);simpa[List.eraseIdx_set_eq] using this.symm
theorem Inv.l7{B:Aq}{h:Ae}{M:List SA}{w:World}(I:Inv B h M w)(n:Nat){b:Nat}{cs:List Value}{T:TypeId}(hn:M[n]?=some (box b cs T))(cs':List Value) :
  Inv B h (M.set n (box b cs' T)) (w.setRow b cs'.toArray):=by
 have hb:w.heap[b]?=some (.cells cs.toArray T (0,0)):=I.at n hn;refine I.l6 n hn rfl rfl rfl (by simp) (fun k _ hk'=>setRow_other w b k _ (fun e=>hk' (by simp[box,e]))) (setRow_heap w b cs.toArray cs'.toArray T (0,0) hb) (fun k hk=>?_);simp[box] at hk;subst hk;exact⟨.inl (by simp[box]),by simpa using (Afr.1 hb).1⟩
def Fn(P:Program)(f:FuncId)(args:List Value)(B:Aq)(Post:Value→Ae→Prop):Prop:=
 Calls P f args.toArray B.w fun x w'=>∃v h',x=.returned v∧Ext B w' h'∧Post v h'
theorem Fn.mono{P:Program}{f:FuncId}{args:List Value}{B:Aq}{Post Post':Value→Ae→Prop}(h:Fn P f args B Post)(hp:∀v h',B.h.le h'→Post v h'→Post' v h'):Fn P f args B Post':=
 Calls.mono h fun _ _ ⟨v,h',e,X,p⟩=>⟨v,h',e,X,hp v h' X.ext p⟩
abbrev BE(P:Program)(f:FuncId):Prop:=∀args w,(callFunc f args).run P w=.ok (.enter f args) w
section
variable {P:Program}{full:Array Oper}{rest:List Oper}{e:Env}{w:World}{K:Env→World→Prop}{B:Aq}{h:Ae}{M:List SA}
variable {t:TypeId}{pos:String}{af:Array Edge}{g:Option (Nat×Bool)}
theorem O.alloc{d:Option Nat}{T:TypeId}{v:Value}{cs:List Value}{K:Value→World→Prop}(I:Inv B h M w)(hz:Pj P T v)(hc:v.cells=cs.toArray)
  (k:∀b w',Inv B h (box b cs T::M) w'→K (.pointer (some ⟨b,0,none⟩)) w'):Op1 P ⟨d,.alloc T,t,pos,af,g⟩ e w K:=by
 have:(execOp (ev e) ⟨d,.alloc T,t,pos,af,g⟩).run P w=.ok (.value (.pointer (some ⟨w.heap.size,0,none⟩))) (w.alloc (.cells cs.toArray T)):=by
  simp[execOp,Instr.alloc,hz w,newVar,newRow,hc]
 unfold Op1;rw[this];exact k _ _ (I.alloc cs T)
theorem O.box{d:Option Nat}{T:TypeId}{x:Operand}{v:Value}{cs:List Value}{K:Value→World→Prop}(I:Inv B h M w)(hx:ev e x=v)(hc:v.cells=cs.toArray)
  (k:∀b w',Inv B h (box b cs T::M) w'→K (.pointer (some ⟨b,0,none⟩)) w'):Op1 P ⟨d,.box T x,t,pos,af,g⟩ e w K:=by
 have:(execOp (ev e) ⟨d,.box T x,t,pos,af,g⟩).run P w=.ok (.value (.pointer (some ⟨w.heap.size,0,none⟩))) (w.alloc (.cells cs.toArray T)):=by
  simp[execOp,Instr.box,hx,newVar,newRow,hc]
 unfold Op1;rw[this];exact k _ _ (I.alloc cs T)
theorem Ab3{d:Option Nat}{T T':TypeId}{a x:Operand}{v:Value}{b o m:Nat}{ag:Bool}{cs vs cs':List Value}{K:Value→World→Prop}(I:Inv B h M w)(hT:Ty P T m ag)(n:Nat)(hn:M[n]?=some (TF.box b cs T'))
  (ha:ev e a=.pointer (some ⟨b,o,none⟩)) (hx:ev e x=v) (hv:v.cells=vs.toArray) (hl:vs.length=m) (h1:AJ vs=true) (hf:o+vs.length≤cs.length) (hp:CB cs o vs=cs')
  (k:∀w',Inv B h (M.set n (TF.box b cs' T')) w'→K undef w'):Op1 P ⟨d,.store T a x,t,pos,af,g⟩ e w K:=by
 have hb:w.heap[b]?=some (.cells cs.toArray T' (0,0)):=I.at n hn;have:(execOp (ev e) ⟨d,.store T a x,t,pos,af,g⟩).run P w=.ok .skip (w.setRow b cs'.toArray):=by
  subst hp;simp[execOp,Instr.storeAt,Instr.sureAddr,ha,hx,storeVar,hv,hT.size,hl,GY P hb o vs h1 hf]
 unfold Op1;rw[this];exact k _ (I.l7 n hn cs')
theorem AbE{d:Option Nat}{f:FuncId}{args:Array Operand}{ts:Array TypeId}{vs:List Value}{Post:Value→Ae→Prop}{K:Value→World→Prop}(I:Inv B h M w)(hf:BE P f)(hfn:Fn P f vs ⟨w,h⟩ Post)
  (ha:args.toList.map (ev e)=vs) (k:∀v h' w',Inv B h' M w'→h.le h'→Post v h'→K v w'):Op1 P ⟨d,.call {callee:=.value (.func f),args:=args,argTypes:=ts},t,pos,af,g⟩ e w K:=by
 have ha':args.map (ev e)=vs.toArray:=by rw[←ha];apply Array.ext';simp
 have:(execOp (ev e) ⟨d,.call {callee:=.value (.func f),args:=args,argTypes:=ts},t,pos,af,g⟩).run P w=.ok (.enter f vs.toArray) w:=by
  simp[execOp,resolve,ev,Deferred.ofValue,invoke,ha',hf]
 unfold Op1;rw[this];refine Calls.mono hfn ?_;rintro x w' ⟨v,h',rfl,X,hp⟩;exact k v h' w' (I.called X) X.ext hp
theorem AcT{d:Option Nat}{x:Operand}{f:FuncId}{fs cs:List Value}{args:Array Operand}{ts:Array TypeId}{vs:List Value}{Post:Value→Ae→Prop}{K:Value→World→Prop}(I:Inv B h M w)(hf:BE P f)
  (hx:ev e x=.func (.func f) fs.toArray cs.toArray) (hfn:Fn P f vs ⟨w,h⟩ Post)
  (ha:fs++args.toList.map (ev e)++cs=vs) (k:∀v h' w',Inv B h' M w'→h.le h'→Post v h'→K v w'):Op1 P ⟨d,.call {callee:=.value x,args:=args,argTypes:=ts},t,pos,af,g⟩ e w K:=by
 have ha':fs.toArray++args.map (ev e)++cs.toArray=vs.toArray:=by rw[←ha];apply Array.ext';simp
 have:(execOp (ev e) ⟨d,.call {callee:=.value x,args:=args,argTypes:=ts},t,pos,af,g⟩).run P w=.ok (.enter f vs.toArray) w:=by
  simp only[execOp,resolve,hx,Deferred.ofValue];simp[invoke,ha',hf]
 unfold Op1;rw[this];refine Calls.mono hfn ?_;rintro y w' ⟨v,h',rfl,X,hp⟩;exact k v h' w' (I.called X) X.ext hp
theorem Acd{d:Option Nat}{x:Operand}{f:FuncId}{fs cs:List Value}{args:Array Operand}{ts:Array TypeId}{vs:List Value}{r:Value}{K:Value→World→Prop}(I:Inv B h M w)(hf:BE P f)
  (hx:ev e x=.func (.func f) fs.toArray cs.toArray) (hfn:Fn P f vs ⟨w,h⟩ (fun v _=>v=r))
  (ha:fs++args.toList.map (ev e)++cs=vs) (k:∀w',Inv B h M w'→K r w'):Op1 P ⟨d,.call {callee:=.value x,args:=args,argTypes:=ts},t,pos,af,g⟩ e w K:=by
 have ha':fs.toArray++args.map (ev e)++cs.toArray=vs.toArray:=by rw[←ha];apply Array.ext';simp
 have:(execOp (ev e) ⟨d,.call {callee:=.value x,args:=args,argTypes:=ts},t,pos,af,g⟩).run P w=.ok (.enter f vs.toArray) w:=by
  simp only[execOp,resolve,hx,Deferred.ofValue];simp[invoke,ha',hf]
 unfold Op1;rw[this];refine Calls.mono hfn ?_;rintro y w' ⟨v,h',rfl,X,rfl⟩;exact k w' (I.grow X.below)
theorem Abm{d:Option Nat}{f:FuncId}{args:Array Operand}{ts:Array TypeId}{vs:List Value}{r:Value}{K:Value→World→Prop}(I:Inv B h M w)(hf:BE P f)(hfn:Fn P f vs ⟨w,h⟩ (fun v _=>v=r))
  (ha:args.toList.map (ev e)=vs) (k:∀w',Inv B h M w'→K r w'):Op1 P ⟨d,.call {callee:=.value (.func f),args:=args,argTypes:=ts},t,pos,af,g⟩ e w K:=by
 have ha':args.map (ev e)=vs.toArray:=by rw[←ha];apply Array.ext';simp
 have:(execOp (ev e) ⟨d,.call {callee:=.value (.func f),args:=args,argTypes:=ts},t,pos,af,g⟩).run P w=.ok (.enter f vs.toArray) w:=by
  simp[execOp,resolve,ev,Deferred.ofValue,invoke,ha',hf]
 unfold Op1;rw[this];refine Calls.mono hfn ?_;rintro x w' ⟨v,h',rfl,X,rfl⟩;exact k w' (I.grow X.below)
end
def RV(P:Program)(e:Env)(w:World):List ResultVar→List Value→Prop
 |[],[]=>True
 |.tmp t::rs,v::vs=>e t=v∧RV P e w rs vs
 |.cell a T::rs,v::vs=>(∃b o n ag cs,e a=.pointer (some ⟨b,o,none⟩)∧Ty P T n ag∧Rd w b o cs∧cs.length=n∧ldv ag cs=v)∧RV P e w rs vs
 |_,_=>False
def tup:List Value→Value
 |[v]=>v
 |vs=>.tuple vs.toArray
theorem Ov{P:Program}{a:Act}{w:World}{F:ResultVar→Sem Value}(h0:∀t,F (.tmp t)=pure (a.tmps.getD t undef))(h1:∀p T,F (.cell p T)=(do loadVar T (←asAddr (a.tmps.getD p undef)))) :
  ∀(rs:List ResultVar) (vs:List Value),RV P (env a) w rs vs→(rs.mapM F).run P w=.ok vs w
 |[],[],_=>by simp
 |[],_::_,h=>h.elim
 |.tmp _::_,[],h=>h.elim
 |.cell _ _::_,[],h=>h.elim
 |.tmp t::rs,v::vs,h=>by
  have ih:=Ov h0 h1 rs vs h.2;have e1:a.tmps.getD t undef=v:=h.1;simp only[List.mapM_cons,h0,e1,Sem.run_bind,Sem.run_pure,Result.andThen_ok,ih]
 |.cell p T::rs,v::vs,h=>by
  have ih:=Ov h0 h1 rs vs h.2;obtain⟨⟨b,o,n,ag,cs,g1,g2,g3,g4,g5⟩,_⟩:=h;have e1:asAddr (a.tmps.getD p undef)=pure ⟨b,o,none⟩:=by rw[show a.tmps.getD p undef=.pointer (some ⟨b,o,none⟩) from g1];rfl
  simp only[List.mapM_cons,h1,e1,Sem.run_bind,Sem.run_pure,Result.andThen_ok,Ja g2 g3 g4,g5,ih]
theorem A9{P:Program}{fn:Func}{a:Act}{w:World}{rs:List ResultVar}{vs:List Value}(hr:fn.results.toList=rs)(h:RV P (env a) w rs vs):(results fn a.tmps).run P w=.ok (tup vs) w:=by
 have hr':fn.results=rs.toArray:=by rw[←hr]
 unfold results;rw[hr',List.mapM_toArray,Sem.run_bind,Sem.run_map,Ov (fun _=>rfl) (fun _ _=>rfl) rs vs h];simp only[Result.andThen_ok];match vs with
 |[]=>rfl
 |[v]=>rfl
 |_::_::_=>rfl
def BH(P:Program)(fn:Func)(B:Aq)(Post:Value→Ae→Prop):Exit→Env→World→Prop
 |.ret,e,w|.normal,e,w=>∃vs h',RV P e w fn.results.toList vs∧Ext B w h'∧Post (tup vs) h'
 |_,_,_=>False
theorem BH.mk{P:Program}{fn:Func}{B:Aq}{Post:Value→Ae→Prop}{e:Env}{w:World}{rs:List ResultVar}{vs:List Value}{h:Ae}(hr:fn.results.toList=rs)(hv:RV P e w rs vs)(X:Ext B w h)(hp:Post (tup vs) h) :
  BH P fn B Post .ret e w:=⟨vs,h,by rw[hr];exact hv,X,hp⟩
theorem Acc{P:Program}{N:Nat}{D:List Deferred}{e:Env}{w:World}{Q:Exit→Env→World→Prop}{x:Code}{K:Env→World→Prop}{σ:Type}(kv:σ→List (Nat×Value))(J:σ→World→Prop)
  (hx:WP P N D x e w (Fh (fun e' w'=>∃s,Has e' (kv s)∧J s w') Q)) (hy:∀s e' w',J s w'→K (E e' (kv s)) w'):WP P N D x e w (Fh K Q):=by
 refine hx.mono ?_;intro x e' w' h;cases x<;>first|exact h|skip;obtain⟨s,h1,h2⟩:=h;have:=hy s e' w' h2;rwa [C9 h1] at this
theorem Ack{P:Program}{N:Nat}{D:List Deferred}{e:Env}{w:World}{Q:Exit→Env→World→Prop}{x:Code}{σ:Type}(kv:σ→List (Nat×Value))(J:σ→World→Prop)
  (hx:WP P N D x e w (Fh (fun e' w'=>∃s,Has e' (kv s)∧J s w') Q)) (hy:∀s e' w',J s w'→Q .normal (E e' (kv s)) w'):WP P N D x e w Q:=by
 refine hx.mono ?_;intro x e' w' h;cases x<;>first|exact h|skip;obtain⟨s,h1,h2⟩:=h;have:=hy s e' w' h2;rwa [C9 h1] at this
def Ky:Nat→List Value→List (Nat×Value)
 |_,[]=>[]
 |i,v::r=>(i,v)::Ky (i+1) r
theorem DQ{e:Env}:∀(vs:List Value) (i:Nat),(∀j v,vs[j]?=some v→e (i+j)=v)→Has e (Ky i vs)
 |[],_,_=>trivial
 |v::r,i,h=>⟨h 0 v rfl,DQ r (i+1) fun j u hu=>by have:=h (j+1) u (by simpa using hu);rwa [show i+(j+1)=i+1+j by omega] at this⟩
theorem Fn.of{P:Program}{f:FuncId}{fn:Func}{c:Code}{N:Nat}{args:List Value}{B:Aq}{Post:Value→Ae→Prop}(hf:P.funcs[f]?=some fn)(hb:fn.body=some c)(hN:fn.ntmps=N)(hs:AS N c=true)
  (hl:args.length≤N) (h:∀e,WP P N [] c (E e (Ky 0 args)) B.w (BH P fn B Post)):Fn P f args B Post:=by
 refine calls_of_wp hf hb ?_;subst hN;refine wp_mono (h _ hs {tmps:=args.toArray++Array.replicate (fn.ntmps-args.toArray.size) undef,defers:=[]} (by simp;omega) rfl (C9 (DQ args 0 fun j v hv=>?_)).symm) ?_
 ·have hj:=(Ae9.1 hv).1;have hg:args[j]=v:=(Ae9.1 hv).2;simp[env,Afp,Age,hj,hg]
 ·rintro x a' w' ⟨_,g2,g3⟩;cases x<;>simp only[BH] at g3<;>first|exact g3.elim|skip;all_goals
   obtain⟨vs,h',hv,X,hp⟩:=g3;exact⟨g2,_,A9 rfl hv,_,_,rfl,X,hp⟩
end
section
structure Sl(α:Type) where
 at_:Option Addr
 cap:Nat
 xs:List α
@[reducible] def Sl.val{α:Type}(s:Sl α):Value:=.slice s.at_ s.xs.length s.cap
def Sl.blk{α:Type}(s:Sl α):Nat:=(s.at_.getD default).block
def Sl.off{α:Type}(s:Sl α):Nat:=(s.at_.getD default).off
structure El{α:Type}(s:Sl α)(k:Nat)(enc:α→List Value)(h:Ae)(i:Nat)(x:α):Prop where
 at_:s.at_=some ⟨s.blk,s.off,none⟩
 rd:RdH h s.blk (s.off+i*k) (enc x)
 lt:i<s.xs.length
 get:s.xs[i]?=some x
def Sl.In{α:Type}(s:Sl α)(k:Nat)(enc:α→List Value)(h:Ae):Prop:=∀i x,s.xs[i]?=some x→s.at_=some ⟨s.blk,s.off,none⟩∧RdH h s.blk (s.off+i*k) (enc x)
theorem Sl.In.el{α:Type}{s:Sl α}{k:Nat}{enc:α→List Value}{h:Ae}(hs:s.In k enc h){i:Nat}{x:α}(hx:s.xs[i]?=some x):El s k enc h i x:=
 ⟨(hs i x hx).1,(hs i x hx).2,(Ae9.1 hx).1,hx⟩
theorem Sl.In.le{α:Type}{s:Sl α}{k:Nat}{enc:α→List Value}{h h':Ae}(hs:s.In k enc h)(hl:h.le h'):s.In k enc h':=fun i x hx=>⟨(hs i x hx).1,(hs i x hx).2.le hl⟩
theorem El.le{α:Type}{s:Sl α}{k:Nat}{enc:α→List Value}{h h':Ae}{i:Nat}{x:α}(hs:El s k enc h i x)(hl:h.le h'):El s k enc h' i x:=⟨hs.at_,hs.rd.le hl,hs.lt,hs.get⟩
def Fd(P:Program)(T i ft off:Nat):Prop:=∃fs f,P.underlying T=some (.struct fs)∧fs[i]?=some f∧f.type=ft∧f.offset=off
def Pl(P:Program)(T:Nat)(ps:List (Nat×Nat)):Prop:=∃fs,P.underlying T=some (.struct fs)∧∀w,(fs.mapM (m:=Sem) fun f=>do pure (f.offset,←sizeOf f.type)).run P w=.ok ps.toArray w
theorem U8{P:Program}{el k o:Nat}{ag:Bool}(hk:Ty P el k ag){cs part:List Value}(hp:(cs.drop o).take k=part)(hl:part.length=k)(w:World):(Go.part el cs.toArray o).run P w=.ok (ldv ag part) w:=by
 subst hp;cases ag with
 |true=>simp[Go.part,hk.agg,hk.size,ldv]
 |false=>
  have:=hk.one rfl;subst this;cases hh:cs[o]? with
  |none=>simp[AfV (AhJ.1 hh)] at hl
  |some v=>
   have:(cs.drop o).take 1=[v]:=by
    obtain⟨h2,h3⟩:=Ae9.1 hh;rw[AfZ h2,h3];rfl
   simp[Go.part,hk.agg,hh,ldv,this]
def Ca:Value→List Value
 |.agg cs=>cs.toList
 |v=>[v]
theorem GZ(v:Value):v.cells=(Ca v).toArray:=by cases v<;>rfl
def MU(place:Nat→Option (Nat×Nat)):List Value→List (Nat×Value)→Option (List Value)
 |cs,[]=>some cs
 |cs,(i,v)::rest=>
  match place i with
  |none=>none
  |some (off,size)=>bif Nat.beq (Ca v).length size && Nat.ble (off+(Ca v).length) cs.length then MU place (CB cs off (Ca v)) rest else none
theorem RZ(vs:List Value):∀(cs:List Value) (off s:Nat),off+s+vs.length≤cs.length→
  ((vs.zipIdx s).foldl (fun (a:Array Value) (p:Value×Nat)=>a.setIfInBounds (off+p.2) p.1) cs.toArray)=(CB cs (off+s) vs).toArray:=by
 induction vs with
 |nil=>intro cs off s h;rw[Dp cs _ [] (by simpa using h)];simp
 |cons v vs ih=>
  intro cs off s h;simp only[Ae6] at h;simp only[List.zipIdx_cons,Agk];rw[show cs.toArray.setIfInBounds (off+s) v=(cs.set (off+s) v).toArray by simp,ih (cs.set (off+s) v) off (s+1) (by simp;omega)];rw[Dp _ _ vs (by simp;omega),Dp _ _ (v::vs) (by omega)];congr 1;apply Ago;intro i;simp only[List.getElem?_append,Ae2,Afj,Ahz,Ae6];simp only[AfF,Af9,Ahe,List.getElem?_cons];have hm1:min (off+(s+1)) cs.length=off+s+1:=by omega
  have hm2:min (off+s) cs.length=off+s:=by omega
  rw[hm1,hm2];by_cases h1:i<off+s
  ·simp[show i<off+s+1 by omega,h1,show i<off+s+1+vs.length by omega,show i<off+s+(vs.length+1) by omega,show i<off+(s+1) by omega,show off+s≠i by omega]
  ·by_cases h2:i=off+s
   ·subst h2;simp[show off+s<off+s+1+vs.length by omega,show off+s<off+(s+1) by omega,show off+s<cs.length by omega]
   ·by_cases h3:i<off+s+1+vs.length
    ·simp[h3,show ¬i<off+s+1 by omega,show ¬i<off+s by omega,show i<off+s+(vs.length+1) by omega,show i-(off+s)≠0 by omega,show i-(off+s+1)=i-(off+s)-1 by omega]
    ·simp[h3,show ¬i<off+s+(vs.length+1) by omega];rw[if_neg (by omega),show off+(s+1)+vs.length+(i-(off+s+1+vs.length))=i by omega,show off+s+(vs.length+1)+(i-(off+s+(vs.length+1)))=i by omega]
theorem Jb(place:Nat→Option (Nat×Nat)):∀(ps:List (Nat×Value)) (cs:List Value),Instr.fill place cs.toArray ps=(MU place cs ps).map List.toArray
 |[],cs=>rfl
 |(i,v)::rest,cs=>by
  simp only[Instr.fill,MU];cases place i with
  |none=>rfl
  |some p=>
   obtain⟨off,size⟩:=p;simp only[GZ v,Afx];by_cases h:(Ca v).length=size∧off+(Ca v).length≤cs.length
   ·obtain⟨h1,h2⟩:=h;have hb:(Nat.beq (Ca v).length size && Nat.ble (off+(Ca v).length) cs.length)=true:=by simp[h1];omega
    rw[if_neg (by simp;omega),hb,cond_true,←Jb place rest];congr 1;have:=RZ (Ca v) cs off 0 (by omega);simpa using this
   ·have hb:(Nat.beq (Ca v).length size && Nat.ble (off+(Ca v).length) cs.length)=false:=by
     rw[AgA];intro h';simp only[Afn,Nat.beq_eq,Nat.ble_eq] at h';exact h ⟨h'.1,h'.2⟩
    rw[if_pos (by simp;omega),hb,cond_false];rfl
section
variable {P:Program}{e:Env}{w:World}{d:Option Nat}{t:TypeId}{pos:String}{af:Array Edge}{g:Option (Nat×Bool)}
theorem Y.is{o:Oper}{v v':Value}(h:Y P o e w v)(hv:v=v'):Y P o e w v':=hv▸h
theorem Y.b{o:Oper}{x y:Bool}(h:Y P o e w (.bool x))(hx:x=y):Y P o e w (.bool y):=hx▸h
theorem Abs{o:Oper}{p:Prop}[Decidable p](h:Y P o e w (.bool (decide p)))(hp:p):Y P o e w (.bool true):=h.is (by rw[decide_eq_true hp])
theorem Abt{o:Oper}{p:Prop}[Decidable p](h:Y P o e w (.bool (decide p)))(hp:¬p):Y P o e w (.bool false):=h.is (by rw[decide_eq_false hp])
theorem Abn{x:Operand}{T n b o:Nat}{ag:Bool}{cs:List Value}{v:Value}(hT:Ty P T n ag)(hx:ev e x=.pointer (some ⟨b,o,none⟩))(hr:Rd w b o cs)(hl:cs.length=n)(hv:ldv ag cs=v) :
  Y P ⟨d,.load T x,t,pos,af,g⟩ e w v:=hv▸AeW hT hx hr hl
theorem AbJ{x ix:Operand}{T el k c i:Nat}{ik:IntKind}{iv:Int}{α:Type}{s:Sl α}{enc:α→List Value}{h:Ae}{y:α}(hE:El s k enc h i y)(hT:Und P T (.slice el))(hk:∀w,(sizeOf el).run P w=.ok k w)
  (hx:ev e x=.slice s.at_ s.xs.length c) (hi:ev e ix=.int ik iv) (h0:0≤iv) (hn:iv.toNat=i):Y P ⟨d,.indexAddr T x ix,t,pos,af,g⟩ e w (.pointer (some ⟨s.blk,s.off+i*k,none⟩)):=by
 have:=hE.lt;have hx':ev e x=.slice (some ⟨s.blk,s.off,none⟩) s.xs.length c:=by rw[←hE.at_];exact hx
 have:=Acy (d:=d) (t:=t) (pos:=pos) (af:=af) (g:=g) (w:=w) hT hk hx' hi h0 (by omega);rwa [hn] at this
theorem AcG{x ix:Operand}{T el k n:Nat}{ag:Bool}{ik:IntKind}{i:Int}{cs:List Value}(hT:Und P T (.array n el))(hk:Ty P el k ag)(hx:ev e x=.agg cs.toArray)(hi:ev e ix=.int ik i)(h0:0≤i)(h1:i<n)
  {part:List Value} (hp:(cs.drop (i.toNat*k)).take k=part) (hl:part.length=k) {v:Value} (hv:ldv ag part=v):Y P ⟨d,.index T x ix,t,pos,af,g⟩ e w v:=hv▸AeX hT hk hx hi h0 h1 hp hl
theorem Y.field{x:Operand}{T i ft off n:Nat}{ag:Bool}{cs part:List Value}{v:Value}(hF:Fd P T i ft off)(hT:Ty P ft n ag)(hx:ev e x=.agg cs.toArray)(hp:(cs.drop off).take n=part)(hl:part.length=n)(hv:ldv ag part=v) :
  Y P ⟨d,.field T x i,t,pos,af,g⟩ e w v:=by
 obtain⟨fs,f,h1,h2,rfl,rfl⟩:=hF;subst hv;simp[Y,execOp,hx,Instr.field,run_underlying h1,h2,asAgg,U8 hT hp hl]
theorem Y.build{T:Nat}{parts:Array (Nat×Operand)}{ps:List (Nat×Nat)}{z:Value}{cs:List Value}(hP:Pl P T ps)(hz:Pj P T z)(hf:MU (fun i=>ps[i]?) (Ca z) (parts.toList.map fun (i,x)=>(i,ev e x))=some cs)
  {v:Value} (hv:Value.agg cs.toArray=v):Y P ⟨d,.build T parts,t,pos,af,g⟩ e w v:=by
 obtain⟨fs,h1,h2⟩:=hP;subst hv;have h3:(parts.map fun (i,x)=>(i,ev e x)).toList=parts.toList.map fun (i,x)=>(i,ev e x):=by simp
 have h4:=Jb (fun i=>ps[i]?) (parts.toList.map fun (i,x)=>(i,ev e x)) (Ca z);rw[hf] at h4;simp only[Y,execOp,Instr.build,Sem.run_bind,hz w,Result.andThen_ok,run_underlying h1,h2 w,h3];simp only[AhU,GZ z,h4,Agf,Sem.run_pure,Result.andThen_ok]
theorem AcW{T el n k:Nat}{parts:Array (Nat×Operand)}{z:Value}{cs:List Value}(hT:Und P T (.array n el))(hz:Pj P T z)(hk:∀w,(sizeOf el).run P w=.ok k w)
  (hf:MU (fun i=>some (i*k,k)) (Ca z) (parts.toList.map fun (i,x)=>(i,ev e x))=some cs)
  {v:Value} (hv:Value.agg cs.toArray=v):Y P ⟨d,.build T parts,t,pos,af,g⟩ e w v:=by
 subst hv;have h3:(parts.map fun (i,x)=>(i,ev e x)).toList=parts.toList.map fun (i,x)=>(i,ev e x):=by simp
 have h4:=Jb (fun i=>some (i*k,k)) (parts.toList.map fun (i,x)=>(i,ev e x)) (Ca z);rw[hf] at h4;simp only[Y,execOp,Instr.build,Sem.run_bind,hz w,Result.andThen_ok,run_underlying hT,hk w,h3];simp only[GZ z,h4,Agf,Sem.run_pure,Result.andThen_ok]
end
end
section
def Am(P:Program)(full:Array Oper)(C:World→Prop):List Oper→Env→(Env→Prop)→Prop
 |[],e,K=>K e
 |o::rest,e,K=>if runs full e o then ∃v,(∀w,C w→Oper.quietUpon P C w v ((execOp (ev e) o).run P w))∧Am P full C rest (CQ e o.dst v) K else Am P full C rest (CQ e o.dst undef) K
theorem AcY{P:Program}{full:Array Oper}{C:World→Prop}{N:Nat}{D:List Deferred}:∀(l:List Oper) (a:Act) (K:Env→Prop) (Q:Act→Prop),
  C8 N l=true→a.tmps.size=N→a.defers=D→(∀a',a'.tmps.size=N→a'.defers=D→K (env a')→Q a')→Am P full C l (env a) K→wpQuiet P full C Q l a
 |[],a,K,Q,_,hs,hd,hK,h=>by simp only[Am] at h;exact hK _ hs hd h
 |o::rest,a,K,Q,hds,hs,hd,hK,h=>by
  simp only[C8,Ag5,Afn] at hds;have hput:∀v,env (a.put o.dst v)=CQ (env a) o.dst v:=fun v=>Cg a o.dst v (by rw[hs];exact hds.1);simp only[wpQuiet,BX];simp only[Am] at h;split
  ·rename_i hr;rw[if_pos hr] at h;obtain⟨v,h1,h2⟩:=h;refine⟨v,fun w hw=>?_,?_⟩
   ·unfold Oper.quietAt;rw[BU];exact h1 w hw
   ·rw[←hput] at h2;exact AcY rest _ K Q hds.2 (by rw[Bm,hs]) (by rw[AY,hd]) hK h2
  ·rename_i hr;rw[if_neg hr] at h;rw[←hput] at h;exact AcY rest _ K Q hds.2 (by rw[Bm,hs]) (by rw[AY,hd]) hK h
abbrev LH(P:Program):Prop:=P.follows .mixedOrders=true
theorem AbD{P:Program}{N:Nat}{D:List Deferred}{e:Env}{w:World}{Q:Exit→Env→World→Prop}{id:Nat}{ops:Array Oper}{B:Aq}{h:Ae}{M:List SA}(hm:LH P)(I:Inv B h M w)(hB:Region.lexB .any ops=true)
  (k:Am P ops (Inv B h M) ops.toList e (fun e'=>∀w',Inv B h M w'→Q .normal e' w')):WP P N D (.region id ops true) e w Q:=by
 intro hs a h1 h2 h3;subst h3;refine wp_region_quiet (C:=Inv B h M) hm hB I.drew ?_;exact AcY _ a _ _ hs h1 h2 (fun a' g1 g2 g3 w' hw'=>⟨g1,g2,g3 w' hw'⟩) k
section
variable {P:Program}{full:Array Oper}{rest:List Oper}{e:Env}{K:Env→Prop}{C:World→Prop}
theorem AbH(h:K e):Am P full C [] e K:=h
theorem AcB{d:Nat}{op:Op}{t:TypeId}{pos:String}{af:Array Edge}{v:Value}(hy:∀w,C w→Y P ⟨some d,op,t,pos,af,none⟩ e w v)(h:Am P full C rest (upd e d v) K) :
  Am P full C (⟨some d,op,t,pos,af,none⟩::rest) e K:=by
 simp only[Am,runs,if_true];exact⟨v,fun w hw=>by rw[hy w hw];exact⟨rfl,rfl⟩,h⟩
theorem Acm{d:Nat}{op:Op}{t:TypeId}{pos:String}{af:Array Edge}{v:Value}{j:Nat}{b:Bool}(hg:A4 full e j=some b)(hy:∀w,C w→Y P ⟨some d,op,t,pos,af,some (j,b)⟩ e w v)(h:Am P full C rest (upd e d v) K) :
  Am P full C (⟨some d,op,t,pos,af,some (j,b)⟩::rest) e K:=by
 simp only[Am,runs,hg,beq_self_eq_true,if_true];exact⟨v,fun w hw=>by rw[hy w hw];exact⟨rfl,rfl⟩,h⟩
theorem Abv{d:Nat}{op:Op}{t:TypeId}{pos:String}{af:Array Edge}{j:Nat}{b:Bool}(hg:(A4 full e j == some b)=false)(h:Am P full C rest (upd e d undef) K) :
  Am P full C (⟨some d,op,t,pos,af,some (j,b)⟩::rest) e K:=by simpa[Am,runs,hg,CQ] using h
def QC(P:Program)(C:World→Prop)(o:Oper)(e:Env)(w:World)(v:Value):Prop:=Oper.quietUpon P C w v ((execOp (ev e) o).run P w)
theorem Am.c{d:Nat}{op:Op}{t:TypeId}{pos:String}{af:Array Edge}{v:Value}(hy:∀w,C w→QC P C ⟨some d,op,t,pos,af,none⟩ e w v)(h:Am P full C rest (upd e d v) K) :
  Am P full C (⟨some d,op,t,pos,af,none⟩::rest) e K:=by
 simp only[Am,runs,if_true];exact⟨v,hy,h⟩
theorem Acj{d:Nat}{op:Op}{t:TypeId}{pos:String}{af:Array Edge}{v:Value}{j:Nat}{b:Bool}(hg:A4 full e j=some b)(hy:∀w,C w→QC P C ⟨some d,op,t,pos,af,some (j,b)⟩ e w v)(h:Am P full C rest (upd e d v) K) :
  Am P full C (⟨some d,op,t,pos,af,some (j,b)⟩::rest) e K:=by
 simp only[Am,runs,hg,beq_self_eq_true,if_true];exact⟨v,hy,h⟩
theorem AbO{B:Aq}{h:Ae}{M:List SA}{w:World}{d:Option Nat}{t:TypeId}{pos:String}{af:Array Edge}{g:Option (Nat×Bool)}{f:FuncId}{args:Array Operand}{ts:Array TypeId}{vs:List Value}{r:Value}
  (I:Inv B h M w) (hf:BE P f) (hfn:Fn P f vs ⟨w,h⟩ (fun v _=>v=r)) (ha:args.toList.map (ev e)=vs):QC P (Inv B h M) ⟨d,.call {callee:=.value (.func f),args:=args,argTypes:=ts},t,pos,af,g⟩ e w r:=by
 have ha':args.map (ev e)=vs.toArray:=by rw[←ha];apply Array.ext';simp
 have:(execOp (ev e) ⟨d,.call {callee:=.value (.func f),args:=args,argTypes:=ts},t,pos,af,g⟩).run P w=.ok (.enter f vs.toArray) w:=by
  simp[execOp,resolve,ev,Deferred.ofValue,invoke,ha',hf]
 unfold QC;rw[this];refine⟨rfl,Calls.mono hfn ?_⟩;rintro x w' ⟨v,h',rfl,X,rfl⟩;exact⟨rfl,I.grow X.below⟩
end
end
section
def FnM(P:Program)(f:FuncId)(args:List Value)(B:Aq)(Post:Value→Ae→List SA→Prop):Prop:=
 Calls P f args.toArray B.w fun x w'=>∃v h' M',x=.returned v∧Inv B h' M' w'∧Post v h' M'
theorem Inv.l8{B:Aq}{h h':Ae}{M M':List SA}{w w':World}(I:Inv B h M w)(X:Inv ⟨w,h⟩ h' M' w'):Inv B h' (M'++M) w':=by
 have J:=I.called X.j5;refine⟨J.below,J.ext,J.new,J.imm,fun A hA=>?_,List.pairwise_append.2 ⟨X.apart,J.apart,fun A hA C hC b hb hb'=>?_⟩⟩
 ·rcases Afu.1 hA with hA|hA
  ·obtain⟨h1,h2⟩:=X.own A hA;refine⟨h1,fun b hb=>?_⟩;obtain⟨k1,k2,k3⟩:=h2 b hb;exact⟨AfY I.below.size k1,k2,k3⟩
  ·exact J.own A hA
 ·have h1:=((X.own A hA).2 b hb).1;have h2:=((I.own C hC).2 b hb').2.1;simp only at h1;omega
def Ao(e:TypeId)(k:Nat)(v:Value)(n:Nat)(xs:List Value):SA where
 fp:=v.ownBlock.toList
 P:=fun w=>w.ownsRow 0 e k v n xs
 loc:=fun w w' h hp=>by
  refine⟨hp.1,?_⟩
  rcases hp.2 with h1|⟨g,cap,cur,rfl,h2,h3,h4⟩
  ·exact .inl h1
  ·exact .inr ⟨g,cap,cur,rfl,h2,(h g (by simp[Value.ownBlock])).trans h3,h4⟩
structure ElT(P:Program)(e:TypeId)(k bytes:Nat)(z:Value):Prop where
 info:(P.info? e).map (fun i=>(i.zero,i.size,i.bytes))=some (some z,k,bytes)
 cells:z.cells.size=k
 pos:0<k
theorem Inv.l9{B:Aq}{h:Ae}{M:List SA}{w:World}(I:Inv B h M w)(e:TypeId)(k:Nat):Inv B h (Ao e k (.slice none 0 0) 0 []::M) w:=
 I.gain (CZ.refl w) (World.ownsRow_nil w 0 e k) (fun b hb=>by simp[Ao,Value.ownBlock] at hb)
theorem LI(w:World)(cells:List Value)(e:TypeId)(k n c:Nat)(hl:cells.length=c*k)(hn:n≤c)(hc:c≤maxLen)(d:World)(hd:d.heap=w.heap) :
  (d.alloc (.cells cells.toArray e)).ownsRow 0 e k (.slice (some ⟨w.heap.size,0,none⟩) n c) n (cells.take (n*k)):=by
 refine⟨by rw[Afj,hl];exact Ags (AfA k hn),.inr ⟨w.heap.size,c,cells.toArray,rfl,Afa _,?_,hn,hc,by simpa using hl,by simp⟩⟩;rw[←hd];exact heap_alloc_new d _
theorem Jd{P:Program}{w:World}{T ty e:TypeId}{k bytes:Nat}{z:Value}(ht:P.underlying T=some (.slice e))(he:ElT P e k bytes z){v:Value}{n:Nat}{xs:List Value}(hown:w.ownsRow 0 e k v n xs)
  {a:Addr} {m c:Nat} {news:List Value} (hl:news.length=m*k) (hnews:∀j u,news[j]?=some u→w.cell? (a.add j)=some u) (h1:AJ news=true) (hm:0<m) (hbytes:(n+m)*bytes≤140737488355328) (h63:n+m≤140737488355328) :
  ∃v' w',(Builtin.append_ #[T,T] ty #[v,.slice (some a) m c]).run P w=.ok v' w'∧w'.ownsRow 0 e k v' (n+m) (xs++news)∧w.grownBy w' v.ownBlock∧(v'.ownBlock=v.ownBlock∨v'.ownBlock=some w.heap.size)∧(∃g cap,v'=.slice (some ⟨g,0,none⟩) (n+m) cap):=by
 obtain⟨i,hi,hz,hs,hb⟩:∃i,P.info? e=some i∧i.zero=some z∧i.size=k∧i.bytes=bytes:=by
  have:=he.info;cases h:P.info? e with
  |none=>simp[h] at this
  |some i=>simp[h] at this;exact⟨i,rfl,this.1,this.2.1,this.2.2⟩
 subst hs;subst hb;have hmx:n+m≤maxLen:=by simp only[maxLen];omega
 have hone:∀u∈news,u.oneCell'=true:=by simpa[AJ] using h1
 have mk:∀(old:Nat) (row:Option Nat),
   (w.drew.alloc (.cells (xs.toArray++news.toArray++Builtin.zeroCells z.cells (grownCap w (n+m) old e-(n+m))) e)).ownsRow 0 e i.size (.slice (some ⟨w.heap.size,0,none⟩) (n+m) (grownCap w (n+m) old e)) (n+m) (xs++news)∧
   w.grownBy (w.drew.alloc (.cells (xs.toArray++news.toArray++Builtin.zeroCells z.cells (grownCap w (n+m) old e-(n+m))) e)) row:=by
  intro old row;have hge:=grownCap_ge w (n+m) old e;have hcm:=grownCap_le_maxLen w (n+m) old e hmx;have hlen:(xs++news).length=(n+m)*i.size:=by rw[Ae2,hown.1,hl,AfP]
  refine⟨⟨hlen,.inr ⟨w.heap.size,_,_,rfl,Afa _,heap_alloc_new w.drew _,hge,hcm,?_,?_⟩⟩,⟨rfl,rfl,rfl,by simp,fun q hq _=>Below.heap_alloc w.drew _ q hq⟩⟩
  ·simp only[Ahf,Afx,size_zeroCells,he.cells,hown.1,hl,←AfP];congr 1;omega
  ·simp only[AhA];rw[←hlen];exact Ag1
 rcases hown.2 with ⟨rfl,rfl⟩|⟨g,cap,cur,rfl,hbg,hg,hnc,hcm,hcs,htake⟩
 ·have hx:xs=[]:=Agu (by simpa using hown.1);subst hx;have hr:=run_append_nil (P:=P) w T ty e i z ht hi hz a m c news hl hnews hm (by omega) (by simp only[Agg] at hbytes;omega);have hgr:=mk 0 (Value.ownBlock (.slice none 0 0));simp only[Agg,AfC,Array.empty_append] at hgr ⊢;exact⟨_,_,hr,hgr.1,hgr.2,.inr rfl,_,_,rfl⟩
 ·by_cases hroom:n+m≤cap
  ·have hfit:n*i.size+news.length≤cur.size:=by rw[hl,hcs,←AfP];exact AfA _ hroom
   have hr:=run_append_room (P:=P) w T ty e i ht hi g n cap cur hg a m c news hl hnews hone hroom hfit;have hlen:(xs++news).length=(n+m)*i.size:=by rw[Ae2,hown.1,hl,AfP]
   refine⟨_,_,hr,⟨hlen,.inr ⟨g,cap,_,rfl,hbg,setRow_heap w g cur _ e _ hg,hroom,hcm,?_,?_⟩⟩,⟨rfl,rfl,rfl,by simp,fun k _ hk=>setRow_other w g k _ (fun e=>hk (by simp[Value.ownBlock,e]))⟩,.inl rfl,_,_,rfl⟩
   ·simp only[Afx,Ae2,Afj,AfD,Af2];omega
   ·rw[htake,←hlen];exact Ag1
  ·have holds:∀j u,xs[j]?=some u→w.cell? ((⟨g,0,none⟩:Addr).add j)=some u:=hown.cells (g:=g) rfl;have hr:=run_append_grow (P:=P) w T ty e i z ht hi hz ⟨g,0,none⟩ n cap xs hown.1 holds a m c news hl hnews (by omega) (by omega) (growslice_fits (by omega) hbytes);have hgr:=mk cap (Value.ownBlock (.slice (some ⟨g,0,none⟩) n cap));exact⟨_,_,hr,hgr.1,hgr.2,.inr rfl,_,_,rfl⟩
theorem Inv.o9{B:Aq}{h:Ae}{M:List SA}{w w':World}(I:Inv B h M w){e:TypeId}{k n n':Nat}{v v':Value}{xs xs':List Value}(n0:Nat)(hn:M[n0]?=some (Ao e k v n xs))(h1:w'.ownsRow 0 e k v' n' xs')(h2:w.grownBy w' v.ownBlock)(h3:v'.ownBlock=v.ownBlock∨v'.ownBlock=some w.heap.size) :
  Inv B h (M.set n0 (Ao e k v' n' xs')) w':=by
 refine I.l6 n0 hn h2.os h2.tape h2.output h2.size (fun b hb hnb=>h2.block b hb (fun e=>hnb ?_)) h1 (fun b hb=>?_)
 ·simp[Ao,←e]
 ·have hb':v'.ownBlock=some b:=by simpa[Ao] using hb
  have hlt:=(h1.lt b hb').2;rcases h3 with h3|h3
  ·exact⟨.inl (by simp[Ao,←h3,hb']),hlt⟩
  ·rw[hb'] at h3;cases h3;exact⟨.inr (Afg _),hlt⟩
theorem Inv.p8{α:Type}{B:Aq}{h:Ae}{M:List SA}{w:World}{e:TypeId}{k:Nat}{enc:α→List Value}{v:Value}{n:Nat}{xs:List α}(I:Inv B h (Ao e k v n (xs.flatMap enc)::M) w)(hk:∀x,(enc x).length=k)(hn:n=xs.length) :
  ∃h' s,h.le h'∧Sl.val s=v∧s.xs=xs∧Sl.In s k enc h'∧Inv B h' M w:=by
 subst hn;have hp:w.ownsRow 0 e k v xs.length (xs.flatMap enc):=(I.own _ (Ae7 ..)).1;obtain⟨h',hle,hfp,I'⟩:=I.settle;rcases hp.2 with ⟨rfl,h0⟩|⟨g,cap,cur,rfl,_,hg,hnc,hcm,hcs,htake⟩
 ·have:xs=[]:=Agu h0;subst this;exact⟨h',⟨none,0,[]⟩,hle,rfl,rfl,fun i x hx=>by simp at hx,I'⟩
 ·refine⟨h',⟨some ⟨g,0,none⟩,cap,xs⟩,hle,rfl,rfl,fun i x hx=>⟨rfl,fun j u hu=>?_⟩,I'⟩;have hb:h' g=some (.cells cur e (0,0)):=by rw[hfp g (by simp[Ao,Value.ownBlock])];exact hg
  have hfm:(xs.flatMap enc)[i*k+j]?=some u:=by
   clear hcs htake hp I I' hfp hb hg;have hj:j<k:=by have:=(Ae9.1 hu).1;rw[hk] at this;exact this
   induction xs generalizing i with
   |nil=>simp at hx
   |cons y ys ih=>
    simp only[AfK];cases i with
    |zero=>
     simp at hx;subst hx;rw[AfU (by rw[hk];omega)];simpa using hu
    |succ i=>
     rw[Af5 (by rw[hk,AfP];omega),hk];rw[show(i+1)*k+j-k=i*k+j by rw[AfP];omega];exact ih (by simp at hnc;omega) i (by simpa using hx)
  simp only[Ae.cell,Sl.blk,Sl.off,Aga,hb];rw[←htake,AfF] at hfm;split at hfm
  ·simpa using hfm
  ·cases hfm
section
variable {P:Program}{e:Env}{w:World}{B:Aq}{h:Ae}{M:List SA}{t:TypeId}{pos:String}{af:Array Edge}{g:Option (Nat×Bool)}{d:Option Nat}{K:Value→World→Prop}
theorem Ab0{T el k bytes n m c b o:Nat}{z v:Value}{x y:Operand}{xs news:List Value}(I:Inv B h M w)(hT:Und P T (.slice el))(he:ElT P el k bytes z)(n0:Nat)(hn:M[n0]?=some (Ao el k v n xs))(hx:ev e x=v)(hy:ev e y=.slice (some ⟨b,o,none⟩) m c)
  (hr:Rd w b o news) (hl:news.length=m*k) (h1:AJ news=true) (hm:0<m) (hb:(n+m)*bytes≤140737488355328) (h63:n+m≤140737488355328)
  (kk:∀g cap w',Inv B h (M.set n0 (Ao el k (.slice (some ⟨g,0,none⟩) (n+m) cap) (n+m) (xs++news))) w'→K (.slice (some ⟨g,0,none⟩) (n+m) cap) w') :
  Op1 P ⟨d,.call {callee:=.builtin .append,args:=#[x,y],argTypes:=#[T,T]},t,pos,af,g⟩ e w K:=by
 obtain⟨v',w',h2,h3,h4,h5,g',cap,rfl⟩:=Jd (P:=P) (ty:=t) hT he (I.at n0 hn) (a:=⟨b,o,none⟩) (c:=c) hl (fun j u hu=>by rw[BN];exact hr j u hu) h1 hm hb h63;have:(execOp (ev e) ⟨d,.call {callee:=.builtin .append,args:=#[x,y],argTypes:=#[T,T]},t,pos,af,g⟩).run P w=.ok (.value (.slice (some ⟨g',0,none⟩) (n+m) cap)) w':=by
  simp[execOp,resolve,invoke,builtin,hx,hy,h2]
 unfold Op1;rw[this];exact kk g' cap w' (I.o9 n0 hn h3 h4 h5)
theorem AbY{α:Type}{T el k n:Nat}{parts:Array (Nat×Operand)}{z:Value}(xs:List α)(enc:α→List Value)(I:Inv B h M w)(hT:Und P T (.slice el))(hk:∀w,(sizeOf el).run P w=.ok k w)(hz:Pj P el z)(hn:xs.length=n)(hs:n*k≤16777216)
  (hf:MU (fun i=>some (i*k,k)) ((List.range (n*k)).map fun i=>(Ca z)[i % k]!) (parts.toList.map fun (i,x)=>(i,ev e x))=some (xs.flatMap enc)) (hzc:(Ca z).length=k) (hk0:0<k) (hek:∀x,(enc x).length=k)
  (kk:∀b h' w',Inv B h' M w'→h.le h'→Sl.In ⟨some ⟨b,0,none⟩,n,xs⟩ k enc h'→K (.slice (some ⟨b,0,none⟩) n n) w') :
  Op1 P ⟨d,.buildSlice T n parts,t,pos,af,g⟩ e w K:=by
 have h3:(parts.map fun (i,x)=>(i,ev e x)).toList=parts.toList.map fun (i,x)=>(i,ev e x):=by simp
 have h4:=Jb (fun i=>some (i*k,k)) (parts.toList.map fun (i,x)=>(i,ev e x)) ((List.range (n*k)).map fun i=>(Ca z)[i % k]!);rw[hf] at h4;have hlen:(xs.flatMap enc).length=n*k:=by
  subst hn;clear hf h4 hs kk;induction xs with
  |nil=>simp
  |cons y ys ih=>
   have e1:(List.flatMap enc ys).length=ys.length*k:=ih;simp only[AfK,Ae2,hek,e1,Ae6,AfP];omega
 have hrun:(execOp (ev e) ⟨d,.buildSlice T n parts,t,pos,af,g⟩).run P w=.ok (.value (.slice (some ⟨w.heap.size,0,none⟩) n n)) (w.alloc (.cells (xs.flatMap enc).toArray el)):=by
  have hs':¬(n*k>2 ^ 24):=by simp;omega
  by_cases h0:n*k=0
  ·have hn0:n=0:=by rcases Nat.mul_eq_zero.1 h0 with h|h<;>omega
   subst hn0;have hd:¬((0:Nat)>2 ^ 24):=by decide
   simp only[execOp,Instr.buildSlice,Sem.run_bind,run_underlying hT,Result.andThen_ok,hk w,Ah5,h3,if_neg hd,if_true,Sem.run_pure];simp only[Ah5,List.range_zero,AgT] at h4;have h5:(Array.map (fun x=>(#[]:Array Value)[x % (#[]:Array Value).size]!) (Array.range 0))=([]:List Value).toArray:=by simp
   rw[h5,h4];simp[newRow]
  ·simp only[execOp,Instr.buildSlice,Sem.run_bind,run_underlying hT,Result.andThen_ok,hk w,h3,if_neg hs',if_neg h0,hz w];have h5:(Array.map (fun x=>z.cells[x % z.cells.size]!) (Array.range (n*k)))=((List.range (n*k)).map fun i=>(Ca z)[i % k]!).toArray:=by
    apply Array.ext';simp[GZ z,hzc]
   simp only[Sem.run_pure,Result.andThen_ok];rw[h5,h4];simp[newRow]
 unfold Op1;rw[hrun];have J:=I.gain (A:=TF.box w.heap.size (xs.flatMap enc) el) (CZ.alloc w _) (heap_alloc_new w _) (fun b hb=>by simp[TF.box] at hb;subst hb;simp);obtain⟨h',hle,hfp,J'⟩:=J.settle;refine kk _ h' _ J' hle (fun i x hx=>⟨rfl,fun j u hu=>?_⟩);have hb:h' w.heap.size=some (.cells (xs.flatMap enc).toArray el (0,0)):=by rw[hfp _ (by simp[TF.box])];exact heap_alloc_new w _
 simp only[Ae.cell,Sl.blk,Sl.off,Aga,hb];have hj:j<k:=by have:=(Ae9.1 hu).1;rw[hek] at this;exact this
 have key:∀(xs:List α) (i:Nat),xs[i]?=some x→(xs.flatMap enc)[i*k+j]?=some u:=by
  intro xs;induction xs with
  |nil=>intro i hx;simp at hx
  |cons y ys ih=>
   intro i hx;simp only[AfK];cases i with
   |zero=>
    simp at hx;subst hx;rw[AfU (by rw[hek];omega)];simpa using hu
   |succ i=>
    rw[Af5 (by rw[hek,AfP];omega),hek];rw[show(i+1)*k+j-k=i*k+j by rw[AfP];omega];exact ih i (by simpa using hx)
 simpa using key xs i hx
theorem Ac9{f:FuncId}{args:Array Operand}{ts:Array TypeId}{vs:List Value}{Post:Value→Ae→List SA→Prop}(I:Inv B h M w)(hf:BE P f)(hfn:FnM P f vs ⟨w,h⟩ Post)
  (ha:args.toList.map (ev e)=vs) (k:∀v h' M' w',Inv B h' (M'++M) w'→h.le h'→Post v h' M'→K v w'):Op1 P ⟨d,.call {callee:=.value (.func f),args:=args,argTypes:=ts},t,pos,af,g⟩ e w K:=by
 have ha':args.map (ev e)=vs.toArray:=by rw[←ha];apply Array.ext';simp
 have:(execOp (ev e) ⟨d,.call {callee:=.value (.func f),args:=args,argTypes:=ts},t,pos,af,g⟩).run P w=.ok (.enter f vs.toArray) w:=by
  simp[execOp,resolve,ev,Deferred.ofValue,invoke,ha',hf]
 unfold Op1;rw[this];refine Calls.mono hfn ?_;rintro x w' ⟨v,h',M',rfl,X,hp⟩;exact k v h' M' w' (I.l8 X) X.ext hp
end
def XJ(P:Program)(fn:Func)(B:Aq)(Post:Value→Ae→List SA→Prop):Exit→Env→World→Prop
 |.ret,e,w|.normal,e,w=>∃vs h' M',RV P e w fn.results.toList vs∧Inv B h' M' w∧Post (tup vs) h' M'
 |_,_,_=>False
theorem XJ.mk{P:Program}{fn:Func}{B:Aq}{Post:Value→Ae→List SA→Prop}{e:Env}{w:World}{rs:List ResultVar}{vs:List Value}{h:Ae}{M:List SA}(hr:fn.results.toList=rs)(hv:RV P e w rs vs)(X:Inv B h M w)(hp:Post (tup vs) h M) :
  XJ P fn B Post .ret e w:=⟨vs,h,M,by rw[hr];exact hv,X,hp⟩
theorem FnM.of{P:Program}{f:FuncId}{fn:Func}{c:Code}{N:Nat}{args:List Value}{B:Aq}{Post:Value→Ae→List SA→Prop}(hf:P.funcs[f]?=some fn)(hb:fn.body=some c)(hN:fn.ntmps=N)(hs:AS N c=true)
  (hl:args.length≤N) (h:∀e,WP P N [] c (E e (Ky 0 args)) B.w (XJ P fn B Post)):FnM P f args B Post:=by
 refine calls_of_wp hf hb ?_;subst hN;refine wp_mono (h _ hs {tmps:=args.toArray++Array.replicate (fn.ntmps-args.toArray.size) undef,defers:=[]} (by simp;omega) rfl (C9 (DQ args 0 fun j v hv=>?_)).symm) ?_
 ·have hj:=(Ae9.1 hv).1;have hg:args[j]=v:=(Ae9.1 hv).2;simp[env,Afp,Age,hj,hg]
 ·rintro x a' w' ⟨_,g2,g3⟩;cases x<;>simp only[XJ] at g3<;>first|exact g3.elim|skip;all_goals
   obtain⟨vs,h',M',hv,X,hp⟩:=g3;exact⟨g2,_,A9 rfl hv,_,_,_,rfl,X,hp⟩
end
section
def iV(p:Int×Int):Value×Value:=(.int .i64 p.1,.int .i64 p.2)
def Ed(ents:List MapEntry)(es:List (Int×Int)):Prop:=ents.map (fun e=>(e.key,e.val))=es.map iV
def CS:List (Int×Int)→Int→Option Int
 |[],_=>none
 |(k,v)::r,x=>if x=k then some v else CS r x
def iset:List (Int×Int)→Int→Int→List (Int×Int)
 |[],x,v=>[(x,v)]
 |(k,w)::r,x,v=>if x=k then (x,v)::r else (k,w)::iset r x v
theorem KN(es:List (Int×Int))(x y v:Int):CS (iset es x v) y=if y=x then some v else CS es y:=by
 induction es with
 |nil=>simp[iset,CS]
 |cons p r ih=>
  obtain⟨k,w⟩:=p;simp only[iset];split
  ·rename_i h;subst h;simp only[CS];split<;>simp_all
  ·rename_i h;simp only[CS,ih];split<;>split<;>simp_all
theorem DR{k:IntKind}{x:Int}:∀(ents:List MapEntry) (es:List (Int×Int)) (i:Nat),Ed ents es→CS es x=none→Instr.findNow (.int k) (.int .i64 x) ents i=some none
 |[],_,_,_,_=>rfl
 |e::r,[],_,h,_=>by simp[Ed] at h
 |e::r,(a,b)::s,i,h,hl=>by
  simp only[Ed,AfQ,List.cons.injEq] at h;simp only[CS] at hl;split at hl
  ·cases hl
  ·rename_i hx;have h1:e.key=.int .i64 a:=(Prod.mk.inj h.1).1;have:(x == a)=false:=by simpa using hx
   simp only[Instr.findNow,h1,Instr.sameNow,if_true,this];exact DR r s (i+1) h.2 hl
theorem DS{k:IntKind}{x v:Int}:∀(ents:List MapEntry) (es:List (Int×Int)) (i:Nat),Ed ents es→CS es x=some v→
  ∃j,j<ents.length∧Instr.findNow (.int k) (.int .i64 x) ents i=some (some (i+j,.int .i64 v))∧((ents[j]?).map (·.key))=some (.int .i64 x)∧∀v',Ed (ents.modify j fun e=>{e with key:=.int .i64 x,val:=.int .i64 v'}) (iset es x v')
 |[],[],_,_,hl=>by simp[CS] at hl
 |[],_::_,_,h,_=>by simp[Ed] at h
 |e::r,[],_,h,_=>by simp[Ed] at h
 |e::r,(a,b)::s,i,h,hl=>by
  simp only[Ed,AfQ,List.cons.injEq] at h;have h1:e.key=.int .i64 a:=(Prod.mk.inj h.1).1;have h2:e.val=.int .i64 b:=(Prod.mk.inj h.1).2;simp only[CS] at hl;split at hl
  ·rename_i hx;subst hx;cases hl;refine⟨0,by simp,by simp[Instr.findNow,h1,Instr.sameNow,h2],by simp[h1],fun v'=>?_⟩;simp[Ed,iset,iV];exact h.2
  ·rename_i hx;obtain⟨j,hj,hf,hk,hm⟩:=DS (k:=k) r s (i+1) h.2 hl;refine⟨j+1,by simpa using hj,?_,by simpa using hk,fun v'=>?_⟩
   ·have:(x == a)=false:=by simpa using hx
    simp only[Instr.findNow,h1,Instr.sameNow,if_true,this,hf];rw[show i+(j+1)=i+1+j by omega]
   ·simp only[Ed,AhV,iset,if_neg hx,AfQ,List.cons.injEq];exact⟨h.1,hm v'⟩
theorem Fj{P:Program}{w:World}{em:Bool}{n:Nat}{T:TypeId}{k:IntKind}{x:Int}(hT:Und P T (.int k)):(Instr.checkKey em (n+1) T (.int .i64 x)).run P w=.ok () w:=by
 simp[Instr.checkKey,run_underlying hT]
structure Y5(ents:List MapEntry)(clock:Nat)(es:List (Int×Int)):Prop where
 is:Ed ents es
 nodup:(ents.map (·.born)).Nodup
 lt:∀e∈ents,e.born<clock
def Ow(b:Nat)(es:List (Int×Int)):SA where
 fp:=[b]
 P:=fun w=>∃ents clock,w.heap[b]?=some (.map ents.toArray clock)∧Y5 ents clock es
 loc:=by
  intro w w' h hp
  obtain⟨ents,clock,h1,h2⟩:=hp
  exact⟨ents,clock,(h b (by simp)).trans h1,h2⟩
def R0(h:Ae)(m:Nat)(ents:List MapEntry)(clock:Nat):Prop:=h m=some (.map ents.toArray clock)
def mit(b m clock:Nat)(done:List Nat):SA where
 fp:=[b]
 P:=fun w=>w.heap[b]?=some (.mapIter (some m) clock done.toArray clock)
 loc:=fun _ _ h hp=>(h b (by simp)).trans hp
theorem BY{P:Program}{w:World}{r:Nat}{o:Obj}(h:w.heap[r]?=some o)(hc:∀c t f,o≠.cells c t f):(getObj r).run P w=.ok o w:=by
 cases o<;>first|exact absurd rfl (hc _ _ _)|simp[getObj,Sem.run,h]
theorem Ee{P:Program}{w:World}{r:Nat}{o o':Obj}(h:w.heap[r]?=some o)(hc:∀c t f,o≠.cells c t f):(setObj r o').run P w=.ok () {w with heap:=w.heap.setIfInBounds r o'}:=by
 cases o<;>first|exact absurd rfl (hc _ _ _)|simp[setObj,Sem.run,h]
theorem Inv.setObj{B:Aq}{h:Ae}{M:List SA}{w:World}(I:Inv B h M w)(n:Nat){A A':SA}{b:Nat}{o:Obj}(hn:M[n]?=some A)(hA:A.fp=[b])(hA':A'.fp=[b])(hp:∀w':World,w'.heap[b]?=some o→A'.P w') :
  Inv B h (M.set n A') {w with heap:=w.heap.setIfInBounds b o}:=by
 have hb:=((I.own A (Afk hn)).2 b (by simp[hA])).2.1;refine I.l6 n hn rfl rfl rfl (by simp) (fun k _ hk=>?_) (hp _ (by simp[hb])) (fun k hk=>?_)
 ·simp only[Ahv];rw[if_neg];intro e;exact hk (by simp[hA,←e])
 ·rw[hA'] at hk;simp at hk;subst hk;exact⟨.inl (by simp[hA]),by simpa using hb⟩
section
variable {P:Program}{e:Env}{w:World}{B:Aq}{h:Ae}{M:List SA}{t:TypeId}{pos:String}{af:Array Edge}{g:Option (Nat×Bool)}{d:Option Nat}{K:Value→World→Prop}
theorem Ael{T:TypeId}(I:Inv B h M w)(k:∀b w',Inv B h (Ow b []::M) w'→K (.map (some b)) w'):Op1 P ⟨d,.makeMap T none,t,pos,af,g⟩ e w K:=by
 have:(execOp (ev e) ⟨d,.makeMap T none,t,pos,af,g⟩).run P w=.ok (.value (.map (some w.heap.size))) (w.alloc (.map #[] 0)):=by
  simp[execOp,Instr.makeMap]
 unfold Op1;rw[this];refine k _ _ (I.gain (CZ.alloc w _) ⟨[],0,heap_alloc_new w _,rfl,List.Pairwise.nil,fun _ h=>by cases h⟩ (fun b hb=>?_));simp[Ow] at hb;subst hb;simp
theorem Q2{T Kt Vt:TypeId}{ik:IntKind}{m:Nat}{ents:List MapEntry}{clock:Nat}{es:List (Int×Int)}{x:Int}(hT:Und P T (.map Kt Vt))(hK:Und P Kt (.int ik))(hz:Pj P Vt (.int .i64 0))(hm:w.heap[m]?=some (.map ents.toArray clock))(hi:Ed ents es) :
  (Instr.lookup T (.map (some m)) (.int .i64 x) false).run P w=.ok (.int .i64 ((CS es x).getD 0)) w:=by
 have hg:(getObj m).run P w=.ok (.map ents.toArray clock) w:=BY hm (by intro c t f h;cases h);have hck:∀em,(Instr.checkKey em 10000 Kt (.int .i64 x)).run P w=.ok () w:=fun em=>Fj (n:=9999) hK;cases hl:CS es x with
 |none=>
  have hf:=DR (k:=ik) ents es 0 hi hl;simp[Instr.lookup,run_underlying hT,hg,hck,Instr.findKey,run_underlying hK,hf,hz w]
 |some v=>
  obtain⟨j,_,hf,_⟩:=DS (k:=ik) ents es 0 hi hl;simp[Instr.lookup,run_underlying hT,hg,hck,Instr.findKey,run_underlying hK,hf]
theorem Y.lookup{T Kt Vt:TypeId}{ik:IntKind}{b:Nat}{es:List (Int×Int)}{x y:Operand}{i:Int}(I:Inv B h M w)(hT:Und P T (.map Kt Vt))(hK:Und P Kt (.int ik))(hz:Pj P Vt (.int .i64 0))(n:Nat)(hn:M[n]?=some (Ow b es))(hx:ev e x=.map (some b))(hy:ev e y=.int .i64 i) :
  Y P ⟨d,.lookup T x y false,t,pos,af,g⟩ e w (.int .i64 ((CS es i).getD 0)):=by
 obtain⟨ents,clock,h1,h2⟩:=I.at n hn;simp[Y,execOp,hx,hy,Q2 hT hK hz h1 h2.is]
theorem Adz{T Kt Vt:TypeId}{ik:IntKind}{b:Nat}{es:List (Int×Int)}{x y z:Operand}{i v:Int}(I:Inv B h M w)(hT:Und P T (.map Kt Vt))(hK:Und P Kt (.int ik))(n:Nat)(hn:M[n]?=some (Ow b es))(hx:ev e x=.map (some b))(hy:ev e y=.int .i64 i)(hz:ev e z=.int .i64 v)
  (k:∀w',Inv B h (M.set n (Ow b (iset es i v))) w'→K undef w'):Op1 P ⟨d,.mapUpdate T x y z,t,pos,af,g⟩ e w K:=by
 obtain⟨ents,clock,h1,h2⟩:=I.at n hn;have hg:(getObj b).run P w=.ok (.map ents.toArray clock) w:=BY h1 (by intro c t f h;cases h);have hck:∀em,(Instr.checkKey em 10000 Kt (.int .i64 i)).run P w=.ok () w:=fun em=>Fj (n:=9999) hK;have hset:∀o,(Go.setObj b o).run P w=.ok () {w with heap:=w.heap.setIfInBounds b o}:=fun o=>Ee h1 (by intro c t f h;cases h);cases hl:CS es i with
 |none=>
  have hf:=DR (k:=ik) ents es 0 h2.is hl;have hrun:(execOp (ev e) ⟨d,.mapUpdate T x y z,t,pos,af,g⟩).run P w=.ok .skip {w with heap:=w.heap.setIfInBounds b (.map (ents++[({key:=.int .i64 i,val:=.int .i64 v,born:=clock}:MapEntry)]).toArray (clock+1))}:=by
   simp[execOp,hx,hy,hz,Instr.mapUpdate,run_underlying hT,hg,hck,Instr.findKey,run_underlying hK,hf,hset]
  unfold Op1;rw[hrun];refine k _ (I.setObj n hn rfl rfl fun w' hw'=>⟨_,_,hw',?_,?_,?_⟩)
  ·have:iset es i v=es++[(i,v)]:=by
    clear hf h1 h2 hg hset hn k;induction es with
    |nil=>rfl
    |cons p r ih=>
     obtain⟨a,c⟩:=p;simp only[CS] at hl;split at hl
     ·cases hl
     ·rename_i hne;simp[iset,hne,ih hl]
   rw[this];unfold Ed;rw[AfM,AfM,h2.is];rfl
  ·rw[AfM,List.nodup_append];refine⟨h2.nodup,by simp,fun a ha c hc=>?_⟩;simp at hc;subst hc;obtain⟨q,hq,rfl⟩:=AfE.1 ha;have:=h2.lt q hq;omega
  ·intro q hq;rcases Afu.1 hq with hq|hq
   ·have:=h2.lt q hq;omega
   ·simp at hq;subst hq;simp
 |some v0=>
  obtain⟨j,hj,hf,hk,hm⟩:=DS (k:=ik) ents es 0 h2.is hl;have hrun:(execOp (ev e) ⟨d,.mapUpdate T x y z,t,pos,af,g⟩).run P w=.ok .skip {w with heap:=w.heap.setIfInBounds b (.map (ents.modify j fun e=>{e with key:=.int .i64 i,val:=.int .i64 v}).toArray clock)}:=by
   have hk':ents[j]?.map (·.key)=some (.int .i64 i):=hk;cases hgt:ents[j]? with
   |none=>simp[hgt] at hk'
   |some q=>
    simp only[hgt,Agf,Option.some.injEq] at hk';simp[execOp,hx,hy,hz,Instr.mapUpdate,run_underlying hT,hg,hck,Instr.findKey,run_underlying hK,hf,hset,hgt,hk',Instr.keyThatStays,Instr.sameBits]
  unfold Op1;rw[hrun];refine k _ (I.setObj n hn rfl rfl fun w' hw'=>⟨_,_,hw',hm v,?_,?_⟩)
  ·have:(ents.modify j fun e=>{e with key:=.int .i64 i,val:=.int .i64 v}).map (·.born)=ents.map (·.born):=by
    apply Ago;intro q;simp only[AfI,AgZ];cases ents[q]?<;>simp;split<;>rfl
   rw[this];exact h2.nodup
  ·intro q hq;obtain⟨p,hp⟩:=AgU.1 hq;rw[AgZ] at hp;cases hgp:ents[p]? with
   |none=>simp[hgp] at hp
   |some c=>
    have:=h2.lt c (Afk hgp);simp only[hgp] at hp;cases hp;split<;>exact this
theorem Inv.p9{b:Nat}{es:List (Int×Int)}(I:Inv B h (Ow b es::M) w):∃h' ents clock,h.le h'∧R0 h' b ents clock∧Y5 ents clock es∧Inv B h' M w:=by
 obtain⟨ents,clock,h1,h2⟩:(Ow b es).P w:=(I.own _ (Ae7 ..)).1;obtain⟨h',hle,hfp,I'⟩:=I.settle;exact⟨h',ents,clock,hle,by unfold R0;rw[hfp b (by simp[Ow])];exact h1,h2,I'⟩
theorem O.range{T Kt Vt m:Nat}{x:Operand}{ents:List MapEntry}{clock:Nat}(I:Inv B h M w)(hT:Und P T (.map Kt Vt))(hx:ev e x=.map (some m))(hm:R0 h m ents clock)
  (k:∀b w',Inv B h (mit b m clock []::M) w'→K (.pointer (some ⟨b,0,none⟩)) w'):Op1 P ⟨d,.range T x,t,pos,af,g⟩ e w K:=by
 have hg:(getObj m).run P w=.ok (.map ents.toArray clock) w:=BY (I.imm _ _ hm) (by intro c t f h;cases h);have:(execOp (ev e) ⟨d,.range T x,t,pos,af,g⟩).run P w=.ok (.value (.pointer (some ⟨w.heap.size,0,none⟩))) (w.alloc (.mapIter (some m) clock #[] clock)):=by
  simp[execOp,hx,Instr.range,run_underlying hT,hg]
 unfold Op1;rw[this];refine k _ _ (I.gain (CZ.alloc w _) (heap_alloc_new w _) (fun b hb=>?_));simp[mit] at hb;subst hb;simp
theorem O.next{x:Operand}{b m clock:Nat}{done:List Nat}{ents:List MapEntry}{es:List (Int×Int)}(I:Inv B h M w)(n:Nat)(hn:M[n]?=some (mit b m clock done))(hx:ev e x=.pointer (some ⟨b,0,none⟩))(hm:R0 h m ents clock)(hi:Y5 ents clock es)
  (k0:(∀q∈ents,q.born∈done)→K (.tuple #[.bool false]) w)
  (k1:∀q w',q∈ents→q.born∉done→Inv B h (M.set n (mit b m clock (done++[q.born]))) w'→K (.tuple #[.bool true,q.key,q.val]) w'):Op1 P ⟨d,.next x false,t,pos,af,g⟩ e w K:=by
 have hb:w.heap[b]?=some (.mapIter (some m) clock done.toArray clock):=I.at n hn;have hgb:(getObj b).run P w=.ok (.mapIter (some m) clock done.toArray clock) w:=BY hb (by intro c t f h;cases h);have hgm:(getObj m).run P w=.ok (.map ents.toArray clock) w:=BY (I.imm _ _ hm) (by intro c t f h;cases h);have hall:(!done.toArray.isEmpty && !ents.toArray.isEmpty && ents.toArray.all (fun e=>decide (e.born≥clock)))=false:=by
  cases he:ents with
  |nil=>simp
  |cons q r=>
   have:=hi.lt q (by simp[he]);simp;intro _ h';omega
 have hleft:(ents.toArray.filter fun e=>!done.toArray.contains e.born).filter (fun e=>decide (e.born<clock))=(ents.filter fun e=>!done.contains e.born).toArray:=by
  simp only[List.filter_toArray];congr 1;refine(List.filter_eq_self.2 fun a ha=>?_).trans (by simp);have:=hi.lt a (AfN.1 ha).1;simpa using this
 have hnew:(ents.toArray.filter fun e=>!done.toArray.contains e.born).filter (fun e=>decide (e.born≥clock))=#[]:=by
  simp only[List.filter_toArray];rw[Ahd.2];intro a ha;have:=hi.lt a (AfN.1 ha).1;simp;omega
 cases hl:(ents.filter fun e=>!done.contains e.born) with
 |nil=>
  have hrun:(execOp (ev e) ⟨d,.next x false,t,pos,af,g⟩).run P w=.ok (.value (.tuple #[.bool false])) w:=by
   simp only[execOp,hx,Instr.next,Sem.run_bind,hgb,Result.andThen_ok,hgm,hall,hleft,hnew,hl];simp[Question.forced]
  unfold Op1;rw[hrun];refine k0 fun q hq=>?_;rw[Ahd] at hl;have:=hl q hq;simpa using this
 |cons q0 r0=>
  have hsome:∀i,i<(q0::r0).length→∃q,(q0::r0)[i]?=some q∧q∈ents∧q.born∉done:=by
   intro i hi';refine⟨(q0::r0)[i],Ae4 hi',?_⟩;have:(q0::r0)[i]∈ents.filter fun e=>!done.contains e.born:=by rw[hl];exact Ae5 hi'
   rw[AfN] at this;exact⟨this.1,by simpa using this.2⟩
  have key:∀(i:Nat) (wd:World),wd.heap=w.heap→wd.os=w.os→wd.tape=w.tape→wd.output=w.output→∀q,(q0::r0)[i]?=some q→q∈ents→q.born∉done→
    K (.tuple #[.bool true,q.key,q.val]) {wd with heap:=wd.heap.setIfInBounds b (.mapIter (some m) clock (done++[q.born]).toArray clock)}:=by
   intro i wd h1 h2 h3 h4 q hq hq1 hq2;have Id:Inv B h M wd:=I.grow ⟨h2,h3,h4,by rw[h1];exact Afg _,fun k _=>by rw[h1]⟩;exact k1 q _ hq1 hq2 (Id.setObj n hn rfl rfl fun w' hw'=>hw')
  have hcand:(if (q0::r0).toArray.isEmpty=true then #[none] else #[])++((q0::r0).toArray++#[]).map some=(q0::r0).toArray.map some:=by simp
  unfold Op1;by_cases hf:(q0::r0).length≤1
  ·obtain⟨q,hq,hq1,hq2⟩:=hsome 0 (by simp);have hrun:(execOp (ev e) ⟨d,.next x false,t,pos,af,g⟩).run P w=.ok (.value (.tuple #[.bool true,q.key,q.val])) {w with heap:=w.heap.setIfInBounds b (.mapIter (some m) clock (done++[q.born]).toArray clock)}:=by
    have hr0:r0=[]:=by cases r0 with|nil=>rfl|cons _ _=>simp at hf
    subst hr0;simp at hq;subst hq;have hset:=fun o=>Ee (P:=P) (o':=o) hb (by intro c t f h;cases h);simp only[execOp,hx,Instr.next,Sem.run_bind,hgb,Result.andThen_ok,hgm,hall,hleft,hnew,hl,hcand];simp[Question.forced,hset]
   rw[hrun];exact key 0 w rfl rfl rfl rfl q hq hq1 hq2
  ·have hlt:=Nat.mod_lt (w.tape w.drawn (.mapNext (q0::r0).length)) (show 0<(q0::r0).length by simp);obtain⟨q,hq,hq1,hq2⟩:=hsome _ hlt;have hrun:(execOp (ev e) ⟨d,.next x false,t,pos,af,g⟩).run P w=.ok (.value (.tuple #[.bool true,q.key,q.val])) {w.drew with heap:=w.drew.heap.setIfInBounds b (.mapIter (some m) clock (done++[q.born]).toArray clock)}:=by
    have hbd:w.drew.heap[b]?=some (.mapIter (some m) clock done.toArray clock):=hb;have hset:=fun o=>Ee (P:=P) (o':=o) hbd (by intro c t f h;cases h);have hforced:(Question.mapNext (r0.length+1)).forced=false:=by simp[Question.forced];simp at hf;omega
    have hq':((q0::r0).toArray.map some)[(Question.mapNext (r0.length+1)).cut (w.tape w.drawn (.mapNext (r0.length+1)))]?=some (some q):=by
     simp only[List.map_toArray,AhU,AfI];have:(q0::r0)[(Question.mapNext (r0.length+1)).cut (w.tape w.drawn (.mapNext (r0.length+1)))]?=some q:=hq;rw[this];rfl
    simp only[execOp,hx,Instr.next,Sem.run_bind,hgb,Result.andThen_ok,hgm,hall,hleft,hnew,hl,hcand];simp only[Afy,if_false,Sem.run_bind,run_choose,Array.size_map,Afx,Ae6,hforced,Sem.run_pure,Result.andThen_ok,World.drew_eq,hq',hset];simp
   rw[hrun];exact key _ w.drew rfl rfl rfl rfl q hq hq1 hq2
theorem Y.entry{x:Operand}{b m clock:Nat}{done:List Nat}{ents:List MapEntry}{es:List (Int×Int)}{q:MapEntry}(I:Inv B h M w)(n:Nat)(hn:M[n]?=some (mit b m clock (done++[q.born])))(hx:ev e x=.pointer (some ⟨b,0,none⟩))(hm:R0 h m ents clock)(hi:Y5 ents clock es)(hq:q∈ents) :
  Y P ⟨d,.entry x,t,pos,af,g⟩ e w (.tuple #[q.key,q.val]):=by
 have hb:w.heap[b]?=some (.mapIter (some m) clock (done++[q.born]).toArray clock):=I.at n hn;have hgb:(getObj b).run P w=.ok (.mapIter (some m) clock (done++[q.born]).toArray clock) w:=BY hb (by intro c t f h;cases h);have hgm:(getObj m).run P w=.ok (.map ents.toArray clock) w:=BY (I.imm _ _ hm) (by intro c t f h;cases h);have hf:ents.toArray.find? (fun a=>a.born == q.born)=some q:=by
  rw[List.find?_toArray];have hnd:=hi.nodup;clear hgm hm hi hb hgb hn;induction ents with
  |nil=>cases hq
  |cons a r ih=>
   simp only[AfQ,List.nodup_cons] at hnd;rcases Afq.1 hq with rfl|hq'
   ·simp
   ·have hne:a.born≠q.born:=fun e=>hnd.1 (by rw[e];exact Agp hq');have:(a.born == q.born)=false:=by simpa using hne
    rw[List.find?_cons,this];exact ih hq' hnd.2
 simp[Y,execOp,hx,Instr.entry,hgb,hgm,hf]
end
end
section
abbrev Sp:=Value→Ae→Prop
def lk(ops:Array Oper)(o:Oper)(d:Nat):Bool:=(o.looksAt ops).contains d
def wt(o:Oper)(j:Nat):Bool:=o.after.toList.any fun e=>Region.binds .any e && e.on == j
def R1(L:Nat→Prop)(o:Oper):Prop:=∀e∈o.after,Region.binds .any e=true→L e.on
def KO(ops:Array Oper)(L:Nat→Prop):Prop:=∀i o,ops[i]?=some o→L i→R1 L o
structure U9(ops:Array Oper)(m:Nat):Prop where
 sel:Region.noSelect ops=true
 le:m≤ops.size
 back:∀i o,ops[i]?=some o→∀e∈o.after,Region.binds .any e=true→e.on<i
 dist:∀i j oi oj d,i<m→j<m→ops[i]?=some oi→ops[j]?=some oj→oi.dst=some d→oj.dst=some d→i=j
 reads:∀i j oi oj d,i<m→j<m→i≠j→ops[i]?=some oi→ops[j]?=some oj→oj.dst=some d→d∈oi.looksAt ops→(j<i→wt oi j=true)∧(i<j→wt oj i=true)
 tail:∀L,KO ops L→∀i oi,m≤i→ops[i]?=some oi→R1 L oi→∀j,j<i→L j
theorem Y6{L:Nat→Prop}{o:Oper}{j:Nat}(h:wt o j=true)(hw:R1 L o):L j:=by
 unfold wt at h;rw[AfG] at h;obtain⟨e,he,h⟩:=h;simp only[Afn,beq_iff_eq] at h;rw[←h.2];exact hw e (by simpa using he) h.1
def R2(acc:List Nat)(l:List Edge)(s:Nat):Nat:=l.foldl (fun s e=>bif Region.binds .any e then s ||| (2 ^ e.on) ||| acc.getD e.on 0 else s) s
def Q3:List Oper→List Nat→List Nat
 |[],acc=>acc
 |o::r,acc=>Q3 r (acc++[R2 acc o.after.toList 0])
theorem KP(acc:List Nat):∀(l:List Edge) (s j:Nat),(R2 acc l s).testBit j=true→s.testBit j=true∨∃e∈l,Region.binds .any e=true∧(j=e.on∨(acc.getD e.on 0).testBit j=true)
 |[],s,j,h=>.inl h
 |e::l,s,j,h=>by
  simp only[R2,Agk] at h;have h':=KP acc l _ j h;rcases h' with h'|⟨e',he',hb,hh⟩
  ·cases hb:Region.binds .any e
   ·rw[hb] at h';exact .inl h'
   ·rw[hb] at h';simp only[cond_true,Nat.testBit_or,Agl] at h';rcases h' with (h'|h')|h'
    ·exact .inl h'
    ·rw[Nat.testBit_two_pow] at h';exact .inr ⟨e,Ae7 ..,hb,.inl (by simpa using (of_decide_eq_true h').symm)⟩
    ·exact .inr ⟨e,Ae7 ..,hb,.inr h'⟩
  ·exact .inr ⟨e',Ae8 _ he',hb,hh⟩
theorem KQ{ops:Array Oper}{L:Nat→Prop}(hc:KO ops L):∀(l:List Oper) (acc:List Nat),(∀j,l[j]?=ops[acc.length+j]?)→
  (∀i o,i<acc.length→ops[i]?=some o→R1 L o→∀j,(acc.getD i 0).testBit j=true→L j)→
  ∀i o,i<acc.length+l.length→ops[i]?=some o→R1 L o→∀j,((Q3 l acc).getD i 0).testBit j=true→L j
 |[],acc,_,h=>by simpa[Q3] using h
 |o::l,acc,hl,h=>by
  have h0:ops[acc.length]?=some o:=by simpa using (hl 0).symm
  simp only[Q3];have ih:=KQ hc l (acc++[R2 acc o.after.toList 0]) (fun j=>by
   have:=hl (j+1);simp only[AgL] at this;rw[this,Ae2,Afv];congr 1;omega) ?_
  ·intro i oi hi;exact ih i oi (by simp only[Ae2,Ae6,Afc] at *;omega)
  ·intro i oi hi hoi hw j hj;simp only[Ae2,Afv] at hi;by_cases hlt:i<acc.length
   ·refine h i oi hlt hoi hw j ?_;simpa[Ae3,AfU hlt] using hj
   ·have hi':i=acc.length:=by omega
    subst hi';rw[h0] at hoi;cases hoi;have hj':(R2 acc o.after.toList 0).testBit j=true:=by simpa[Ae3] using hj
    rcases KP acc _ _ _ hj' with h1|⟨e,he,hb,h1⟩
    ·simp at h1
    ·have hLe:L e.on:=hw e (by simpa using he) hb;rcases h1 with rfl|h1
     ·exact hLe
     ·by_cases hlt:e.on<acc.length
      ·cases hoe:ops[e.on]? with
       |none=>
        have:acc.length<ops.size:=(Afr.1 h0).1;have:=Array.getElem?_eq_none_iff.1 hoe;omega
       |some oe=>exact h e.on oe hlt hoe (hc _ _ hoe hLe) j h1
      ·rw[Ae3,Agj (by omega)] at h1;simp at h1
def XK(a b:Option Nat):Bool:=match a,b with|some x,some y=>Nat.beq x y|_,_=>false
theorem Q4{a b:Option Nat}{d:Nat}(ha:a=some d)(hb:b=some d):XK a b=true:=by subst ha;subst hb;simp[XK]
def MV(ops:Array Oper)(m:Nat):Bool:=
  Region.noSelect ops && Nat.ble m ops.size &&
  (ops.toList.zipIdx.all fun p=>p.1.after.toList.all fun e=>!Region.binds .any e || Nat.blt e.on p.2) &&
  ((ops.toList.take m).zipIdx.all fun p=>(ops.toList.take m).zipIdx.all fun q=>Nat.beq p.2 q.2 ||
    (!XK p.1.dst q.1.dst && (match q.1.dst with|some d=>!lk ops p.1 d || (bif Nat.blt q.2 p.2 then wt p.1 q.2 else wt q.1 p.2)|none=>true))) &&
  (let ms:=Q3 ops.toList []
   ops.toList.zipIdx.all fun p=>Nat.blt p.2 m || ((ms.getD p.2 0) &&& (2 ^ p.2-1)) == 2 ^ p.2-1)
theorem LJ{ops:Array Oper}{m:Nat}(h:MV ops m=true):U9 ops m:=by
 simp only[MV,Afn,Aff] at h;obtain⟨⟨⟨⟨h1,h2⟩,h3⟩,h4⟩,h5⟩:=h;have mem:∀{i:Nat} {o:Oper},ops[i]?=some o→(o,i)∈ops.toList.zipIdx:=fun {i o} ho=>by
  rw[Ahx];simpa using ho
 have memT:∀{i:Nat} {o:Oper},i<m→ops[i]?=some o→(o,i)∈(ops.toList.take m).zipIdx:=fun {i o} hi ho=>by
  rw[Ahx,AfF,if_pos hi];simpa using ho
 refine⟨h1,Ahk h2,fun i o ho e he hb=>?_,fun i j oi oj d hi hj ho ho' hd hd'=>?_,fun i j oi oj d hi hj hne ho ho' hd hl=>?_,fun L hL i oi hi ho hw j hj=>?_⟩
 ·have:=h3 _ (mem ho) e (by simpa using he);rw[hb] at this;simp[Nat.blt] at this;omega
 ·have:=h4 _ (memT hi ho) _ (memT hj ho');rw[Q4 hd hd'] at this;simpa using this
 ·have:=h4 _ (memT hi ho) _ (memT hj ho');have hne':Nat.beq i j=false:=by cases hb:Nat.beq i j;rfl;exact absurd (AgR hb) hne
  have hlk:lk ops oi d=true:=by simpa[lk] using hl
  simp only[hne',hd,hlk,Agy,Bool.not_true,Afn] at this;have:=this.2;refine⟨fun hlt=>?_,fun hlt=>?_⟩
  ·have hb:Nat.blt j i=true:=by simp[Nat.blt];omega
   rwa [hb] at this
  ·have hb:Nat.blt j i=false:=by
    cases hb:Nat.blt j i
    ·rfl
    ·have:=Ahk hb;omega
   rwa [hb] at this
 ·have:=h5 _ (mem ho);simp only[Agl,beq_iff_eq] at this;rcases this with hb|hb
  ·have:=Ahk hb;omega
  ·have hbit:((Q3 ops.toList []).getD i 0).testBit j=true:=by
    have h6:=congrArg (fun x=>Nat.testBit x j) hb;simp only[Nat.testBit_and,Nat.testBit_two_pow_sub_one,hj,decide_true,Ahy] at h6;exact h6
   exact KQ hL ops.toList [] (fun j=>by simp) (fun i o hi=>by simp at hi) i oi (by simpa using (Afr.1 ho).1) ho hw j hbit
def ovr(e:Env):List (Nat×Sp)→Env→Env
 |[],_=>e
 |p::L,us=>upd (ovr e L us) p.1 (us p.1)
def CT(c:Nat→Bool)(h:Ae):List (Nat×Sp)→Env→(Env→Prop)→Prop
 |[],e,k=>k e
 |p::L,e,k=>CT c h L e fun e'=>∀u,(c p.1=true→p.2 u h)→k (upd e' p.1 u)
theorem CT.get{c:Nat→Bool}{h:Ae}:∀{L:List (Nat×Sp)} {e:Env} {k:Env→Prop},CT c h L e k→∀us,(∀p∈L,c p.1=true→p.2 (us p.1) h)→k (ovr e L us)
 |[],_,_,a,_,_=>a
 |_::L,_,_,a,us,hp=>CT.get (L:=L) a us (fun q hq=>hp q (Ae8 _ hq)) (us _) (hp _ (Ae7 ..))
def Bt(Φ:Sp):Prop:=∀u h h',h.le h'→Φ u h→Φ u h'
def Obl(P:Program)(full:Array Oper)(B:Aq)(M:List SA)(h0:Ae)(L:List (Nat×Sp))(e:Env)(o:Oper)(Φ:Sp):Prop:=
 ∀h1 w,h0.le h1→Inv B h1 M w→CT (lk full o) h1 L e fun e'=>Op1 P o e' w fun u w'=>∃h2,h1.le h2∧Inv B h2 M w'∧Φ u h2
def AO(P:Program)(full:Array Oper)(B:Aq)(M:List SA)(h0:Ae):List (Nat×Sp)→List Oper→Env→(List (Nat×Sp)→Env→Prop)→Prop
  |L,[],e,K=>K L e
  |L,o::r,e,K=>
    ((∀us,runs full (ovr e L us) o=false)∧AO P full B M h0 L r (CQ e o.dst undef) K)∨
    ((∀us,runs full (ovr e L us) o=true)∧
      ((∃v,Obl P full B M h0 L e o (fun u _=>u=v)∧AO P full B M h0 L r (CQ e o.dst v) K)∨
       (∃d Φ,o.dst=some d∧Bt Φ∧Obl P full B M h0 L e o Φ∧AO P full B M h0 ((d,Φ)::L) r e K)))
def Dh(ops:Array Oper)(j:Nat):Option Nat:=(ops[j]?).bind (·.dst)
theorem Ck(e:Env)(d:Nat)(v:Value):upd e d v d=v:=by simp[upd]
theorem Ch(e:Env){d i:Nat}(v:Value)(h:i≠d):upd e d v i=e i:=by
 unfold upd;cases hb:Nat.beq i d
 ·rfl
 ·exact absurd (AgR hb) h
theorem MW{e us:Env}{d:Nat}:∀{L:List (Nat×Sp)},(∀p∈L,p.1≠d)→ovr e L us d=e d
 |[],_=>rfl
 |p::L,h=>by
  simp only[ovr];rw[Ch _ _ (Ne.symm (h p (Ae7 ..)))];exact MW fun q hq=>h q (Ae8 _ hq)
theorem KR{e us:Env}{d i:Nat}{v:Value}(h:i≠d):∀(L:List (Nat×Sp)),ovr (upd e d v) L us i=ovr e L us i
 |[]=>Ch _ _ h
 |p::L=>by
  simp only[ovr];by_cases hp:i=p.1
  ·subst hp;rw[Ck,Ck]
  ·rw[Ch _ _ hp,Ch _ _ hp,KR h L]
theorem Cq{ops:Array Oper}{o:Oper}{f g:Env}(h:∀d∈o.looksAt ops,f d=g d):runs ops f o=runs ops g o:=by
 unfold runs;cases hg:o.guard with
 |none=>rfl
 |some p=>
  obtain⟨j,want⟩:=p;simp only;unfold A4;cases hd:(ops[j]?).bind (·.dst) with
  |none=>rfl
  |some d=>
   simp only;rw[h d (by simp[Oper.looksAt,hg,hd])]
theorem G0{P:Program}{ops:Array Oper}{o:Oper}{f g:Env}{w:World}{K:Value→World→Prop}(hs:∀cs b,o.op≠.select cs b)(h:∀d∈o.looksAt ops,f d=g d)(k:Op1 P o f w K):Op1 P o g w K:=by
 unfold Op1 at *;rw[execOp_congr o hs (ρ':=ev f)]
 ·exact k
 ·intro x hx;cases x with
  |tmp t=>exact(h t (List.mem_append_left _ (List.mem_filterMap.2 ⟨.tmp t,by simpa using hx,rfl⟩))).symm
  |_=>rfl
section
variable (P:Program)(ops:Array Oper)(B:Aq)(M:List SA)(h0:Ae)(e0:Env)
def OkF(Ss:List Sp)(k:Nat)(f:Env)(h:Ae)(d:Nat):Prop:=
 (∀j Φ,j<k→Dh ops j=some d→Ss[j]?=some Φ→Φ (f d) h)∧((∀j,j<k→Dh ops j≠some d)→f d=e0 d)
structure Zn(Ss:List Sp)(L:List (Nat×Sp))(e:Env):Prop where
 eq:∀f h d,OkF ops e0 Ss Ss.length f h d→ovr e L f d=f d
 sub:∀p∈L,∃k,k<Ss.length∧Dh ops k=some p.1∧Ss[k]?=some p.2
def LSF(Ss:List Sp)(i:Nat):Prop:=∀o Φ f h1 w,ops[i]?=some o→Ss[i]?=some Φ→h0.le h1→Inv B h1 M w→(∀d∈o.looksAt ops,OkF ops e0 Ss i f h1 d)→
 (runs ops f o=true→Op1 P o f w fun u w'=>∃h2,h1.le h2∧Inv B h2 M w'∧Φ u h2)∧(runs ops f o=false→Φ undef h1)
end
section
variable {P:Program}{ops:Array Oper}{B:Aq}{M:List SA}{h0:Ae}{e0:Env}{m:Nat}
theorem Bg{α:Type}{l:List α}{a:α}{k:Nat}(h:k<l.length):(l++[a])[k]?=l[k]?:=AfU h
theorem OkF.snoc{Ss:List Sp}{Φ:Sp}{k:Nat}{f:Env}{h:Ae}{d:Nat}(hk:k≤Ss.length):OkF ops e0 (Ss++[Φ]) k f h d↔OkF ops e0 Ss k f h d:=by
 unfold OkF;refine and_congr ⟨fun a j Ψ hj h1 h2=>a j Ψ hj h1 (by rw[Bg (by omega)];exact h2),fun a j Ψ hj h1 h2=>a j Ψ hj h1 (by rw[Bg (by omega)] at h2;exact h2)⟩ Iff.rfl
theorem LSF.snoc{Ss:List Sp}{Φ:Sp}{k:Nat}(hk:k<Ss.length)(h:LSF P ops B M h0 e0 Ss k):LSF P ops B M h0 e0 (Ss++[Φ]) k:=by
 intro o Ψ f h1 w ho hp hl I hd;rw[Bg hk] at hp;exact h o Ψ f h1 w ho hp hl I fun d hm=>(OkF.snoc (by omega)).1 (hd d hm)
theorem Adb(hF:U9 ops m):∀(l:List Oper) (Ss:List Sp) (L:List (Nat×Sp)) (e:Env) (K:List (Nat×Sp)→Env→Prop),(∀j,l[j]?=(ops.toList.take m)[Ss.length+j]?)→Ss.length+l.length=m→
  Zn ops e0 Ss L e→(∀k,k<Ss.length→LSF P ops B M h0 e0 Ss k)→(∀Φ∈Ss,Bt Φ)→AO P ops B M h0 L l e K→
  ∃Ss' L' e',Ss'.length=m∧Zn ops e0 Ss' L' e'∧(∀k,k<m→LSF P ops B M h0 e0 Ss' k)∧(∀Φ∈Ss',Bt Φ)∧K L' e'
 |[],Ss,L,e,K,_,hm,hr,hs,hmo,h=>⟨Ss,L,e,by simpa using hm,hr,by simpa[←hm] using hs,hmo,h⟩
 |o::r,Ss,L,e,K,hl,hm,hr,hs,hmo,h=>by
  simp only[Ae6] at hm;have hi:ops[Ss.length]?=some o:=by
   have:=hl 0;simp only[Ag7,AgS,AfF] at this;rw[if_pos (by omega)] at this;simpa using this.symm
  have hdst:Dh ops Ss.length=o.dst:=by simp[Dh,hi]
  have hdist:∀k d,k<Ss.length→Dh ops k=some d→o.dst≠some d:=fun k d hk hd hod=>by
   cases hok:ops[k]? with
   |none=>simp[Dh,hok] at hd
   |some ok=>
    simp[Dh,hok] at hd;have:=hF.dist k Ss.length ok o d (by omega) (by omega) hok hi hd hod;omega
  have hagree:∀f h1,(∀d∈o.looksAt ops,OkF ops e0 Ss Ss.length f h1 d)→∀d∈o.looksAt ops,ovr e L f d=f d:=fun f h1 hd d hdm=>hr.eq f h1 d (hd d hdm);have hLd:∀f h1,(∀d∈o.looksAt ops,OkF ops e0 Ss Ss.length f h1 d)→∀p∈L,lk ops o p.1=true→p.2 (f p.1) h1:=fun f h1 hd p hp hk=>by
   obtain⟨k,k1,k2,k3⟩:=hr.sub p hp;exact(hd p.1 (by simpa[lk] using hk)).1 k p.2 k1 k2 k3
  have next:∀Φ L1 e1,Bt Φ→LSF P ops B M h0 e0 (Ss++[Φ]) Ss.length→Zn ops e0 (Ss++[Φ]) L1 e1→AO P ops B M h0 L1 r e1 K→
    ∃Ss' L' e',Ss'.length=m∧Zn ops e0 Ss' L' e'∧(∀k,k<m→LSF P ops B M h0 e0 Ss' k)∧(∀Φ∈Ss',Bt Φ)∧K L' e':=fun Φ L1 e1 hΦ hls hrel hops=>by
   refine Adb hF r (Ss++[Φ]) L1 e1 K (fun j=>?_) (by simp;omega) hrel (fun k hk=>?_) (fun Ψ hΨ=>?_) hops
   ·have:=hl (j+1);simp only[AgL] at this;rw[this,Ae2,Ae6,Afc];congr 1;omega
   ·simp only[Ae2,Ae6,Afc] at hk;by_cases hk':k<Ss.length
    ·exact(hs k hk').snoc hk'
    ·have:k=Ss.length:=by omega
     subst this;exact hls
   ·rcases Afu.1 hΨ with h1|h1
    ·exact hmo Ψ h1
    ·simp at h1;subst h1;exact hΦ
  have relV:∀v (Φ:Sp),(∀u h1,Φ u h1→u=v)→Zn ops e0 (Ss++[Φ]) L (CQ e o.dst v):=fun v Φ hΦ=>by
   refine⟨fun f h1 d hok=>?_,fun p hp=>?_⟩
   ·cases hod:o.dst with
    |none=>
     refine hr.eq f h1 d ?_;refine⟨fun j Ψ hj a b=>hok.1 j Ψ (by simp;omega) a (by rw[Bg hj];exact b),fun hn=>hok.2 fun j hj=>?_⟩;simp only[Ae2,Ae6,Afc] at hj;by_cases hj':j<Ss.length
     ·exact hn j hj'
     ·have:j=Ss.length:=by omega
      subst this;rw[hdst,hod];exact fun hh=>by cases hh
    |some t=>
     simp only[CQ];by_cases hdt:d=t
     ·subst hdt;rw[MW,Ck]
      ·exact(hΦ _ h1 (hok.1 Ss.length Φ (by simp) (by rw[hdst,hod]) (by simp))).symm
      ·intro p hp hpd;obtain⟨k,k1,k2,_⟩:=hr.sub p hp;exact hdist k _ k1 k2 (by rw[hod,hpd])
     ·rw[KR hdt];refine hr.eq f h1 d ⟨fun j Ψ hj a b=>hok.1 j Ψ (by simp;omega) a (by rw[Bg hj];exact b),fun hn=>hok.2 fun j hj=>?_⟩;simp only[Ae2,Ae6,Afc] at hj;by_cases hj':j<Ss.length
      ·exact hn j hj'
      ·have:j=Ss.length:=by omega
       subst this;rw[hdst,hod];exact fun hh=>by cases hh;exact hdt rfl
   ·obtain⟨k,k1,k2,k3⟩:=hr.sub p hp;exact⟨k,by simp;omega,k2,by rw[Bg k1];exact k3⟩
  have hsel:=fun cs b=>Region.noSelect_spec hF.sel Ss.length o cs b hi;simp only[AO] at h;rcases h with ⟨hru,h⟩|⟨hru,⟨v,hob,h⟩|⟨d,Φ,hod,hΦ,hob,h⟩⟩
  ·refine next (fun u _=>u=undef) L _ (fun _ _ _ _ e=>e) ?_ (relV undef _ fun _ _ e=>e) h;intro o' Φ' f h1 w ho' hp' hl1 I hd;rw[hi] at ho';cases ho';simp at hp';subst hp';have hd':=fun d hm=>(OkF.snoc (Afg _)).1 (hd d hm);refine⟨fun hrt=>?_,fun _=>rfl⟩;rw[←Cq (hagree f h1 hd'),hru] at hrt;cases hrt
  ·refine next (fun u _=>u=v) L _ (fun _ _ _ _ e=>e) ?_ (relV v _ fun _ _ e=>e) h;intro o' Φ' f h1 w ho' hp' hl1 I hd;rw[hi] at ho';cases ho';simp at hp';subst hp';have hd':=fun d hm=>(OkF.snoc (Afg _)).1 (hd d hm);refine⟨fun _=>G0 hsel (hagree f h1 hd') ((hob h1 w hl1 I).get f (hLd f h1 hd')),fun hrf=>?_⟩;rw[←Cq (hagree f h1 hd'),hru] at hrf;cases hrf
  ·refine next Φ ((d,Φ)::L) e hΦ ?_ ⟨fun f h1 i hok=>?_,fun p hp=>?_⟩ h
   ·intro o' Φ' f h1 w ho' hp' hl1 I hd;rw[hi] at ho';cases ho';simp at hp';subst hp';have hd':=fun d hm=>(OkF.snoc (Afg _)).1 (hd d hm);refine⟨fun _=>G0 hsel (hagree f h1 hd') ((hob h1 w hl1 I).get f (hLd f h1 hd')),fun hrf=>?_⟩;rw[←Cq (hagree f h1 hd'),hru] at hrf;cases hrf
   ·simp only[ovr];by_cases hdt:i=d
    ·subst hdt;rw[Ck]
    ·rw[Ch _ _ hdt];refine hr.eq f h1 i ⟨fun j Ψ hj a b=>hok.1 j Ψ (by simp;omega) a (by rw[Bg hj];exact b),fun hn=>hok.2 fun j hj=>?_⟩;simp only[Ae2,Ae6,Afc] at hj;by_cases hj':j<Ss.length
     ·exact hn j hj'
     ·have:j=Ss.length:=by omega
      subst this;rw[hdst,hod];exact fun hh=>by cases hh;exact hdt rfl
   ·rcases Afq.1 hp with rfl|hp
    ·exact⟨Ss.length,by simp,by rw[hdst,hod],by simp⟩
    ·obtain⟨k,k1,k2,k3⟩:=hr.sub p hp;exact⟨k,by simp;omega,k2,by rw[Bg k1];exact k3⟩
theorem CC{l:Array Bool}{i:Nat}(h:i<l.size):l.getD i true=l.getD i false:=by simp[h]
theorem count_set{l:Array Bool}{i:Nat}(h:i<l.size)(hf:l.getD i true=false):(l.setIfInBounds i true).count false+1=l.count false:=by
 have h1:l[i]=false:=by simpa[h] using hf
 rw[show l.setIfInBounds i true=l.set i true h by simp[Array.setIfInBounds,h],Array.count_set];have:0<l.count false:=Array.count_pos_iff.2 (h1▸Array.getElem_mem h);simp[h1];omega
theorem Bh{l:Array Bool}{i j:Nat}(hi:i<l.size):(l.setIfInBounds i true).getD j false=true↔j=i∨l.getD j false=true:=by
 by_cases h:i=j
 ·subst h;simp[hi]
 ·rw[getD_set_ne false h];exact⟨.inr,fun h'=>h'.resolve_left (Ne.symm h)⟩
structure StF(ops:Array Oper)(m:Nat)(B:Aq)(M:List SA)(h0:Ae)(e0:Env)(Ss:List Sp)(N:Nat)(D:List Deferred)(l:Array Bool)(a:Act)(w:World):Prop where
 size:l.size=ops.size
 closed:KO ops fun j=>l.getD j false=true
 tail:∀j,m≤j→l.getD j false≠true
 n:a.tmps.size=N
 d:a.defers=D
 st:∃h,h0.le h∧Inv B h M w∧∀d,(∀j Φ,j<m→l.getD j false=true→Dh ops j=some d→Ss[j]?=some Φ→Φ (env a d) h)∧((∀j,j<m→l.getD j false=true→Dh ops j≠some d)→env a d=e0 d)
theorem Ox{Q:Exit→Act→World→Prop}{i:Nat}{o:Oper}{a:Act}{w:World}{K:Act→World→Prop}(hi:ops[i]?=some o)
  (h:if runs ops (env a) o then Op1 P o (env a) w (fun v w'=>K (a.put o.dst v) w') else K (a.put o.dst undef) w):wpOp P ops Q i K a w:=by
 unfold wpOp;simp only[hi,BX];split
 ·rename_i hr;rw[if_pos hr] at h;exact .inl (MR h)
 ·rename_i hr;rw[if_neg hr] at h;exact h
theorem MX{Q:Exit→Act→World→Prop}{K:Env→World→Prop}{N:Nat}{D:List Deferred}(hF:U9 ops m)(hds:C8 N ops.toList=true)(hQ:∀a w,a.tmps.size=N→a.defers=D→K (env a) w→Q .normal a w) :
  ∀(fuel k:Nat) (l:Array Bool) (a:Act) (w:World),m≤k→k≤ops.size→ops.size-k≤fuel→l.size=ops.size→(∀j,l.getD j false=true↔j<k)→a.tmps.size=N→a.defers=D→
   Ops P ops (ops.toList.drop k) (env a) w K→wpAny P .any ops Q fuel l a w:=by
 have done:∀(k:Nat) (l:Array Bool) (a:Act) (w:World),k≤ops.size→l.size=ops.size→(∀j,l.getD j false=true↔j<k)→a.tmps.size=N→a.defers=D→
   Ops P ops (ops.toList.drop k) (env a) w K→Region.ready .any ops l=[]→Q .normal a w:=fun k l a w hk hs hl hn hd h hr=>by
  by_cases hlt:k<ops.size
  ·have:k∈Region.ready .any ops l:=by
    refine mem_ready.2 ⟨?_,ops[k],by simp[hlt],fun e he hb=>(hl _).2 (hF.back k ops[k] (by simp[hlt]) e he hb)⟩;rw[CC (by omega)];cases hh:l.getD k false
    ·rfl
    ·exact absurd ((hl k).1 hh) (by omega)
   rw[hr] at this;cases this
  ·rw[AfV (by simp;omega)] at h;exact hQ a w hn hd h
 intro fuel;induction fuel with
 |zero=>
  intro k l a w hmk hk hf hs hl hn hd h;have hr:Region.ready .any ops l=[]:=by
   cases hr:Region.ready .any ops l with
   |nil=>rfl
   |cons x xs=>
    have hx:x∈Region.ready .any ops l:=by rw[hr];exact Ae7 ..
    obtain⟨h1,o,ho,_⟩:=mem_ready.1 hx;have hlt:x<ops.size:=(Afr.1 ho).1;rw[CC (by omega),(hl x).2 (by omega)] at h1;cases h1
  exact⟨hr,done k l a w hk hs hl hn hd h hr⟩
 |succ fuel ih=>
  intro k l a w hmk hk hf hs hl hn hd h;refine⟨done k l a w hk hs hl hn hd h,fun i hi=>?_⟩;obtain⟨h1,o,ho,h2⟩:=mem_ready.1 hi;have hlt:i<ops.size:=(Afr.1 ho).1;have hge:k≤i:=by
   rcases Af4 i k with h'|h'
   ·rw[CC (by omega),(hl i).2 h'] at h1;cases h1
   ·exact h'
  have hcl:KO ops fun j=>l.getD j false=true:=fun j oj hoj hj e he hb=>(hl _).2 (Nat.lt_trans (hF.back j oj hoj e he hb) ((hl j).1 hj));have hik:i=k:=by
   rcases Af4 k i with h'|h'
   ·have:=hF.tail _ hcl i o (by omega) ho h2 k h';exact absurd ((hl k).1 this) (by omega)
   ·omega
  subst hik;have hdrop:ops.toList.drop i=o::ops.toList.drop (i+1):=by
   have:ops.toList[i]'(by simpa using hlt)=o:=by simpa[hlt] using ho
   rw[AfZ (by simpa using hlt),this]
  rw[hdrop] at h;have hdo:o.dst.all (· < N)=true:=(Aff.1 hds) o (by have:=Af6 ho;simpa using this);refine Ox ho ?_;have step:∀v w',Ops P ops (ops.toList.drop (i+1)) (CQ (env a) o.dst v) w' K→wpAny P .any ops Q fuel (l.setIfInBounds i true) (a.put o.dst v) w':=fun v w' hh=>by
   refine ih (i+1) _ _ w' (by omega) (by omega) (by omega) (by simpa using hs) (fun j=>?_) (by rw[Bm,hn]) (by rw[AY,hd]) (by rw[Cg a _ v (by rw[hn];exact hdo)];exact hh);rw[Bh (by omega),hl];omega
  simp only[Ops] at h;split at h
  ·rename_i hr;rw[if_pos hr];exact h.mono step
  ·rename_i hr;rw[if_neg hr];exact step _ _ h
theorem Pk{Q:Exit→Act→World→Prop}{K:Env→World→Prop}{N:Nat}{D:List Deferred}{Ss:List Sp}(hF:U9 ops m)(hds:C8 N ops.toList=true)(hQ:∀a w,a.tmps.size=N→a.defers=D→K (env a) w→Q .normal a w)
  (hSs:Ss.length=m) (hls:∀k,k<m→LSF P ops B M h0 e0 Ss k) (hmo:∀Φ∈Ss,Bt Φ)
  (hend:∀f h1 w,h0.le h1→Inv B h1 M w→(∀d,OkF ops e0 Ss m f h1 d)→Ops P ops (ops.toList.drop m) f w K) :
  ∀(fuel:Nat) (l:Array Bool) (a:Act) (w:World),l.count false≤fuel→StF ops m B M h0 e0 Ss N D l a w→wpAny P .any ops Q fuel l a w:=by
 have fin:∀(l:Array Bool) (a:Act) (w:World),StF ops m B M h0 e0 Ss N D l a w→(∀j,j<m→l.getD j false=true)→Ops P ops (ops.toList.drop m) (env a) w K:=fun l a w S hall=>by
  obtain⟨h,g1,g2,g3⟩:=S.st;exact hend _ h w g1 g2 fun d=>⟨fun j Φ hj a b=>(g3 d).1 j Φ hj (hall j hj) a b,fun hn=>(g3 d).2 fun j hj _=>hn j hj⟩
 have nil:∀(l:Array Bool) (a:Act) (w:World),StF ops m B M h0 e0 Ss N D l a w→Region.ready .any ops l=[]→Q .normal a w:=fun l a w S hr=>by
  have least:∀n,∀j,j<n→j<ops.size→l.getD j false=true:=by
   intro n;induction n with
   |zero=>intro j hj;omega
   |succ n ihn=>
    intro j hj hjs;by_cases hjn:j<n
    ·exact ihn j hjn hjs
    ·have:j=n:=by omega
     subst this;cases hh:l.getD j false
     ·exfalso;have:j∈Region.ready .any ops l:=mem_ready.2 ⟨by rw[CC (by rw[S.size];exact hjs)];exact hh,ops[j],by simp[hjs],fun e he hb=>by
       have:=hF.back j ops[j] (by simp[hjs]) e he hb;exact ihn e.on (by omega) (by omega)⟩
      rw[hr] at this;cases this
     ·rfl
  have hms:m=ops.size:=by
   rcases Af4 m ops.size with h'|h'
   ·exact absurd (least (m+1) m (by omega) h') (S.tail m (Afg m))
   ·have:=hF.le;omega
  have:=fin l a w S fun j hj=>least (j+1) j (by omega) (by omega);rw[AfV (by simp;omega)] at this;exact hQ a w S.n S.d this
 intro fuel;induction fuel with
 |zero=>
  intro l a w hc S;have hr:Region.ready .any ops l=[]:=by
   cases hr:Region.ready .any ops l with
   |nil=>rfl
   |cons x xs=>
    have hx:x∈Region.ready .any ops l:=by rw[hr];exact Ae7 ..
    obtain⟨h1,o,ho,_⟩:=mem_ready.1 hx;have hlt:x<l.size:=by rw[S.size];exact(Afr.1 ho).1
    have:=count_set hlt h1;omega
  exact⟨hr,nil l a w S hr⟩
 |succ fuel ih=>
  intro l a w hc S;refine⟨nil l a w S,fun i hi=>?_⟩;obtain⟨h1,o,ho,h2⟩:=mem_ready.1 hi;have hlt:i<ops.size:=(Afr.1 ho).1;have hil:i<l.size:=by rw[S.size];exact hlt
  have hun:l.getD i false≠true:=by rw[←CC hil,h1];exact fun h=>by cases h
  have hdo:o.dst.all (· < N)=true:=(Aff.1 hds) o (by have:=Af6 ho;simpa using this);have hcnt:=count_set hil h1;by_cases him:i<m
  ·obtain⟨Φ,hΦ⟩:∃Φ,Ss[i]?=some Φ:=⟨Ss[i]'(by omega),by simp[hSs,him]⟩;obtain⟨h,g1,g2,g3⟩:=S.st;have step:∀v w' hh,h.le hh→Inv B hh M w'→Φ v hh→wpAny P .any ops Q fuel (l.setIfInBounds i true) (a.put o.dst v) w':=fun v w' hh hle I hv=>by
    refine ih _ _ w' (by omega) ⟨by simpa using S.size,fun j oj hoj hj e he hb=>?_,fun j hj hh'=>?_,by rw[Bm,S.n],by rw[AY,S.d],hh,g1.trans hle,I,fun d=>?_⟩
    ·simp only[Bh hil] at hj ⊢;rcases hj with rfl|hj
     ·rw[ho] at hoj;cases hoj;exact .inr (h2 e he hb)
     ·exact .inr (S.closed j oj hoj hj e he hb)
    ·rw[Bh hil] at hh';rcases hh' with rfl|hh'
     ·omega
     ·exact S.tail j hj hh'
    ·rw[Cg a _ v (by rw[S.n];exact hdo)];have other:o.dst≠some d→CQ (env a) o.dst v d=env a d:=fun hne=>by
      cases hod:o.dst with
      |none=>rfl
      |some t=>exact Ch _ _ fun e=>hne (by rw[hod,e])
     by_cases hod:o.dst=some d
     ·rw[hod];simp only[CQ,Ck];refine⟨fun j Ψ hj hlj hdj hΨ=>?_,fun hn=>absurd (by simp[Dh,ho,hod]) (hn i him (by rw[Bh hil];exact .inl rfl))⟩;cases hoj:ops[j]? with
      |none=>simp[Dh,hoj] at hdj
      |some oj=>
       simp[Dh,hoj] at hdj;have:=hF.dist j i oj o d hj him hoj ho hdj hod;subst this;rw[hΦ] at hΨ;cases hΨ;exact hv
     ·rw[other hod];refine⟨fun j Ψ hj hlj hdj hΨ=>?_,fun hn=>(g3 d).2 fun j hj hlj=>hn j hj (by rw[Bh hil];exact .inr hlj)⟩;rw[Bh hil] at hlj;rcases hlj with rfl|hlj
      ·simp[Dh,ho] at hdj;exact absurd hdj hod
      ·exact hmo Ψ (Afk hΨ) _ h hh hle ((g3 d).1 j Ψ hj hlj hdj hΨ)
   have hok:∀d∈o.looksAt ops,OkF ops e0 Ss i (env a) h d:=fun d hd=>by
    refine⟨fun j Ψ hj hdj hΨ=>?_,fun hn=>(g3 d).2 fun j hj hlj hdj=>?_⟩
    ·cases hoj:ops[j]? with
     |none=>simp[Dh,hoj] at hdj
     |some oj=>
      simp[Dh,hoj] at hdj;have:=(hF.reads i j o oj d him (by omega) (by omega) ho hoj hdj hd).1 hj;exact(g3 d).1 j Ψ (by omega) (Y6 (L:=fun j=>l.getD j false=true) this h2) (by simp[Dh,hoj,hdj]) hΨ
    ·rcases Ahg j i with h'|h'|h'
     ·exact hn j h' hdj
     ·subst h';exact hun hlj
     ·cases hoj:ops[j]? with
      |none=>simp[Dh,hoj] at hdj
      |some oj=>
       simp[Dh,hoj] at hdj;have:=(hF.reads i j o oj d him hj (by omega) ho hoj hdj hd).2 h';exact hun (Y6 (L:=fun j=>l.getD j false=true) this (S.closed j oj hoj hlj))
   have hls':=hls i him o Φ (env a) h w ho hΦ g1 g2 hok;refine Ox ho ?_;split
   ·rename_i hr;exact(hls'.1 hr).mono fun v w' ⟨hh,k1,k2,k3⟩=>step v w' hh k1 k2 k3
   ·rename_i hr;exact step undef w h (Ae.le.refl h) g2 (hls'.2 (by simpa using hr))
  ·have hall:=hF.tail (fun j=>l.getD j false=true) S.closed i o (by omega) ho h2;have him':i=m:=by
    rcases Af4 m i with h'|h'
    ·exact absurd (hall m h') (S.tail m (Afg m))
    ·omega
   subst him';have hl:∀j,l.getD j false=true↔j<i:=fun j=>⟨fun hj=>by
    rcases Af4 j i with h'|h'
    ·exact h'
    ·exact absurd hj (S.tail j h'),hall j⟩
   have hle:ops.size-i≤fuel+1:=by
    have:∀n k (l:Array Bool),l.size=ops.size→k+n=ops.size→(∀j,k≤j→l.getD j false≠true)→n≤l.count false:=by
     intro n;induction n with
     |zero=>intro k l _ _ _;omega
     |succ n ihn=>
      intro k l hs hk hj;have hks:k<l.size:=by omega
      have hkf:l.getD k true=false:=by
       rw[CC hks];cases hh:l.getD k false
       ·rfl
       ·exact absurd hh (hj k (Afg k))
      have h3:=ihn (k+1) (l.setIfInBounds k true) (by simpa using hs) (by omega) (fun j hj'=>by
       rw[Ne,Bh hks];rintro(h|h)
       ·omega
       ·exact hj j (by omega) h)
      have:=count_set hks hkf;omega
    have:=this (ops.size-i) i l S.size (by omega) S.tail;omega
   have hT:=MX (P:=P) hF hds hQ (fuel+1) i l a w (Afg i) hF.le hle S.size hl S.n S.d (fin l a w S hall);exact hT.2 i hi
end
theorem AbM{P:Program}{N:Nat}{D:List Deferred}{e:Env}{w:World}{Q:Exit→Env→World→Prop}{id:Nat}{ops:Array Oper}{B:Aq}{h:Ae}{M:List SA}(hm:LH P)(I:Inv B h M w)(m:Nat)(hB:MV ops m=true)
  (k:AO P ops B M h [] (ops.toList.take m) e (fun L e'=>∀h1 w1,h.le h1→Inv B h1 M w1→CT (fun _=>true) h1 L e' fun e''=>Ops P ops (ops.toList.drop m) e'' w1 (fun e3 w3=>Q .normal e3 w3))):WP P N D (.region id ops true) e w Q:=by
 intro hs a h1 h2 h3;subst h3;have hF:=LJ hB;obtain⟨Ss,L,e',hlen,hrel,hls,hmo,hK⟩:=Adb (e0:=env a) hF _ [] [] (env a) _ (fun j=>by simp) (by simp[hF.le]) ⟨fun f h1 d ho=>(ho.2 (by simp)).symm,by simp⟩ (by simp) (by simp) k;refine wp_region_any hm ?_;refine Pk (K:=fun e3 w3=>Q .normal e3 w3) (N:=N) (D:=D) hF hs (fun a w g1 g2 g3=>⟨g1,g2,g3⟩) hlen hls hmo (fun f h1 w1 hl I1 hok=>?_) ops.size _ a _ (by simp) ⟨by simp,?_,?_,h1,h2,h,Ae.le.refl h,I.drew,fun d=>⟨?_,fun _=>rfl⟩⟩
 ·have hov:ovr e' L f=f:=by funext d;exact hrel.eq f h1 d (hlen▸hok d)
  have:=(hK h1 w1 hl I1).get f fun p hp _=>by
   obtain⟨k,k1,k2,k3⟩:=hrel.sub p hp;exact(hok p.1).1 k p.2 (hlen▸k1) k2 k3
  rwa [hov] at this
 ·intro i o _ hl;simp[Afp,AfL] at hl;split at hl<;>simp at hl
 ·intro j _ hl;simp[Afp,AfL] at hl;split at hl<;>simp at hl
 ·intro j Φ _ hl;simp[Afp,AfL] at hl;split at hl<;>simp at hl
section
variable {P:Program}{full:Array Oper}{B:Aq}{M:List SA}{h0:Ae}{L:List (Nat×Sp)}{rest:List Oper}{e:Env}{K:List (Nat×Sp)→Env→Prop}
variable {op:Op}{t:TypeId}{pos:String}{af:Array Edge}
theorem AbX(h:K L e):AO P full B M h0 L [] e K:=h
theorem AcE{d:Nat}{g:Option (Nat×Bool)}{v:Value}(hr:∀us,runs full (ovr e L us) ⟨some d,op,t,pos,af,g⟩=true)
  (hy:∀h1 w,h0.le h1→Inv B h1 M w→CT (lk full ⟨some d,op,t,pos,af,g⟩) h1 L e fun e'=>Op1 P ⟨some d,op,t,pos,af,g⟩ e' w fun u w'=>u=v∧Inv B h1 M w') (h:AO P full B M h0 L rest (upd e d v) K) :
  AO P full B M h0 L (⟨some d,op,t,pos,af,g⟩::rest) e K:=by
 refine .inr ⟨hr,.inl ⟨v,fun h1 w hl I=>?_,h⟩⟩;have key:∀(L:List (Nat×Sp)) (e:Env) (k k':Env→Prop),(∀x,k x→k' x)→CT (lk full ⟨some d,op,t,pos,af,g⟩) h1 L e k→CT (lk full ⟨some d,op,t,pos,af,g⟩) h1 L e k':=by
  intro L;induction L with
  |nil=>intro e k k' hk a;exact hk _ a
  |cons p L ih=>intro e k k' hk a;exact ih e _ _ (fun x hx u hu=>hk _ (hx u hu)) a
 exact key L e _ _ (fun x hx=>hx.mono fun u w' ⟨a,b⟩=>⟨h1,Ae.le.refl _,b,a⟩) (hy h1 w hl I)
theorem AbR{d:Nat}{g:Option (Nat×Bool)}{Φ:Sp}(hm:Bt Φ)(hr:∀us,runs full (ovr e L us) ⟨some d,op,t,pos,af,g⟩=true)
  (hy:∀h1 w,h0.le h1→Inv B h1 M w→CT (lk full ⟨some d,op,t,pos,af,g⟩) h1 L e fun e'=>Op1 P ⟨some d,op,t,pos,af,g⟩ e' w fun u w'=>∃h2,h1.le h2∧Inv B h2 M w'∧Φ u h2) (h:AO P full B M h0 ((d,Φ)::L) rest e K) :
  AO P full B M h0 L (⟨some d,op,t,pos,af,g⟩::rest) e K:=
 .inr ⟨hr,.inr ⟨d,Φ,rfl,hm,hy,h⟩⟩
theorem Xc{e us us':Env}{d:Nat}(h:∀j,j≠d→us j=us' j):∀(L:List (Nat×Sp)) {i:Nat},i≠d→ovr e L us i=ovr e L us' i
 |[],_,_=>rfl
 |p::L,i,hi=>by
  simp only[ovr];by_cases hp:i=p.1
  ·subst hp;rw[Ck,Ck,h _ hi]
  ·rw[Ch _ _ hp,Ch _ _ hp,Xc h L hi]
theorem CT.all{c:Nat→Bool}{h:Ae}:∀{L:List (Nat×Sp)} {e:Env} {k:Env→Prop},(∀us,k (ovr e L us))→CT c h L e k
 |[],_,_,hk=>hk fun _=>undef
 |p::L,e,k,hk=>CT.all (L:=L) fun us u _=>by
  have h1:=hk (upd us p.1 u);have h2:upd (ovr e L (upd us p.1 u)) p.1 u=upd (ovr e L us) p.1 u:=by
   funext i;by_cases hi:i=p.1
   ·subst hi;rw[Ck,Ck]
   ·rw[Ch _ _ hi,Ch _ _ hi];exact Xc (fun j hj=>Ch _ _ hj) L hi
  simp only[ovr,Ck,h2] at h1;exact h1
theorem Acr{d:Nat}{g:Option (Nat×Bool)}{v:Value}(hr:∀us,runs full (ovr e L us) ⟨some d,op,t,pos,af,g⟩=true)
  (hy:∀h1 w us,h0.le h1→Inv B h1 M w→Y P ⟨some d,op,t,pos,af,g⟩ (ovr e L us) w v) (h:AO P full B M h0 L rest (upd e d v) K) :
  AO P full B M h0 L (⟨some d,op,t,pos,af,g⟩::rest) e K:=
 AcE hr (fun h1 w hl I=>CT.all fun us=>by unfold Op1;rw[hy h1 w us hl I];exact⟨rfl,I⟩) h
theorem AcZ{d:Nat}{g:Option (Nat×Bool)}{v:Value}(hr:∀us,runs full (ovr e L us) ⟨some d,op,t,pos,af,g⟩=true)
  (hy:∀h1 w us,h0.le h1→Inv B h1 M w→Op1 P ⟨some d,op,t,pos,af,g⟩ (ovr e L us) w fun u w'=>u=v∧Inv B h1 M w') (h:AO P full B M h0 L rest (upd e d v) K) :
  AO P full B M h0 L (⟨some d,op,t,pos,af,g⟩::rest) e K:=
 AcE hr (fun h1 w hl I=>CT.all fun us=>hy h1 w us hl I) h
theorem Aj(us:Env){d:Option Nat}:runs full (ovr e L us) ⟨d,op,t,pos,af,none⟩=true:=rfl
end
section
variable {P:Program}{e:Env}{w:World}{d:Option Nat}{t:TypeId}{pos:String}{af:Array Edge}{g:Option (Nat×Bool)}
theorem Aea{x y:Operand}{T T':TypeId}{xs ys:Array Value}{b:Bool}(hg:P.eqGuardType P.depth T=false)(hq:∀w,(Op.equalIn 10000 T (.agg xs) (.agg ys)).run P w=.ok b w)(hx:ev e x=.agg xs)(hy:ev e y=.agg ys) :
  Y P ⟨d,.binOp .eql T x y T',t,pos,af,g⟩ e w (.bool b):=by
 simp only[Y,execOp,hx,hy,Sem.run_bind,run_eqGuard_agg w .eql T x y xs ys hg,Result.andThen_ok,run_eql_struct,hq,Sem.run_pure]
theorem MY{T:TypeId}(h:∀w,(isAgg T).run P w=.ok false w){cs:Array Value}{o:Nat}{v:Value}(hv:cs[o]?=some v)(w:World):(Go.part T cs o).run P w=.ok v w:=by
 simp[Go.part,h,hv]
end
end
end Go.TF
