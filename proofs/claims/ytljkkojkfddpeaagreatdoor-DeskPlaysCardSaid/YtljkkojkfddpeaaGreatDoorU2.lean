/- Texts ALIAS Base10 Base11 Base12 Base13 Base14 Base15 Base16 Base17 Base18 Base24. -/
import Derived.Test.YtljkkojkfddpeaaGreatDoorU1
import Derived.RangeFuncWrites
import Derived.RangeFuncLeaves
import Derived.RangeFuncCalls
import Derived.TacticsIn
import Derived.ScopeJumps
import Derived.Laws.MakeOwn
import Derived.Laws.AppendOwn
import Derived.Laws.RangeAny
import Derived.Lib.AppendZeros
import Derived.Lib.AppendZerosOnto
import Derived.Lib.Overlaps
import Derived.Laws.IdiomStrings
set_option maxRecDepth 20000
set_option maxHeartbeats 16000000
set_option linter.unusedVariables false
set_option linter.unusedSimpArgs false
namespace Go.TF
open Go Go.RowKit
section
open Go Go.RowKit
section
variable {P:Program}{full:Array Oper}{rest:List Oper}{e:Env}{w:World}{K:Env→World→Prop}{t:TypeId}{pos:String}{af:Array Edge}{d:Nat}{op:Op}
theorem Ai{n:Int}(hy:Y P ⟨some d,op,t,pos,af,none⟩ e w (.int .i64 n))(h:Ops P full rest (upd e d (.int .i64 n)) w K):Ops P full (⟨some d,op,t,pos,af,none⟩::rest) e w K:=AbB hy h
theorem Gi{n:Int}{i:Nat}{g:Bool}(hy:Y P ⟨some d,op,t,pos,af,some (i,g)⟩ e w (.int .i64 n))(h:Ops P full rest (upd e d (.int .i64 n)) w K)(hg:A4 full e i=some g:=by rfl):Ops P full (⟨some d,op,t,pos,af,some (i,g)⟩::rest) e w K:=Acp hg hy h
theorem Ab{z:Bool}(hy:Y P ⟨some d,op,t,pos,af,none⟩ e w (.bool z))(h:Ops P full rest (upd e d (.bool z)) w K):Ops P full (⟨some d,op,t,pos,af,none⟩::rest) e w K:=AbB hy h
theorem Gb{z:Bool}{i:Nat}{g:Bool}(hy:Y P ⟨some d,op,t,pos,af,some (i,g)⟩ e w (.bool z))(h:Ops P full rest (upd e d (.bool z)) w K)(hg:A4 full e i=some g:=by rfl):Ops P full (⟨some d,op,t,pos,af,some (i,g)⟩::rest) e w K:=Acp hg hy h
theorem Ad{p:Prop}[Decidable p](hy:Y P ⟨some d,op,t,pos,af,none⟩ e w (.bool (decide p)))(h:Ops P full rest (upd e d (.bool (decide p))) w K):Ops P full (⟨some d,op,t,pos,af,none⟩::rest) e w K:=AbB hy h
theorem Gd{p:Prop}[Decidable p]{i:Nat}{g:Bool}(hy:Y P ⟨some d,op,t,pos,af,some (i,g)⟩ e w (.bool (decide p)))(h:Ops P full rest (upd e d (.bool (decide p))) w K)(hg:A4 full e i=some g:=by rfl):Ops P full (⟨some d,op,t,pos,af,some (i,g)⟩::rest) e w K:=Acp hg hy h
theorem AT(hy:Y P ⟨some d,op,t,pos,af,none⟩ e w (.bool true))(h:Ops P full rest (upd e d (.bool true)) w K):Ops P full (⟨some d,op,t,pos,af,none⟩::rest) e w K:=AbB hy h
theorem GT{i:Nat}{g:Bool}(hy:Y P ⟨some d,op,t,pos,af,some (i,g)⟩ e w (.bool true))(h:Ops P full rest (upd e d (.bool true)) w K)(hg:A4 full e i=some g:=by rfl):Ops P full (⟨some d,op,t,pos,af,some (i,g)⟩::rest) e w K:=Acp hg hy h
theorem AF(hy:Y P ⟨some d,op,t,pos,af,none⟩ e w (.bool false))(h:Ops P full rest (upd e d (.bool false)) w K):Ops P full (⟨some d,op,t,pos,af,none⟩::rest) e w K:=AbB hy h
theorem GF{i:Nat}{g:Bool}(hy:Y P ⟨some d,op,t,pos,af,some (i,g)⟩ e w (.bool false))(h:Ops P full rest (upd e d (.bool false)) w K)(hg:A4 full e i=some g:=by rfl):Ops P full (⟨some d,op,t,pos,af,some (i,g)⟩::rest) e w K:=Acp hg hy h
theorem As0{a:Option Addr}{n c:Nat}(hy:Y P ⟨some d,op,t,pos,af,none⟩ e w (.slice a n c))(h:Ops P full rest (upd e d (.slice a n c)) w K):Ops P full (⟨some d,op,t,pos,af,none⟩::rest) e w K:=AbB hy h
theorem Gs{a:Option Addr}{n c:Nat}{i:Nat}{g:Bool}(hy:Y P ⟨some d,op,t,pos,af,some (i,g)⟩ e w (.slice a n c))(h:Ops P full rest (upd e d (.slice a n c)) w K)(hg:A4 full e i=some g:=by rfl):Ops P full (⟨some d,op,t,pos,af,some (i,g)⟩::rest) e w K:=Acp hg hy h
theorem Ap{b o:Nat}(hy:Y P ⟨some d,op,t,pos,af,none⟩ e w (.pointer (some ⟨b,o,none⟩)))(h:Ops P full rest (upd e d (.pointer (some ⟨b,o,none⟩))) w K):Ops P full (⟨some d,op,t,pos,af,none⟩::rest) e w K:=AbB hy h
theorem Gp{b o:Nat}{i:Nat}{g:Bool}(hy:Y P ⟨some d,op,t,pos,af,some (i,g)⟩ e w (.pointer (some ⟨b,o,none⟩)))(h:Ops P full rest (upd e d (.pointer (some ⟨b,o,none⟩))) w K)(hg:A4 full e i=some g:=by rfl):Ops P full (⟨some d,op,t,pos,af,some (i,g)⟩::rest) e w K:=Acp hg hy h
theorem At0{s:ByteArray}(hy:Y P ⟨some d,op,t,pos,af,none⟩ e w (.string s))(h:Ops P full rest (upd e d (.string s)) w K):Ops P full (⟨some d,op,t,pos,af,none⟩::rest) e w K:=AbB hy h
theorem Gt{s:ByteArray}{i:Nat}{g:Bool}(hy:Y P ⟨some d,op,t,pos,af,some (i,g)⟩ e w (.string s))(h:Ops P full rest (upd e d (.string s)) w K)(hg:A4 full e i=some g:=by rfl):Ops P full (⟨some d,op,t,pos,af,some (i,g)⟩::rest) e w K:=Acp hg hy h
theorem Af{f:Go.Fn}{a c:Array Value}(hy:Y P ⟨some d,op,t,pos,af,none⟩ e w (.func f a c))(h:Ops P full rest (upd e d (.func f a c)) w K):Ops P full (⟨some d,op,t,pos,af,none⟩::rest) e w K:=AbB hy h
theorem Ax{x y:Value}(hy:Y P ⟨some d,op,t,pos,af,none⟩ e w (.agg #[x,y]))(h:Ops P full rest (upd e d (.agg #[x,y])) w K):Ops P full (⟨some d,op,t,pos,af,none⟩::rest) e w K:=AbB hy h
theorem Gx{x y:Value}{i:Nat}{g:Bool}(hy:Y P ⟨some d,op,t,pos,af,some (i,g)⟩ e w (.agg #[x,y]))(h:Ops P full rest (upd e d (.agg #[x,y])) w K)(hg:A4 full e i=some g:=by rfl):Ops P full (⟨some d,op,t,pos,af,some (i,g)⟩::rest) e w K:=Acp hg hy h
theorem Ay{x y z:Value}(hy:Y P ⟨some d,op,t,pos,af,none⟩ e w (.agg #[x,y,z]))(h:Ops P full rest (upd e d (.agg #[x,y,z])) w K):Ops P full (⟨some d,op,t,pos,af,none⟩::rest) e w K:=AbB hy h
theorem Gy{x y z:Value}{i:Nat}{g:Bool}(hy:Y P ⟨some d,op,t,pos,af,some (i,g)⟩ e w (.agg #[x,y,z]))(h:Ops P full rest (upd e d (.agg #[x,y,z])) w K)(hg:A4 full e i=some g:=by rfl):Ops P full (⟨some d,op,t,pos,af,some (i,g)⟩::rest) e w K:=Acp hg hy h
theorem Az{x y z u:Value}(hy:Y P ⟨some d,op,t,pos,af,none⟩ e w (.agg #[x,y,z,u]))(h:Ops P full rest (upd e d (.agg #[x,y,z,u])) w K):Ops P full (⟨some d,op,t,pos,af,none⟩::rest) e w K:=AbB hy h
theorem Gz{x y z u:Value}{i:Nat}{g:Bool}(hy:Y P ⟨some d,op,t,pos,af,some (i,g)⟩ e w (.agg #[x,y,z,u]))(h:Ops P full rest (upd e d (.agg #[x,y,z,u])) w K)(hg:A4 full e i=some g:=by rfl):Ops P full (⟨some d,op,t,pos,af,some (i,g)⟩::rest) e w K:=Acp hg hy h
theorem Au{x y:Value}(hy:Y P ⟨some d,op,t,pos,af,none⟩ e w (.tuple #[x,y]))(h:Ops P full rest (upd e d (.tuple #[x,y])) w K):Ops P full (⟨some d,op,t,pos,af,none⟩::rest) e w K:=AbB hy h
theorem Av{x y z:Value}(hy:Y P ⟨some d,op,t,pos,af,none⟩ e w (.tuple #[x,y,z]))(h:Ops P full rest (upd e d (.tuple #[x,y,z])) w K):Ops P full (⟨some d,op,t,pos,af,none⟩::rest) e w K:=AbB hy h
theorem Aw{n:Int}(hy:Y P ⟨some d,op,t,pos,af,none⟩ e w (.int .u8 n))(h:Ops P full rest (upd e d (.int .u8 n)) w K):Ops P full (⟨some d,op,t,pos,af,none⟩::rest) e w K:=AbB hy h
theorem Gw{n:Int}{i:Nat}{g:Bool}(hy:Y P ⟨some d,op,t,pos,af,some (i,g)⟩ e w (.int .u8 n))(h:Ops P full rest (upd e d (.int .u8 n)) w K)(hg:A4 full e i=some g:=by rfl):Ops P full (⟨some d,op,t,pos,af,some (i,g)⟩::rest) e w K:=Acp hg hy h
theorem Gg{i:Nat}{g:Bool}(h:Ops P full rest (upd e d undef) w K)(hg:(A4 full e i == some g)=false:=by rfl):Ops P full (⟨some d,op,t,pos,af,some (i,g)⟩::rest) e w K:=AeU hg h
end
section
variable {P:Program}{full:Array Oper}{rest:List Oper}{e:Env}{C:World→Prop}{K:Env→Prop}{t:TypeId}{pos:String}{af:Array Edge}{d:Nat}{op:Op}
theorem Qi{n:Int}(hy:∀w,C w→Y P ⟨some d,op,t,pos,af,none⟩ e w (.int .i64 n))(h:Am P full C rest (upd e d (.int .i64 n)) K):Am P full C (⟨some d,op,t,pos,af,none⟩::rest) e K:=AcB hy h
theorem Hi{n:Int}{i:Nat}{g:Bool}(hy:∀w,C w→Y P ⟨some d,op,t,pos,af,some (i,g)⟩ e w (.int .i64 n))(h:Am P full C rest (upd e d (.int .i64 n)) K)(hg:A4 full e i=some g:=by rfl):Am P full C (⟨some d,op,t,pos,af,some (i,g)⟩::rest) e K:=Acm hg hy h
theorem Qb{z:Bool}(hy:∀w,C w→Y P ⟨some d,op,t,pos,af,none⟩ e w (.bool z))(h:Am P full C rest (upd e d (.bool z)) K):Am P full C (⟨some d,op,t,pos,af,none⟩::rest) e K:=AcB hy h
theorem Hb{z:Bool}{i:Nat}{g:Bool}(hy:∀w,C w→Y P ⟨some d,op,t,pos,af,some (i,g)⟩ e w (.bool z))(h:Am P full C rest (upd e d (.bool z)) K)(hg:A4 full e i=some g:=by rfl):Am P full C (⟨some d,op,t,pos,af,some (i,g)⟩::rest) e K:=Acm hg hy h
theorem Qd{p:Prop}[Decidable p](hy:∀w,C w→Y P ⟨some d,op,t,pos,af,none⟩ e w (.bool (decide p)))(h:Am P full C rest (upd e d (.bool (decide p))) K):Am P full C (⟨some d,op,t,pos,af,none⟩::rest) e K:=AcB hy h
theorem Hd{p:Prop}[Decidable p]{i:Nat}{g:Bool}(hy:∀w,C w→Y P ⟨some d,op,t,pos,af,some (i,g)⟩ e w (.bool (decide p)))(h:Am P full C rest (upd e d (.bool (decide p))) K)(hg:A4 full e i=some g:=by rfl):Am P full C (⟨some d,op,t,pos,af,some (i,g)⟩::rest) e K:=Acm hg hy h
theorem QT(hy:∀w,C w→Y P ⟨some d,op,t,pos,af,none⟩ e w (.bool true))(h:Am P full C rest (upd e d (.bool true)) K):Am P full C (⟨some d,op,t,pos,af,none⟩::rest) e K:=AcB hy h
theorem HT{i:Nat}{g:Bool}(hy:∀w,C w→Y P ⟨some d,op,t,pos,af,some (i,g)⟩ e w (.bool true))(h:Am P full C rest (upd e d (.bool true)) K)(hg:A4 full e i=some g:=by rfl):Am P full C (⟨some d,op,t,pos,af,some (i,g)⟩::rest) e K:=Acm hg hy h
theorem QF(hy:∀w,C w→Y P ⟨some d,op,t,pos,af,none⟩ e w (.bool false))(h:Am P full C rest (upd e d (.bool false)) K):Am P full C (⟨some d,op,t,pos,af,none⟩::rest) e K:=AcB hy h
theorem HF{i:Nat}{g:Bool}(hy:∀w,C w→Y P ⟨some d,op,t,pos,af,some (i,g)⟩ e w (.bool false))(h:Am P full C rest (upd e d (.bool false)) K)(hg:A4 full e i=some g:=by rfl):Am P full C (⟨some d,op,t,pos,af,some (i,g)⟩::rest) e K:=Acm hg hy h
theorem Qs{a:Option Addr}{n c:Nat}(hy:∀w,C w→Y P ⟨some d,op,t,pos,af,none⟩ e w (.slice a n c))(h:Am P full C rest (upd e d (.slice a n c)) K):Am P full C (⟨some d,op,t,pos,af,none⟩::rest) e K:=AcB hy h
theorem Hs{a:Option Addr}{n c:Nat}{i:Nat}{g:Bool}(hy:∀w,C w→Y P ⟨some d,op,t,pos,af,some (i,g)⟩ e w (.slice a n c))(h:Am P full C rest (upd e d (.slice a n c)) K)(hg:A4 full e i=some g:=by rfl):Am P full C (⟨some d,op,t,pos,af,some (i,g)⟩::rest) e K:=Acm hg hy h
theorem Qp{b o:Nat}(hy:∀w,C w→Y P ⟨some d,op,t,pos,af,none⟩ e w (.pointer (some ⟨b,o,none⟩)))(h:Am P full C rest (upd e d (.pointer (some ⟨b,o,none⟩))) K):Am P full C (⟨some d,op,t,pos,af,none⟩::rest) e K:=AcB hy h
theorem Hp{b o:Nat}{i:Nat}{g:Bool}(hy:∀w,C w→Y P ⟨some d,op,t,pos,af,some (i,g)⟩ e w (.pointer (some ⟨b,o,none⟩)))(h:Am P full C rest (upd e d (.pointer (some ⟨b,o,none⟩))) K)(hg:A4 full e i=some g:=by rfl):Am P full C (⟨some d,op,t,pos,af,some (i,g)⟩::rest) e K:=Acm hg hy h
theorem Qt{s:ByteArray}(hy:∀w,C w→Y P ⟨some d,op,t,pos,af,none⟩ e w (.string s))(h:Am P full C rest (upd e d (.string s)) K):Am P full C (⟨some d,op,t,pos,af,none⟩::rest) e K:=AcB hy h
theorem Qf{f:Go.Fn}{a c:Array Value}(hy:∀w,C w→Y P ⟨some d,op,t,pos,af,none⟩ e w (.func f a c))(h:Am P full C rest (upd e d (.func f a c)) K):Am P full C (⟨some d,op,t,pos,af,none⟩::rest) e K:=AcB hy h
theorem Hf{f:Go.Fn}{a c:Array Value}{i:Nat}{g:Bool}(hy:∀w,C w→Y P ⟨some d,op,t,pos,af,some (i,g)⟩ e w (.func f a c))(h:Am P full C rest (upd e d (.func f a c)) K)(hg:A4 full e i=some g:=by rfl):Am P full C (⟨some d,op,t,pos,af,some (i,g)⟩::rest) e K:=Acm hg hy h
theorem Qx{x y:Value}(hy:∀w,C w→Y P ⟨some d,op,t,pos,af,none⟩ e w (.agg #[x,y]))(h:Am P full C rest (upd e d (.agg #[x,y])) K):Am P full C (⟨some d,op,t,pos,af,none⟩::rest) e K:=AcB hy h
theorem Hx{x y:Value}{i:Nat}{g:Bool}(hy:∀w,C w→Y P ⟨some d,op,t,pos,af,some (i,g)⟩ e w (.agg #[x,y]))(h:Am P full C rest (upd e d (.agg #[x,y])) K)(hg:A4 full e i=some g:=by rfl):Am P full C (⟨some d,op,t,pos,af,some (i,g)⟩::rest) e K:=Acm hg hy h
theorem Qy{x y z:Value}(hy:∀w,C w→Y P ⟨some d,op,t,pos,af,none⟩ e w (.agg #[x,y,z]))(h:Am P full C rest (upd e d (.agg #[x,y,z])) K):Am P full C (⟨some d,op,t,pos,af,none⟩::rest) e K:=AcB hy h
theorem Qz{x y z u:Value}(hy:∀w,C w→Y P ⟨some d,op,t,pos,af,none⟩ e w (.agg #[x,y,z,u]))(h:Am P full C rest (upd e d (.agg #[x,y,z,u])) K):Am P full C (⟨some d,op,t,pos,af,none⟩::rest) e K:=AcB hy h
theorem Hz{x y z u:Value}{i:Nat}{g:Bool}(hy:∀w,C w→Y P ⟨some d,op,t,pos,af,some (i,g)⟩ e w (.agg #[x,y,z,u]))(h:Am P full C rest (upd e d (.agg #[x,y,z,u])) K)(hg:A4 full e i=some g:=by rfl):Am P full C (⟨some d,op,t,pos,af,some (i,g)⟩::rest) e K:=Acm hg hy h
theorem Qu{x y:Value}(hy:∀w,C w→Y P ⟨some d,op,t,pos,af,none⟩ e w (.tuple #[x,y]))(h:Am P full C rest (upd e d (.tuple #[x,y])) K):Am P full C (⟨some d,op,t,pos,af,none⟩::rest) e K:=AcB hy h
end
section
variable {P:Program}{full:Array Oper}{rest:List Oper}{e:Env}{B:Aq}{M:List SA}{h0:Ae}{L:List (Nat×Sp)}{K:List (Nat×Sp)→Env→Prop}{t:TypeId}{pos:String}{af:Array Edge}{d:Nat}{op:Op}
theorem Fi{n:Int}(hy:∀h1 w us,h0.le h1→Inv B h1 M w→Y P ⟨some d,op,t,pos,af,none⟩ (ovr e L us) w (.int .i64 n))(h:AO P full B M h0 L rest (upd e d (.int .i64 n)) K):AO P full B M h0 L (⟨some d,op,t,pos,af,none⟩::rest) e K:=Acr (fun _=>Aj _) hy h
theorem Fb{z:Bool}(hy:∀h1 w us,h0.le h1→Inv B h1 M w→Y P ⟨some d,op,t,pos,af,none⟩ (ovr e L us) w (.bool z))(h:AO P full B M h0 L rest (upd e d (.bool z)) K):AO P full B M h0 L (⟨some d,op,t,pos,af,none⟩::rest) e K:=Acr (fun _=>Aj _) hy h
theorem Fs{a:Option Addr}{n c:Nat}(hy:∀h1 w us,h0.le h1→Inv B h1 M w→Y P ⟨some d,op,t,pos,af,none⟩ (ovr e L us) w (.slice a n c))(h:AO P full B M h0 L rest (upd e d (.slice a n c)) K):AO P full B M h0 L (⟨some d,op,t,pos,af,none⟩::rest) e K:=Acr (fun _=>Aj _) hy h
theorem Fp{b o:Nat}(hy:∀h1 w us,h0.le h1→Inv B h1 M w→Y P ⟨some d,op,t,pos,af,none⟩ (ovr e L us) w (.pointer (some ⟨b,o,none⟩)))(h:AO P full B M h0 L rest (upd e d (.pointer (some ⟨b,o,none⟩))) K):AO P full B M h0 L (⟨some d,op,t,pos,af,none⟩::rest) e K:=Acr (fun _=>Aj _) hy h
theorem Ft{s:ByteArray}(hy:∀h1 w us,h0.le h1→Inv B h1 M w→Y P ⟨some d,op,t,pos,af,none⟩ (ovr e L us) w (.string s))(h:AO P full B M h0 L rest (upd e d (.string s)) K):AO P full B M h0 L (⟨some d,op,t,pos,af,none⟩::rest) e K:=Acr (fun _=>Aj _) hy h
theorem Ff{f:Go.Fn}{a c:Array Value}(hy:∀h1 w us,h0.le h1→Inv B h1 M w→Y P ⟨some d,op,t,pos,af,none⟩ (ovr e L us) w (.func f a c))(h:AO P full B M h0 L rest (upd e d (.func f a c)) K):AO P full B M h0 L (⟨some d,op,t,pos,af,none⟩::rest) e K:=Acr (fun _=>Aj _) hy h
theorem Fx{x y:Value}(hy:∀h1 w us,h0.le h1→Inv B h1 M w→Y P ⟨some d,op,t,pos,af,none⟩ (ovr e L us) w (.agg #[x,y]))(h:AO P full B M h0 L rest (upd e d (.agg #[x,y])) K):AO P full B M h0 L (⟨some d,op,t,pos,af,none⟩::rest) e K:=Acr (fun _=>Aj _) hy h
theorem Fy{x y z:Value}(hy:∀h1 w us,h0.le h1→Inv B h1 M w→Y P ⟨some d,op,t,pos,af,none⟩ (ovr e L us) w (.agg #[x,y,z]))(h:AO P full B M h0 L rest (upd e d (.agg #[x,y,z])) K):AO P full B M h0 L (⟨some d,op,t,pos,af,none⟩::rest) e K:=Acr (fun _=>Aj _) hy h
theorem Fz{x y z u:Value}(hy:∀h1 w us,h0.le h1→Inv B h1 M w→Y P ⟨some d,op,t,pos,af,none⟩ (ovr e L us) w (.agg #[x,y,z,u]))(h:AO P full B M h0 L rest (upd e d (.agg #[x,y,z,u])) K):AO P full B M h0 L (⟨some d,op,t,pos,af,none⟩::rest) e K:=Acr (fun _=>Aj _) hy h
end
section
variable {P:Program}{e:Env}{w:World}{d:Option Nat}{t:TypeId}{pos:String}{af:Array Edge}{g:Option (Nat×Bool)}
theorem Mv{x:Operand}:Y P ⟨d,.move x,t,pos,af,g⟩ e w (ev e x):=AeV rfl
theorem Ag{x:Operand}:Y P ⟨d,.assign x,t,pos,af,g⟩ e w (ev e x):=Aet rfl
theorem Dd{x y:Operand}{T T':TypeId}{a b:Int}(hx:ev e x=.int .i64 a)(hy:ev e y=.int .i64 b)(h1:-9223372036854775808≤a+b:=by omega)(h2:a+b<9223372036854775808:=by omega):Y P ⟨d,.binOp .add T x y T',t,pos,af,g⟩ e w (.int .i64 (a+b)):=Ad9 hx hy ⟨h1,h2⟩
theorem Ld{x:Operand}{T n b:Nat}{ag:Bool}{cs:List Value}{v:Value}{B:Aq}{h:Ae}{M:List SA}{T':TypeId}(I:Inv B h M w)(hT:Ty P T n ag)(k o m:Nat)(hx:ev e x=.pointer (some ⟨b,o,none⟩))(hn:M[k]?=some (box b cs T'))(hv:ldv ag ((cs.drop o).take m)=v)(hl:((cs.drop o).take m).length=n:=by rfl):Y P ⟨d,.load T x,t,pos,af,g⟩ e w v:=Abn hT hx (I.l5 k hn o m) hl hv
theorem Ix{x ix:Operand}{T el k c i:Nat}{ik:IntKind}{α:Type}{s:Sl α}{enc:α→List Value}{h:Ae}{y:α}(hE:El s k enc h i y)(hT:Und P T (.slice el))(hk:∀w,(sizeOf el).run P w=.ok k w)(hx:ev e x=.slice s.at_ s.xs.length c)(hi:ev e ix=.int ik (i:Int)):Y P ⟨d,.indexAddr T x ix,t,pos,af,g⟩ e w (.pointer (some ⟨s.blk,s.off+i*k,none⟩)):=AbJ hE hT hk hx hi (Int.natCast_nonneg _) rfl
end
theorem Si{n:Int}{P:Program}{e:Env}{w:World}{B:Aq}{h:Ae}{M:List SA}{t:TypeId}{pos:String}{af:Array Edge}{g:Option (Nat×Bool)}{d:Option Nat}{T T':TypeId}{a' x':Operand}{b' o' m:Nat}{ag:Bool}{cs vs:List Value}{K:Value→World→Prop}(I:Inv B h M w)(hT:Ty P T m ag)(k:Nat)(hn:M[k]?=some (TF.box b' cs T'))(ha:ev e a'=.pointer (some ⟨b',o',none⟩))(hx:ev e x'=.int .i64 n)(hv:(.int .i64 n:Value).cells=vs.toArray)(q:∀w',Inv B h (M.set k (TF.box b' (CB cs o' vs) T')) w'→K undef w')(hl:vs.length=m:=by rfl)(h1:AJ vs=true:=by rfl)(hf:Nat.ble (o' + vs.length) cs.length=true:=by rfl):Op1 P ⟨d,.store T a' x',t,pos,af,g⟩ e w K:=Ab3 I hT k hn ha hx hv hl h1 (Nat.le_of_ble_eq_true hf) rfl q
theorem Sb{z:Bool}{P:Program}{e:Env}{w:World}{B:Aq}{h:Ae}{M:List SA}{t:TypeId}{pos:String}{af:Array Edge}{g:Option (Nat×Bool)}{d:Option Nat}{T T':TypeId}{a' x':Operand}{b' o' m:Nat}{ag:Bool}{cs vs:List Value}{K:Value→World→Prop}(I:Inv B h M w)(hT:Ty P T m ag)(k:Nat)(hn:M[k]?=some (TF.box b' cs T'))(ha:ev e a'=.pointer (some ⟨b',o',none⟩))(hx:ev e x'=.bool z)(hv:(.bool z:Value).cells=vs.toArray)(q:∀w',Inv B h (M.set k (TF.box b' (CB cs o' vs) T')) w'→K undef w')(hl:vs.length=m:=by rfl)(h1:AJ vs=true:=by rfl)(hf:Nat.ble (o' + vs.length) cs.length=true:=by rfl):Op1 P ⟨d,.store T a' x',t,pos,af,g⟩ e w K:=Ab3 I hT k hn ha hx hv hl h1 (Nat.le_of_ble_eq_true hf) rfl q
theorem Ss0{a:Option Addr}{n c:Nat}{P:Program}{e:Env}{w:World}{B:Aq}{h:Ae}{M:List SA}{t:TypeId}{pos:String}{af:Array Edge}{g:Option (Nat×Bool)}{d:Option Nat}{T T':TypeId}{a' x':Operand}{b' o' m:Nat}{ag:Bool}{cs vs:List Value}{K:Value→World→Prop}(I:Inv B h M w)(hT:Ty P T m ag)(k:Nat)(hn:M[k]?=some (TF.box b' cs T'))(ha:ev e a'=.pointer (some ⟨b',o',none⟩))(hx:ev e x'=.slice a n c)(hv:(.slice a n c:Value).cells=vs.toArray)(q:∀w',Inv B h (M.set k (TF.box b' (CB cs o' vs) T')) w'→K undef w')(hl:vs.length=m:=by rfl)(h1:AJ vs=true:=by rfl)(hf:Nat.ble (o' + vs.length) cs.length=true:=by rfl):Op1 P ⟨d,.store T a' x',t,pos,af,g⟩ e w K:=Ab3 I hT k hn ha hx hv hl h1 (Nat.le_of_ble_eq_true hf) rfl q
theorem Sp0{b o:Nat}{P:Program}{e:Env}{w:World}{B:Aq}{h:Ae}{M:List SA}{t:TypeId}{pos:String}{af:Array Edge}{g:Option (Nat×Bool)}{d:Option Nat}{T T':TypeId}{a' x':Operand}{b' o' m:Nat}{ag:Bool}{cs vs:List Value}{K:Value→World→Prop}(I:Inv B h M w)(hT:Ty P T m ag)(k:Nat)(hn:M[k]?=some (TF.box b' cs T'))(ha:ev e a'=.pointer (some ⟨b',o',none⟩))(hx:ev e x'=.pointer (some ⟨b,o,none⟩))(hv:(.pointer (some ⟨b,o,none⟩):Value).cells=vs.toArray)(q:∀w',Inv B h (M.set k (TF.box b' (CB cs o' vs) T')) w'→K undef w')(hl:vs.length=m:=by rfl)(h1:AJ vs=true:=by rfl)(hf:Nat.ble (o' + vs.length) cs.length=true:=by rfl):Op1 P ⟨d,.store T a' x',t,pos,af,g⟩ e w K:=Ab3 I hT k hn ha hx hv hl h1 (Nat.le_of_ble_eq_true hf) rfl q
theorem St0{s:ByteArray}{P:Program}{e:Env}{w:World}{B:Aq}{h:Ae}{M:List SA}{t:TypeId}{pos:String}{af:Array Edge}{g:Option (Nat×Bool)}{d:Option Nat}{T T':TypeId}{a' x':Operand}{b' o' m:Nat}{ag:Bool}{cs vs:List Value}{K:Value→World→Prop}(I:Inv B h M w)(hT:Ty P T m ag)(k:Nat)(hn:M[k]?=some (TF.box b' cs T'))(ha:ev e a'=.pointer (some ⟨b',o',none⟩))(hx:ev e x'=.string s)(hv:(.string s:Value).cells=vs.toArray)(q:∀w',Inv B h (M.set k (TF.box b' (CB cs o' vs) T')) w'→K undef w')(hl:vs.length=m:=by rfl)(h1:AJ vs=true:=by rfl)(hf:Nat.ble (o' + vs.length) cs.length=true:=by rfl):Op1 P ⟨d,.store T a' x',t,pos,af,g⟩ e w K:=Ab3 I hT k hn ha hx hv hl h1 (Nat.le_of_ble_eq_true hf) rfl q
theorem Sf{f:Go.Fn}{a c:Array Value}{P:Program}{e:Env}{w:World}{B:Aq}{h:Ae}{M:List SA}{t:TypeId}{pos:String}{af:Array Edge}{g:Option (Nat×Bool)}{d:Option Nat}{T T':TypeId}{a' x':Operand}{b' o' m:Nat}{ag:Bool}{cs vs:List Value}{K:Value→World→Prop}(I:Inv B h M w)(hT:Ty P T m ag)(k:Nat)(hn:M[k]?=some (TF.box b' cs T'))(ha:ev e a'=.pointer (some ⟨b',o',none⟩))(hx:ev e x'=.func f a c)(hv:(.func f a c:Value).cells=vs.toArray)(q:∀w',Inv B h (M.set k (TF.box b' (CB cs o' vs) T')) w'→K undef w')(hl:vs.length=m:=by rfl)(h1:AJ vs=true:=by rfl)(hf:Nat.ble (o' + vs.length) cs.length=true:=by rfl):Op1 P ⟨d,.store T a' x',t,pos,af,g⟩ e w K:=Ab3 I hT k hn ha hx hv hl h1 (Nat.le_of_ble_eq_true hf) rfl q
theorem Sx{x y:Value}{P:Program}{e:Env}{w:World}{B:Aq}{h:Ae}{M:List SA}{t:TypeId}{pos:String}{af:Array Edge}{g:Option (Nat×Bool)}{d:Option Nat}{T T':TypeId}{a' x':Operand}{b' o' m:Nat}{ag:Bool}{cs vs:List Value}{K:Value→World→Prop}(I:Inv B h M w)(hT:Ty P T m ag)(k:Nat)(hn:M[k]?=some (TF.box b' cs T'))(ha:ev e a'=.pointer (some ⟨b',o',none⟩))(hx:ev e x'=.agg #[x,y])(hv:(.agg #[x,y]:Value).cells=vs.toArray)(q:∀w',Inv B h (M.set k (TF.box b' (CB cs o' vs) T')) w'→K undef w')(hl:vs.length=m:=by rfl)(h1:AJ vs=true:=by rfl)(hf:Nat.ble (o' + vs.length) cs.length=true:=by rfl):Op1 P ⟨d,.store T a' x',t,pos,af,g⟩ e w K:=Ab3 I hT k hn ha hx hv hl h1 (Nat.le_of_ble_eq_true hf) rfl q
theorem Sy{x y z:Value}{P:Program}{e:Env}{w:World}{B:Aq}{h:Ae}{M:List SA}{t:TypeId}{pos:String}{af:Array Edge}{g:Option (Nat×Bool)}{d:Option Nat}{T T':TypeId}{a' x':Operand}{b' o' m:Nat}{ag:Bool}{cs vs:List Value}{K:Value→World→Prop}(I:Inv B h M w)(hT:Ty P T m ag)(k:Nat)(hn:M[k]?=some (TF.box b' cs T'))(ha:ev e a'=.pointer (some ⟨b',o',none⟩))(hx:ev e x'=.agg #[x,y,z])(hv:(.agg #[x,y,z]:Value).cells=vs.toArray)(q:∀w',Inv B h (M.set k (TF.box b' (CB cs o' vs) T')) w'→K undef w')(hl:vs.length=m:=by rfl)(h1:AJ vs=true:=by rfl)(hf:Nat.ble (o' + vs.length) cs.length=true:=by rfl):Op1 P ⟨d,.store T a' x',t,pos,af,g⟩ e w K:=Ab3 I hT k hn ha hx hv hl h1 (Nat.le_of_ble_eq_true hf) rfl q
theorem Sz{x y z u:Value}{P:Program}{e:Env}{w:World}{B:Aq}{h:Ae}{M:List SA}{t:TypeId}{pos:String}{af:Array Edge}{g:Option (Nat×Bool)}{d:Option Nat}{T T':TypeId}{a' x':Operand}{b' o' m:Nat}{ag:Bool}{cs vs:List Value}{K:Value→World→Prop}(I:Inv B h M w)(hT:Ty P T m ag)(k:Nat)(hn:M[k]?=some (TF.box b' cs T'))(ha:ev e a'=.pointer (some ⟨b',o',none⟩))(hx:ev e x'=.agg #[x,y,z,u])(hv:(.agg #[x,y,z,u]:Value).cells=vs.toArray)(q:∀w',Inv B h (M.set k (TF.box b' (CB cs o' vs) T')) w'→K undef w')(hl:vs.length=m:=by rfl)(h1:AJ vs=true:=by rfl)(hf:Nat.ble (o' + vs.length) cs.length=true:=by rfl):Op1 P ⟨d,.store T a' x',t,pos,af,g⟩ e w K:=Ab3 I hT k hn ha hx hv hl h1 (Nat.le_of_ble_eq_true hf) rfl q
theorem Wr{P:Program}{N:Nat}{D:List Deferred}{e:Env}{w:World}{Q Q':Exit→Env→World→Prop}(h:Q' .ret e w)(hq:Q' .ret e w→Q .ret e w:=by (intro h;(repeat (first|refine MT ?_|refine KM ?_));exact h)):WP P N D .ret e w Q:=Acv (hq h)
theorem Rm{P:Program}{fn:Func}{B:Aq}{Post:Value→Ae→Prop}{e:Env}{w:World}{t:Nat}{v:Value}{h:Ae}{M:List SA}(hr:fn.results.toList=[.tmp t])(hv:e t=v)(I:Inv B h M w)(hp:Post (tup [v]) h):BH P fn B Post .ret e w:=BH.mk (vs:=[v]) hr ⟨hv,trivial⟩ I.j5 hp
theorem Fo{P:Program}{f:FuncId}{fn:Func}{c:Code}{N:Nat}{args:List Value}{B:Aq}{Post:Value→Ae→Prop}(hB:B.ok)(hf:P.funcs[f]?=some fn)(hb:fn.body=some c)(hN:fn.ntmps=N)(h:∀e,Inv B B.h [] B.w→WP P N [] c (E e (Ky 0 args)) B.w (BH P fn B Post))(hs:AS N c=true:=by kernel_rfl)(hl:args.length≤N:=by simp):Fn P f args B Post:=Fn.of hf hb hN hs hl fun e=>h e (Ab2 hB)
abbrev Pt(b:Nat):Value:=.pointer (some ⟨b,0,none⟩)
theorem Nb{a b:Nat}(h:Nat.ble a b=true):a≤b:=Nat.le_of_ble_eq_true h
theorem Sr{P:Program}{N:Nat}{D:List Deferred}{e:Env}{w:World}{Q:Exit→Env→World→Prop}{id:Nat}{ops:Array Oper}{y:Code}(h:Ops P ops ops.toList e w (fun e' w'=>WP P N D y e' w' Q)):WP P N D (.seq (.region id ops false) y) e w Q:=Abi (Abg h)
end
section
def Aa1(P:Program)(o:Oper)(e:Env)(w:World)(K:Value→World→Prop):Prop:=
 Op1 P o e w K∨∃l f tmps assign body w',(execOp (ev e) o).run P w=.ok (.round l f tmps assign body) w'∧RoundIn Fence.wide 0 P l f tmps assign body w' fun|.returned v,w''=>K v w''|_,_=>False
def Eb(P:Program)(full:Array Oper):List Oper→Env→World→(Env→World→Prop)→Prop
 |[],e,w,K=>K e w
 |o::rest,e,w,K=>if runs full e o then Aa1 P o e w (fun v w'=>Eb P full rest (CQ e o.dst v) w' K) else Eb P full rest (CQ e o.dst undef) w K
def EM(l:List Oper):Bool:=l.all fun o=>match o.op with|.defer _=>false|_=>true
theorem G1{P:Program}{F:Fence}{o:Oper}{a:Act}{w:World}{next:Act→World→Prop}{Q:Exit→Act→World→Prop}(hfn:∀f,F.fn f)(hdep:F.depth=none)(hal:∀f args w R,Calls P f args w R→CallsIn F (0-1) P f args w R)
  (hnd:∀c,o.op≠.defer c) (h:Op1 P o (env a) w fun v w'=>next (a.put o.dst v) w'):o.wpIn F 0 P a w next Q:=by
 refine⟨fun f _=>hfn f,?_⟩;rw[Oper.semAt_eq _ _ _ hnd,BU];unfold Op1 at h;generalize (execOp (ev (env a)) o).run P w=r at *;cases r with
 |ok n w'=>
  cases n<;>simp only at h<;>first|exact h.elim|exact h|skip;refine⟨(fun hd=>by rw[hdep] at hd;cases hd),(hal _ _ _ _ h).mono fun e w'' he=>?_⟩;cases e<;>first|exact he|exact he.elim
 |halt x w'=>exact h.elim
theorem Eg{P:Program}{f:FuncId}{args:Array Value}{w:World}{R:Ending→World→Prop}(n:Nat)(h:Calls P f args w R):CallsIn Fence.wide n P f args w R:=callsIn_wide.2 h
theorem G2{ops:Array Oper}{k n:Nat}(h:k+(n+1)=ops.size):∃o,ops[k]?=some o∧ops.toList.drop k=o::ops.toList.drop (k+1):=by
 have hk:k<ops.size:=by omega
 exact⟨ops[k],by simp[hk],by rw[AfZ (by simpa using hk)];simp⟩
theorem Adc{P:Program}{ops:Array Oper}{Q:Exit→Act→World→Prop}{N:Nat}{D:List Deferred}(hds:C8 N ops.toList=true)(hnd:EM ops.toList=true):∀(n k:Nat) (a:Act) (w:World) (K:Env→World→Prop),
  k+n=ops.size→a.tmps.size=N→a.defers=D→(∀a' w',a'.tmps.size=N→a'.defers=D→K (env a') w'→Q .normal a' w')→Eb P ops (ops.toList.drop k) (env a) w K→wpOpsIn Fence.wide 0 P ops Q (List.range' k n) a w
 |0,k,a,w,K,hk,hs,hd,hK,h=>by
  rw[AfV (by simp;omega)] at h;exact hK _ _ hs hd h
 |n+1,k,a,w,K,hk,hs,hd,hK,h=>by
  obtain⟨o,ho,hdr⟩:=G2 hk;have hmem:o∈ops.toList:=by have:=Af6 ho;simpa using this
  have hdo:o.dst.all (· < N)=true:=(Aff.1 hds) o hmem;have hno:∀c,o.op≠.defer c:=fun c e=>by have:=(Aff.1 hnd) o hmem;simp[e] at this
  have hput:∀v,env (a.put o.dst v)=CQ (env a) o.dst v:=fun v=>Cg a o.dst v (by rw[hs];exact hdo);rw[hdr] at h;simp only[Ahp,wpOpsIn,ho,BX];simp only[Eb] at h;split
  ·rename_i hr;rw[if_pos hr] at h;have step:∀v w',Eb P ops (ops.toList.drop (k+1)) (CQ (env a) o.dst v) w' K→wpOpsIn Fence.wide 0 P ops Q (List.range' (k+1) n) (a.put o.dst v) w':=fun v w' hh=>
    Adc hds hnd n (k+1) _ _ K (by omega) (by rw[Bm,hs]) (by rw[AY,hd]) hK (by rw[hput];exact hh)
   rcases h with h|⟨l,f,tmps,assign,body,w',hrun,hround⟩
   ·exact G1 (fun _=>trivial) rfl (fun _ _ _ _ h=>Eg _ h) hno (h.mono step)
   ·refine⟨fun _ _=>trivial,?_⟩;rw[Oper.semAt_eq _ _ _ hno,BU,hrun];refine⟨(fun hd=>by cases hd),hround.mono fun e w'' he=>?_⟩;cases e<;>first|exact step _ _ he|exact he.elim
  ·rename_i hr;rw[if_neg hr] at h;exact⟨fun _ _=>trivial,Adc hds hnd n (k+1) _ _ K (by omega) (by rw[Bm,hs]) (by rw[AY,hd]) hK (by rw[hput];exact h)⟩
theorem AdA{P:Program}{N:Nat}{D:List Deferred}{e:Env}{w:World}{Q:Exit→Env→World→Prop}{id:Nat}{ops:Array Oper}(hnd:EM ops.toList=true)
  (h:Eb P ops ops.toList e w (fun e' w'=>Q .normal e' w')):WP P N D (.region id ops false) e w Q:=by
 intro hs a h1 h2 h3;subst h3;refine(wpIn_wide (n:=0)).1 (wpIn_region ?_);rw[Ag0];exact Adc hs hnd _ 0 a w _ (by omega) h1 h2 (fun _ _ g1 g2 g3=>⟨g1,g2,g3⟩) h
section
variable {P:Program}{full:Array Oper}{rest:List Oper}{e:Env}{w:World}{K:Env→World→Prop}
theorem Adh(h:K e w):Eb P full [] e w K:=h
theorem AeO{d:Option Nat}{op:Op}{t:TypeId}{pos:String}{af:Array Edge}(h:Op1 P ⟨d,op,t,pos,af,none⟩ e w (fun v w'=>Eb P full rest (CQ e d v) w' K)) :
  Eb P full (⟨d,op,t,pos,af,none⟩::rest) e w K:=by simp only[Eb,runs,if_true];exact .inl h
theorem AcK{d:Nat}{op:Op}{t:TypeId}{pos:String}{af:Array Edge}{v:Value}(hy:Y P ⟨some d,op,t,pos,af,none⟩ e w v)(h:Eb P full rest (upd e d v) w K) :
  Eb P full (⟨some d,op,t,pos,af,none⟩::rest) e w K:=AeO (by unfold Op1;rw[hy];exact h)
theorem AdB{d:Option Nat}{x:Operand}{l:Nat}{args:Array Operand}{ts:Array TypeId}{vs:List Value}{t:TypeId}{pos:String}{af:Array Edge}{R:Ending→World→Prop}(hx:ev e x=.func (.yield l) #[] #[])(ha:args.toList.map (ev e)=vs)
  (hy:YieldAt Fence.wide 0 P l vs.toArray w R) (k:∀ed w',R ed w'→∃v,ed=.returned v∧Eb P full rest (CQ e d v) w' K) :
  Eb P full (⟨d,.call {callee:=.value x,args:=args,argTypes:=ts},t,pos,af,none⟩::rest) e w K:=by
 have ha':args.map (ev e)=vs.toArray:=by rw[←ha];apply Array.ext';simp
 obtain⟨fn,tmps,assign,body,hrun,hR⟩:=hy;simp only[Eb,runs,if_true];refine .inr ⟨l,fn,tmps,assign,body,w,?_,hR.mono fun ed w' hh=>?_⟩
 ·simp only[execOp,resolve,hx,Deferred.ofValue];simp[invoke,ha',hrun]
 ·obtain⟨v,rfl,hk⟩:=k ed w' hh;exact hk
end
def WPI(P:Program)(N:Nat)(l:Nat)(c:Code)(e:Env)(w:World)(Q:Exit→Env→World→Prop):Prop:=
 AS N c=true→∀a:Act,a.tmps.size=N→a.defers=[]→env a=e→c.wpIn (Fence.wide.inRound l) 0 P (fun x a' w'=>a'.tmps.size=N∧a'.defers=[]∧Q x (env a') w') a w
section
variable {P:Program}{N l:Nat}{e:Env}{w:World}{Q:Exit→Env→World→Prop}
theorem WPI.mono{c:Code}{Q':Exit→Env→World→Prop}(h:WPI P N l c e w Q)(hq:∀x e w,Q x e w→Q' x e w):WPI P N l c e w Q':=
 fun hs a h1 h2 h3=>wpIn_mono (h hs a h1 h2 h3) fun _ _ _ ⟨g1,g2,g3⟩=>⟨g1,g2,hq _ _ _ g3⟩
theorem Acn{x y:Code}(h:WPI P N l x e w (Fh (fun e' w'=>WPI P N l y e' w' Q) Q)):WPI P N l (.seq x y) e w Q:=by
 intro hs a h1 h2 h3;simp only[AS,Afn] at hs;refine wpIn_seq (wpIn_mono (h hs.1 a h1 h2 h3) ?_);rintro x a' w' ⟨g1,g2,g3⟩;cases x<;>simp only[Fh] at g3<;>first|exact⟨g1,g2,g3⟩|exact g3 hs.2 a' g1 g2 rfl
theorem Adi(h:Q .normal e w):WPI P N l .skip e w Q:=fun _ _ h1 h2 h3=>wpIn_skip ⟨h1,h2,h3▸h⟩
theorem AeP(h:Q .ret e w):WPI P N l .ret e w Q:=fun _ _ h1 h2 h3=>wpIn_ret ⟨h1,h2,h3▸h⟩
theorem Aew{id:Nat}(h:Q (.exit id) e w):WPI P N l (.exit id) e w Q:=fun _ _ h1 h2 h3=>wpIn_exit ⟨h1,h2,h3▸h⟩
theorem Aex{t:Nat}(h:Q (.goto t) e w):WPI P N l (.goto t) e w Q:=fun _ _ h1 h2 h3=>wpIn_goto ⟨h1,h2,h3▸h⟩
theorem WPI.block{id:Nat}{c:Code}(h:WPI P N l c e w (MS id Q)):WPI P N l (.block id c) e w Q:=by
 intro hs a h1 h2 h3;refine wpIn_block (wpIn_mono (h hs a h1 h2 h3) ?_);rintro x a' w' ⟨g1,g2,g3⟩;cases x<;>simp only[MS] at g3<;>simp only[Exit.inBlock]<;>first|exact⟨g1,g2,g3⟩|(split at g3<;>rename_i hi<;>simp only[hi,if_true,if_false]<;>exact⟨g1,g2,g3⟩)
theorem Adj{c:Operand}{x y:Code}{b:Bool}(hc:ev e c=.bool b)(ht:b=true→WPI P N l x e w Q)(hf:b=false→WPI P N l y e w Q):WPI P N l (.cond c x y) e w Q:=by
 intro hs a h1 h2 h3;simp only[AS,Afn] at hs;have he:a.eval c=.bool b:=by rw[BU,h3];exact hc
 exact wpIn_cond_split he (fun t=>ht t hs.1 a h1 h2 h3) (fun t=>hf t hs.2 a h1 h2 h3)
theorem Adk{c:Operand}{x y:Code}{p:Prop}[Decidable p](hc:ev e c=.bool (decide p))(ht:p→WPI P N l x e w Q)(hf:¬p→WPI P N l y e w Q):WPI P N l (.cond c x y) e w Q:=
 Adj hc (fun h=>ht (of_decide_eq_true h)) (fun h=>hf (of_decide_eq_false h))
theorem AdC{c:Operand}{x y:Code}(hc:ev e c=.bool true)(ht:WPI P N l x e w Q):WPI P N l (.cond c x y) e w Q:=
 Adj hc (fun _=>ht) (fun h=>by cases h)
theorem Aeb{c:Operand}{x y:Code}(hc:ev e c=.bool false)(hf:WPI P N l y e w Q):WPI P N l (.cond c x y) e w Q:=
 Adj hc (fun h=>by cases h) (fun _=>hf)
theorem AbU{id:Nat}{ops:Array Oper}(hnd:EM ops.toList=true)(h:Ops P ops ops.toList e w (fun e' w'=>Q .normal e' w')):WPI P N l (.region id ops false) e w Q:=by
 intro hs a h1 h2 h3;subst h3;refine wpIn_region ?_;rw[Ag0];have key:∀(n k:Nat) (a:Act) (w:World),k+n=ops.size→a.tmps.size=N→a.defers=[]→Ops P ops (ops.toList.drop k) (env a) w (fun e' w'=>Q .normal e' w')→
   wpOpsIn (Fence.wide.inRound l) 0 P ops (fun x a' w'=>a'.tmps.size=N∧a'.defers=[]∧Q x (env a') w') (List.range' k n) a w:=by
  intro n;induction n with
  |zero=>
   intro k a w hk hs1 hd h;rw[AfV (by simp;omega)] at h;exact⟨hs1,hd,h⟩
  |succ n ih=>
   intro k a w hk hs1 hd h;obtain⟨o,ho,hdr⟩:=G2 hk;have hmem:o∈ops.toList:=by have:=Af6 ho;simpa using this
   have hdo:o.dst.all (· < N)=true:=(Aff.1 hs) o hmem;have hno:∀c,o.op≠.defer c:=fun c e=>by have:=(Aff.1 hnd) o hmem;simp[e] at this
   have hput:∀v,env (a.put o.dst v)=CQ (env a) o.dst v:=fun v=>Cg a o.dst v (by rw[hs1];exact hdo);rw[hdr] at h;simp only[Ahp,wpOpsIn,ho,BX];simp only[Ops] at h;have step:∀v w',Ops P ops (ops.toList.drop (k+1)) (CQ (env a) o.dst v) w' (fun e' w'=>Q .normal e' w')→wpOpsIn (Fence.wide.inRound l) 0 P ops (fun x a' w'=>a'.tmps.size=N∧a'.defers=[]∧Q x (env a') w') (List.range' (k+1) n) (a.put o.dst v) w':=fun v w' hh=>
    ih (k+1) _ _ (by omega) (by rw[Bm,hs1]) (by rw[AY,hd]) (by rw[hput];exact hh)
   split
   ·rename_i hr;rw[if_pos hr] at h;exact G1 (fun _=>trivial) rfl (fun _ _ _ _ h=>(Eg _ h).inRound l) hno (h.mono step)
   ·rename_i hr;rw[if_neg hr] at h;exact⟨fun _ _=>trivial,step _ _ h⟩
 exact key _ 0 a w (by omega) h1 h2 h
end
def WPD(P:Program)(N:Nat)(D:List Deferred)(c:Code)(e:Env)(w:World)(Q:Exit→Env→World→List Deferred→Prop):Prop:=
 AS N c=true→∀a:Act,a.tmps.size=N→a.defers=D→env a=e→c.wp P (fun x a' w'=>a'.tmps.size=N∧Q x (env a') w' a'.defers) a w
def Kz(next:Env→World→List Deferred→Prop)(Q:Exit→Env→World→List Deferred→Prop):Exit→Env→World→List Deferred→Prop
 |.normal,e,w,D=>next e w D
 |x,e,w,D=>Q x e w D
def MZ(id:Nat)(Q:Exit→Env→World→List Deferred→Prop):Exit→Env→World→List Deferred→Prop
 |.exit id',e,w,D=>if id'=id then Q .normal e w D else Q (.exit id') e w D
 |x,e,w,D=>Q x e w D
section
variable {P:Program}{N:Nat}{D:List Deferred}{e:Env}{w:World}{Q:Exit→Env→World→List Deferred→Prop}
theorem WPD.mono{c:Code}{Q':Exit→Env→World→List Deferred→Prop}(h:WPD P N D c e w Q)(hq:∀x e w D,Q x e w D→Q' x e w D):WPD P N D c e w Q':=
 fun hs a h1 h2 h3=>wp_mono (h hs a h1 h2 h3) fun _ _ _ ⟨g1,g3⟩=>⟨g1,hq _ _ _ _ g3⟩
theorem WPD.of{c:Code}(h:WP P N D c e w (fun x e' w'=>Q x e' w' D)):WPD P N D c e w Q:=
 fun hs a h1 h2 h3=>wp_mono (h hs a h1 h2 h3) fun _ _ _ ⟨g1,g2,g3⟩=>⟨g1,g2▸g3⟩
theorem AbW{x y:Code}(h:WPD P N D x e w (Kz (fun e' w' D'=>WPD P N D' y e' w' Q) Q)):WPD P N D (.seq x y) e w Q:=by
 intro hs a h1 h2 h3;simp only[AS,Afn] at hs;refine wp_seq (wp_mono (h hs.1 a h1 h2 h3) ?_);rintro x a' w' ⟨g1,g3⟩;cases x<;>simp only[Kz] at g3<;>first|exact⟨g1,g3⟩|exact g3 hs.2 a' g1 rfl rfl
theorem WPD.block{id:Nat}{c:Code}(h:WPD P N D c e w (MZ id Q)):WPD P N D (.block id c) e w Q:=by
 intro hs a h1 h2 h3;refine wp_block (wp_mono (h hs a h1 h2 h3) ?_);rintro x a' w' ⟨g1,g3⟩;cases x<;>simp only[MZ] at g3<;>simp only[Exit.inBlock]<;>first|exact⟨g1,g3⟩|(split at g3<;>rename_i hi<;>simp only[hi,if_true,if_false]<;>exact⟨g1,g3⟩)
theorem Aey{c:Operand}{x y:Code}{b:Bool}(hc:ev e c=.bool b)(ht:b=true→WPD P N D x e w Q)(hf:b=false→WPD P N D y e w Q):WPD P N D (.cond c x y) e w Q:=by
 intro hs a h1 h2 h3;simp only[AS,Afn] at hs;have he:a.eval c=.bool b:=by rw[BU,h3];exact hc
 exact wp_cond_split he (fun t=>ht t hs.1 a h1 h2 h3) (fun t=>hf t hs.2 a h1 h2 h3)
theorem AcL{c:Operand}{x y:Code}{p:Prop}[Decidable p](hc:ev e c=.bool (decide p))(ht:p→WPD P N D x e w Q)(hf:¬p→WPD P N D y e w Q):WPD P N D (.cond c x y) e w Q:=
 Aey hc (fun h=>ht (of_decide_eq_true h)) (fun h=>hf (of_decide_eq_false h))
theorem Ac5(h:Q .normal e w D):WPD P N D .skip e w Q:=fun _ _ h1 h2 h3=>wp_skip ⟨h1,h2▸h3▸h⟩
theorem Aem{l:Nat}(h:Q .normal e w D):WPD P N D (.label l) e w Q:=fun _ _ h1 h2 h3=>wp_label ⟨h1,h2▸h3▸h⟩
theorem Adl(h:Q .ret e w D):WPD P N D .ret e w Q:=fun _ _ h1 h2 h3=>wp_ret ⟨h1,h2▸h3▸h⟩
theorem AdY{id:Nat}(h:Q (.exit id) e w D):WPD P N D (.exit id) e w Q:=fun _ _ h1 h2 h3=>wp_exit ⟨h1,h2▸h3▸h⟩
theorem AbN{id:Nat}{ops:Array Oper}(h:Ops P ops ops.toList e w (fun e' w'=>Q .normal e' w' D)):WPD P N D (.region id ops false) e w Q:=WPD.of (Abg h)
theorem AdZ{σ:Type}(kv:σ→List (Nat×Value))(Df:σ→List Deferred)(J:σ→World→Prop)(μ:σ→Nat){c:Code}(h0:∃s,Has e (kv s)∧D=Df s∧J s w)
  (round:∀s e w,J s w→WPD P N (Df s) c (E e (kv s)) w (Kz (fun e' w' D'=>∃s',(Has e' (kv s')∧D'=Df s'∧J s' w')∧μ s' < μ s) Q)):WPD P N D (.loop c) e w Q:=by
 intro hs a h1 h2 h3;obtain⟨s0,hh,hd,hj⟩:=h0;intro b k cs;have key:∀n s a w,μ s=n→a.tmps.size=N→a.defers=Df s→Has (env a) (kv s)→J s w→
   ∃x a' w',(a'.tmps.size=N∧Q x (env a') w' a'.defers)∧Arrives P (lone (b.at a (.code c::.inLoop c::k)) cs w) b k cs x a' w':=by
  intro n;induction n using Nat.strongRecOn with
  |_ n ih=>
   intro s a w hn g1 g2 gh hJ;have hr:=round s (env a) w hJ hs a g1 g2 (C9 gh).symm;obtain⟨x,a₁,w₁,⟨q1,q3⟩,harr⟩:=hr b (.inLoop c::k) cs;cases x with
   |normal=>
    obtain⟨s',⟨k1,k2,k3⟩,hlt⟩:=q3;obtain⟨e₂,a₂,w₂,hq₂,harr₂⟩:=ih (μ s') (hn▸hlt) s' a₁ w₁ rfl q1 k2 k1 k3;exact⟨e₂,a₂,w₂,hq₂,.of_steps (Steps.trans harr (.one step_inLoop)) harr₂⟩
   |exit id=>exact⟨_,a₁,w₁,⟨q1,q3⟩,.pass (x:=.inLoop c) rfl (fun _ _=>.inl (by simp)) harr⟩
   |goto l=>exact⟨_,a₁,w₁,⟨q1,q3⟩,.pass (x:=.inLoop c) rfl (fun _ _=>.inl (by simp)) harr⟩
   |ret=>exact⟨_,a₁,w₁,⟨q1,q3⟩,.pass (x:=.inLoop c) rfl (fun _ _=>.inl (by simp)) harr⟩
   |panic ch=>exact⟨_,a₁,w₁,⟨q1,q3⟩,.pass (x:=.inLoop c) rfl (fun _ _=>.inl (by simp)) harr⟩
   |outgrown=>exact⟨_,a₁,w₁,⟨q1,q3⟩,.pass (x:=.inLoop c) rfl (fun _ _=>.inl (by simp)) harr⟩
 obtain⟨x,a',w',hq,harr⟩:=key _ s0 a w rfl h1 (h2.trans hd) (h3▸hh) hj;exact⟨x,a',w',hq,.of_steps (.one step_loop) harr⟩
def Q5(l:Nat)(J:Env→World→List Deferred→Prop)(Q:Exit→Env→World→List Deferred→Prop):Exit→Env→World→List Deferred→Prop
 |.goto l',e,w,D=>l'=l∧J e w D
 |x,e,w,D=>Q x e w D
theorem Aen{σ:Type}{c rest:Code}(l:Nat)(kv:σ→List (Nat×Value))(Df:σ→List Deferred)(J:σ→World→Prop)(μ:σ→Nat)(hf:findLabel c l=some rest)(hsr:AS N rest=true)
  (first:WPD P N D c e w (Q5 l (fun e' w' D'=>∃s,Has e' (kv s)∧D'=Df s∧J s w') Q))
  (pass:∀s e w,J s w→WPD P N (Df s) rest (E e (kv s)) w (Q5 l (fun e' w' D'=>∃s',(Has e' (kv s')∧D'=Df s'∧J s' w')∧μ s' < μ s) Q)):WPD P N D (.scope c) e w Q:=by
 intro hs a h1 h2 h3;intro b k cs;have hg:gotoIn l (.inScope c::k)=some (.code rest::.inScope c::k):=by simp[gotoIn,hf]
 have key:∀n s a w,μ s=n→a.tmps.size=N→a.defers=Df s→Has (env a) (kv s)→J s w→
   ∃x a' w',(a'.tmps.size=N∧Q x (env a') w' a'.defers)∧Arrives P (lone (b.at a (.code rest::.inScope c::k)) cs w) b k cs x a' w':=by
  intro n;induction n using Nat.strongRecOn with
  |_ n ih=>
   intro s a w hn g1 g2 gh hJ;obtain⟨x,a₁,w₁,⟨q1,q3⟩,harr⟩:=pass s (env a) w hJ hsr a g1 g2 (C9 gh).symm b (.inScope c::k) cs;cases x with
   |normal=>exact⟨.normal,a₁,w₁,⟨q1,q3⟩,Steps.trans harr (.one step_inScope)⟩
   |exit id=>exact⟨.exit id,a₁,w₁,⟨q1,q3⟩,fun k' hk=>harr k' (by simp[exitTo,hk])⟩
   |goto l'=>
    obtain⟨rfl,s',⟨k1,k2,k3⟩,hlt⟩:=q3;obtain⟨e₂,a₂,w₂,hq₂,harr₂⟩:=ih (μ s') (hn▸hlt) s' a₁ w₁ rfl q1 k2 k1 k3;exact⟨e₂,a₂,w₂,hq₂,.of_steps (harr _ hg) harr₂⟩
   |ret=>exact⟨_,a₁,w₁,⟨q1,q3⟩,harr⟩
   |panic ch=>exact⟨_,a₁,w₁,⟨q1,q3⟩,harr⟩
   |outgrown=>exact⟨_,a₁,w₁,⟨q1,q3⟩,harr⟩
 obtain⟨x,a₁,w₁,⟨q1,q3⟩,harr⟩:=first hs a h1 h2 h3 b (.inScope c::k) cs;cases x with
 |normal=>exact⟨.normal,a₁,w₁,⟨q1,q3⟩,.head step_scope (Steps.trans harr (.one step_inScope))⟩
 |exit id=>exact⟨.exit id,a₁,w₁,⟨q1,q3⟩,fun k' hk=>.head step_scope (harr k' (by simp[exitTo,hk]))⟩
 |goto l'=>
  obtain⟨rfl,s',k1,k2,k3⟩:=q3;obtain⟨e₂,a₂,w₂,hq₂,harr₂⟩:=key _ s' a₁ w₁ rfl q1 k2 k1 k3;exact⟨e₂,a₂,w₂,hq₂,.of_steps (.head step_scope (harr _ hg)) harr₂⟩
 |ret=>exact⟨_,a₁,w₁,⟨q1,q3⟩,.of_steps (.one step_scope) harr⟩
 |panic ch=>exact⟨_,a₁,w₁,⟨q1,q3⟩,.of_steps (.one step_scope) harr⟩
 |outgrown=>exact⟨_,a₁,w₁,⟨q1,q3⟩,.of_steps (.one step_scope) harr⟩
end
section
variable {P:Program}{N:Nat}{D:List Deferred}{e:Env}{w:World}{Q:Exit→Env→World→List Deferred→Prop}
theorem Aec{σ:Type}{a X:Code}(l:Nat)(kv:σ→List (Nat×Value))(Df:σ→List Deferred)(J:σ→World→Prop)(μ:σ→Nat)(hf:findLabel a l=none)(hsX:AS N X=true)
  (first:WPD P N D a e w (Kz (fun e' w' D'=>∃s,Has e' (kv s)∧D'=Df s∧J s w') (Q5 l (fun _ _ _=>False) Q)))
  (pass:∀s e w,J s w→WPD P N (Df s) X (E e (kv s)) w (Q5 l (fun e' w' D'=>∃s',(Has e' (kv s')∧D'=Df s'∧J s' w')∧μ s' < μ s) Q)):WPD P N D (.scope (.seq a (.seq (.label l) X))) e w Q:=by
 refine Aen (rest:=.seq .skip X) l kv Df J μ (by simp[findLabel,hf]) (by simpa[AS] using hsX) ?_ (fun s e w hj=>AbW (Ac5 (pass s e w hj)));refine AbW (first.mono fun x e' w' D' h=>?_);cases x<;>simp only[Kz,Q5] at h ⊢<;>first|exact h|exact h.2.elim|skip;obtain⟨s,h1,rfl,h3⟩:=h;refine AbW (Aem ?_);have:=pass s e' w' h3;rw[C9 h1] at this;refine this.mono fun x e2 w2 D2 h=>?_;cases x<;>simp only[Q5] at h ⊢<;>first|exact h|skip;obtain⟨e1,s',h5,_⟩:=h;exact⟨e1,s',h5⟩
end
def mark(D:Nat):Deferred:={target:=.collected D,args:=#[]}
def AA(D:Nat):SA where
 fp:=[D]
 P:=fun w=>w.heap[D]?=some (.deferred (some []))
 loc:=fun _ _ h hp=>(h D (by simp)).trans hp
theorem DT{P:Program}{w:World}{D:Nat}(h:w.heap[D]?=some (.deferred (some []))):(Instr.takeDeferred D).run P w=.ok [] (w.putObj D (.deferred none)):=run_takeDeferred h
theorem Inv.shut{B:Aq}{h:Ae}{M:List SA}{w:World}{D:Nat}(I:Inv B h (AA D::M) w):Inv B h M (w.putObj D (.deferred none)):=by
 have hD:w.heap[D]?=some (.deferred (some [])):=(I.own _ (Ae7 ..)).1;have J:=I.step (A':=⟨[],fun _=>True,fun _ _ _ h=>h⟩) (w':=w.putObj D (.deferred none)) rfl rfl rfl (by simp[World.putObj]) (fun b _ hb=>World.putObj_heap_other (fun e=>hb (by simp[AA,e]))) trivial (fun b hb=>by cases hb);exact J.drop
theorem Je{P:Program}{fn:Func}{tmps:Array Value}{R:Ending→World→Prop}{B:Aq}{h:Ae}{M:List SA}:∀(ms:List Nat) (w:World),Inv B h (M++ms.map AA) w→
  (∀w',Inv B h M w'→∃v,(results fn tmps).run P w'=.ok v w'∧R (.returned v) w')→LeavesInM Fence.wide 0 P fn tmps R (ms.map mark) .returning w
 |[],w,I,k=>by
  simp only[AgT,Aft] at I;exact k w I
 |m::ms,w,I,k=>by
  have I':Inv B h (AA m::(M++ms.map AA)) w:=I.perm (by simp only[AfQ];exact Agi.symm);have hD:w.heap[m]?=some (.deferred (some [])):=(I'.own _ (Ae7 ..)).1;exact⟨by simp,.inl ⟨m,_,rfl,DT hD,Je ms _ I'.shut k⟩⟩
def Q6(P:Program)(fn:Func)(B:Aq)(Post:Value→Ae→Prop)(x:Exit)(e:Env)(w:World)(D:List Deferred):Prop:=
 (x=.ret∨x=.normal)∧∃(ms:List Nat) (M:List SA) (h':Ae) (vs:List Value),D=ms.map mark∧Inv B h' (M++ms.map AA) w∧(∀w2,Inv B h' M w2→RV P e w2 fn.results.toList vs)∧Post (tup vs) h'
theorem Aed{P:Program}{f:FuncId}{fn:Func}{c:Code}{N:Nat}{args:List Value}{B:Aq}{Post:Value→Ae→Prop}(hf:P.funcs[f]?=some fn)(hb:fn.body=some c)(hN:fn.ntmps=N)(hs:AS N c=true)
  (hl:args.length≤N) (h:∀e,WPD P N [] c (E e (Ky 0 args)) B.w (Q6 P fn B Post)):Fn P f args B Post:=by
 refine callsIn_wide.1 (callsIn_of_wp_marks (n:=0) hf hb trivial<|wpIn_wide.2 ?_);subst hN;refine wp_mono (h _ hs {tmps:=args.toArray++Array.replicate (fn.ntmps-args.toArray.size) undef,defers:=[]} (by simp;omega) rfl (C9 (DQ args 0 fun j v hv=>?_)).symm) ?_
 ·have hj:=(Ae9.1 hv).1;have hg:args[j]=v:=(Ae9.1 hv).2;simp[env,Afp,Age,hj,hg]
 ·rintro x a' w' ⟨_,hx,ms,M,h',vs,hd,I,hv,hp⟩;have:LeavesInM Fence.wide 0 P fn a'.tmps (fun x w'=>∃v h',x=.returned v∧Ext B w' h'∧Post v h') a'.defers .returning w':=by
   rw[hd];exact Je ms w' I fun w2 I2=>⟨_,A9 rfl (hv w2 I2),_,h',rfl,I2.j5,hp⟩
  rcases hx with rfl|rfl<;>exact this
def Aas(P:Program)(fn:Func)(R:Ending→World→Prop)(x:Exit)(e:Env)(w:World):Prop:=(x=.ret∨x=.normal)∧∃vs,RV P e w fn.results.toList vs∧R (.returned (tup vs)) w
theorem AbV{P:Program}{f:FuncId}{fn:Func}{c:Code}{N:Nat}{args:List Value}{w:World}{R:Ending→World→Prop}(hf:P.funcs[f]?=some fn)(hb:fn.body=some c)(hN:fn.ntmps=N)(hs:AS N c=true)
  (hl:args.length≤N) (h:∀e,WP P N [] c (E e (Ky 0 args)) w (Aas P fn R)):Calls P f args.toArray w R:=by
 refine calls_of_wp hf hb ?_;subst hN;refine wp_mono (h _ hs {tmps:=args.toArray++Array.replicate (fn.ntmps-args.toArray.size) undef,defers:=[]} (by simp;omega) rfl (C9 (DQ args 0 fun j v hv=>?_)).symm) ?_
 ·have hj:=(Ae9.1 hv).1;have hg:args[j]=v:=(Ae9.1 hv).2;simp[env,Afp,Age,hj,hg]
 ·rintro x a' w' ⟨_,g2,hx,vs,hv,hr⟩;rcases hx with rfl|rfl<;>exact⟨g2,_,A9 rfl hv,hr⟩
theorem BO{K:Env→World→List Deferred→Prop}{Q:Exit→Env→World→List Deferred→Prop}{e:Env}{w:World}{D:List Deferred}(h:Q .ret e w D):Kz K Q .ret e w D:=h
theorem Bq{id:Nat}{Q:Exit→Env→World→List Deferred→Prop}{e:Env}{w:World}{D:List Deferred}(h:Q .ret e w D):MZ id Q .ret e w D:=h
theorem RT{h:Ae}{b:Nat}{cs:List Value}{T:TypeId}{f:Nat×Nat}(hp:h b=some (.cells cs.toArray T f))(o n:Nat):RdH h b o ((cs.drop o).take n):=fun j v e=>by
 rw[AfF] at e;split at e
 ·rw[Af9] at e;simp[Ae.cell,hp,e]
 ·cases e
def Xd{α:Type}(P:Program)(g:FuncId)(lb:List Value)(encs:α→List Value)(xs:List α)(h:Ae):Prop:=
 ∀(l:Nat) (J:Ae→Nat→World→Prop) (Jx:World→Prop) (hg:Ae) (W:World),h.le hg→J hg 0 W→
  (∀hg k W,J hg k W→Aq.ok ⟨W,hg⟩)→
  (∀hg k W hg' W',J hg k W→Ext ⟨W,hg⟩ W' hg'→J hg' k W')→
  (∀hg' k x W,hg.le hg'→xs[k]?=some x→J hg' k W→YieldAt Fence.wide 0 P l (encs x).toArray W fun ed W'=>(ed=.returned (.bool true)∧∃h2,hg'.le h2∧J h2 (k+1) W')∨(ed=.returned (.bool false)∧Jx W'))→
  Calls P g (#[.func (.yield l) #[] #[]]++lb.toArray) W fun ed W'=>(∃v,ed=.returned v)∧((∃hg',hg.le hg'∧J hg' xs.length W')∨Jx W')
theorem Xd.le{α:Type}{P:Program}{g:FuncId}{lb:List Value}{encs:α→List Value}{xs:List α}{h h':Ae}(it:Xd P g lb encs xs h)(hl:h.le h'):Xd P g lb encs xs h':=
 fun l J Jx hg W h1=>it l J Jx hg W (hl.trans h1)
inductive Jmp where
 |ret
 |exit (id:Nat)
 |goto (t:Nat)
def Jmp.code:Jmp→Code
 |.ret=>.ret
 |.exit id=>.exit id
 |.goto t=>.goto t
def Jmp.ex:Jmp→Exit
 |.ret=>.ret
 |.exit id=>.exit id
 |.goto t=>.goto t
def AN(l:Nat)(r:Loop):SA where
 fp:=[l]
 P:=fun w=>w.heap[l]?=some (.loop r)
 loc:=fun _ _ h hp=>(h l (by simp)).trans hp
theorem Inv.q8{B:Aq}{h:Ae}{X Y:List SA}{w:World}{l:Nat}{r:Loop}(r':Loop)(I:Inv B h (X++AN l r::Y) w):Inv B h (X++AN l r'::Y) (w.putObj l (.loop r')):=by
 have I1:Inv B h (AN l r::(X++Y)) w:=I.perm Agi.symm;have hl:w.heap[l]?=some (.loop r):=(I1.own _ (Ae7 ..)).1;have hlt:=(Afr.1 hl).1;have J:=I1.step (A':=AN l r') (w':=w.putObj l (.loop r')) rfl rfl rfl (by simp[World.putObj]) (fun b _ hb=>World.putObj_heap_other (fun e=>hb (by simp[AN,e]))) (World.putObj_heap_same hlt)
  (fun b hb=>⟨.inl (by simpa[AN] using hb),by simp[AN] at hb;subst hb;simpa[World.putObj] using hlt⟩)
 exact J.perm Agi
theorem Inv.getLoop{B:Aq}{h:Ae}{X Y:List SA}{w:World}{l:Nat}{r:Loop}(I:Inv B h (X++AN l r::Y) w):w.heap[l]?=some (.loop r):=(I.own (AN l r) (by simp)).1
theorem Inv.u7{B:Aq}{h:Ae}{X Y:List SA}{w:World}{l:Nat}{r:Loop}(I:Inv B h (X++AN l r::Y) w):Inv B h (X++Y) w:=I.weak ((Af3 _ _).append_left X)
def argE(e:Env):List (Nat×Value)→Env
 |[]=>e
 |p::r=>argE (upd e p.1 p.2) r
theorem ID{N:Nat}:∀(l:List (Nat×Value)) (t:Array Value),t.size=N→(∀p∈l,p.1<N)→env {tmps:=l.foldl (fun t p=>t.setIfInBounds p.1 p.2) t,defers:=[]}=argE (env {tmps:=t,defers:=[]}) l∧(l.foldl (fun t p=>t.setIfInBounds p.1 p.2) t).size=N
 |[],t,hs,_=>⟨rfl,hs⟩
 |p::l,t,hs,hp=>by
  have ih:=ID l (t.setIfInBounds p.1 p.2) (by simpa using hs) (fun q hq=>hp q (Ae8 _ hq));have h1:env {tmps:=t.setIfInBounds p.1 p.2,defers:=[]}=upd (env {tmps:=t,defers:=[]}) p.1 p.2:=RY {tmps:=t,defers:=[]} p.1 p.2 (by have:=hp p (Ae7 ..);simpa[hs] using this);simp only[Agk,argE,←h1];exact ih
def Xe(B:Aq)(hg:Ae){σ:Type}(U:σ→List SA)(T:List SA)(Jn:σ→Prop)(Jx:Jmp→σ→Prop):Exit→Env→World→Prop
 |.normal,_,W=>∃h2 s X,hg.le h2∧Inv B h2 (X++(U s++T)) W∧Jn s
 |.ret,_,W=>∃h2 s X,hg.le h2∧Inv B h2 (X++(U s++T)) W∧Jx .ret s
 |.exit id,_,W=>∃h2 s X,hg.le h2∧Inv B h2 (X++(U s++T)) W∧Jx (.exit id) s
 |.goto t,_,W=>∃h2 s X,hg.le h2∧Inv B h2 (X++(U s++T)) W∧Jx (.goto t) s
 |_,_,_=>False
theorem AdL{α σ:Type}{P:Program}{N:Nat}{e:Env}{w:World}{Q:Exit→Env→World→List Deferred→Prop}{B:Aq}{h:Ae}{ms:List Nat}{g:Operand}{ps:Array Tmp}{assign body:Code}{gf:FuncId}{lb:List Value}
  {encs:α→List Value} {xs:List α} (U:σ→List SA) (Jc:Nat→σ→Prop) (Jx:Jmp→σ→Prop) (s0:σ) (I:Inv B h (U s0++ms.map AA) w) (j0:Jc 0 s0)
  (hg:ev e g=.func (.func gf) #[] lb.toArray) (eg:BE P gf) (it:Xd P gf lb encs xs h) (hps:∀x,(encs x).length=ps.size) (hpN:ps.toList.all (· < N)=true) (hsa:AS N assign=true) (hsb:AS N body=true)
  (round:∀(l:Nat) (r:Loop) (ms':List Nat) (hg:Ae) (k:Nat) (x:α) (s:σ) (W:World),xs[k]?=some x→h.le hg→Inv B hg (U s++(AN l r::ms'.map AA)) W→Jc k s→
   WPI P N l assign (argE e (ps.toList.zip (encs x))) W (Fh (fun e1 W1=>∃h1 X,hg.le h1∧Inv B h1 (X++(U s++(AN l r::ms'.map AA))) W1∧
    ∀r' W2,Inv B h1 (X++(U s++(AN l r'::ms'.map AA))) W2→WPI P N l body e1 W2 (Xe B h1 U (AN l r'::ms'.map AA) (Jc (k+1)) Jx)) (fun _ _ _=>False)))
  (hdone:∀D h2 s W,h.le h2→Inv B h2 (U s++(D::ms).map AA) W→Jc xs.length s→Q .normal e W ((D::ms).map mark))
  (hstop:∀D c h2 s W,h.le h2→Inv B h2 (U s++(D::ms).map AA) W→Jx c s→Q c.ex e W ((D::ms).map mark)) :
  WPD P N (ms.map mark) (.rangeFunc g ps assign body) e w Q:=by
 intro _ a h1 h2 h3;subst h3;refine(wpIn_wide (n:=1)).1 (wpIn_rangeFunc fun fn _=>?_);obtain⟨rec,hrec⟩:∃rec:LoopState→Option Code→Loop,rec=fun st pe=>{state:=st,pending:=pe,fn,tmps:=a.tmps,params:=ps,assign,body,defers:=w.heap.size}:=⟨_,rfl⟩;obtain⟨l,hl⟩:∃l,l=w.heap.size+1:=⟨_,rfl⟩;obtain⟨W1,hW1⟩:∃W1,(w.alloc (.deferred (some []))).alloc (.loop (rec .ready none))=W1:=⟨_,rfl⟩;have I1:Inv B h (U s0++(AN l (rec .ready none)::(w.heap.size::ms).map AA)) W1:=by
  have J1:Inv B h (AA w.heap.size::(U s0++ms.map AA)) (w.alloc (.deferred (some []))):=I.gain (CZ.alloc w _) (World.alloc_heap_new w _) (fun b hb=>by simp[AA] at hb;subst hb;simp);have J2:Inv B h (AN l (rec .ready none)::(AA w.heap.size::(U s0++ms.map AA))) W1:=by
   rw[←hW1];refine J1.gain (CZ.alloc _ _) ?_ (fun b hb=>?_)
   ·have:=World.alloc_heap_new (w.alloc (.deferred (some []))) (.loop (rec .ready none));rw[World.size_alloc] at this;rw[hl];exact this
   ·simp[AN] at hb;subst hb;rw[hl];simp
  exact J2.perm<|Agi.trans<|List.Perm.cons _<|Agi
 refine⟨l,[mark w.heap.size],W1,{target:=.fn (.func gf) lb.toArray,args:=#[.func (.yield l) #[] #[]]},W1,gf,#[.func (.yield l) #[] #[]]++lb.toArray,W1,?_,?_,fun _ _=>trivial,?_,(fun hd=>by cases hd),?_⟩
 ·rw[←hW1,hrec,hl];exact run_enterLoop_outer _ _ _ _ _
 ·rw[BU];have hg':ev (env a) g=.func (.func gf) #[] lb.toArray:=hg;simp only[resolve,hg'];simp[go_sem];rfl
 ·simp[invoke,go_sem];exact eg _ _
 ·refine callsIn_wide.2 ?_;refine(it l (fun hg k W=>h.le hg∧∃s,Inv B hg (U s++(AN l (rec .ready none)::(w.heap.size::ms).map AA)) W∧Jc k s)
   (fun W=>∃c hg s,h.le hg∧Inv B hg (U s++(AN l (rec .done (some c.code))::(w.heap.size::ms).map AA)) W∧Jx c s) h W1 (Ae.le.refl h) ⟨Ae.le.refl h,s0,I1,j0⟩
   (fun hg k W ⟨_,s,I,_⟩=>I.j6) (fun hg k W hg' W' ⟨g1,s,I,hj⟩ X=>⟨g1.trans X.ext,s,I.called X,hj⟩) ?_).mono ?_
  ·rintro hg' k x W g0 hx ⟨g1,s,IW,hj⟩;have hL:=IW.getLoop;have hy:=run_yield (P:=P) (args:=(encs x).toArray) hL (by rw[hrec];simpa using hps x);refine⟨_,_,_,_,hy,roundIn_of_wpIn trivial ?_⟩;rw[hrec];have hfold:(ps.zip (encs x).toArray).foldl (fun tmps (t,a)=>tmps.setIfInBounds t a) a.tmps=(ps.toList.zip (encs x)).foldl (fun t p=>t.setIfInBounds p.1 p.2) a.tmps:=by
    rw[←AhH];simp
   have hE:=ID (N:=N) (ps.toList.zip (encs x)) a.tmps h1 (fun p hp=>by
    have:=(Aff.1 hpN) p.1 (Ag8 hp).1;simpa using this)
   have henv:env {tmps:=a.tmps,defers:=[]}=env a:=rfl;rw[henv] at hE;have hR:=round l (rec .ready none) (w.heap.size::ms) hg' k x s W hx g1 IW hj hsa {tmps:=(ps.toList.zip (encs x)).foldl (fun t p=>t.setIfInBounds p.1 p.2) a.tmps,defers:=[]} hE.2 rfl hE.1;simp only[hfold];refine wpIn_mono hR ?_;rintro x1 a1 w1 ⟨k1,k2,k3⟩;cases x1<;>simp only[Fh] at k3<;>first|exact k3.elim|skip;obtain⟨hg1,X,gl1,IX,hb⟩:=k3;have IX':Inv B hg1 ((X++U s)++(AN l (rec .ready none)::(w.heap.size::ms).map AA)) w1:=by rw[Afe];exact IX
   refine⟨_,run_beginRound IX'.getLoop (by rw[hrec]),?_⟩;have I2:=IX'.q8 {rec .ready none with state:=.busy};rw[Afe] at I2;refine wpIn_mono (hb _ _ I2 hsb a1 k1 k2 rfl) ?_;have fin:∀(jump:Option Code) (h2:Ae) (s2:σ) (X2:List SA) (W3:World),Inv B h2 (X2++(U s2++(AN l {rec .ready none with state:=.busy}::(w.heap.size::ms).map AA))) W3→
     ∃W4,(Instr.endRound l jump).run P W3=.ok (.bool jump.isNone) W4∧Inv B h2 (U s2++(AN l (rec (if jump.isNone then .ready else .done) jump)::(w.heap.size::ms).map AA)) W4:=fun jump h2 s2 X2 W3 I3=>by
    have I3':Inv B h2 (U s2++(AN l {rec .ready none with state:=.busy}::(w.heap.size::ms).map AA)) W3:=I3.weak (AfJ _ _);have:=run_endRound (P:=P) jump I3'.getLoop;refine⟨_,this,?_⟩;have I4:=I3'.q8 (rec (if jump.isNone then .ready else .done) jump);rw[hrec] at I4 ⊢;exact I4
   rintro x2 a2 w2 ⟨q1,q2,q3⟩;cases x2<;>simp only[Xe] at q3<;>simp only[roundPost]<;>first|exact q3.elim|skip
   ·obtain⟨h2,s2,X2,gl2,I3,hj2⟩:=q3;obtain⟨W4,hr,I4⟩:=fin none h2 s2 X2 _ I3;exact⟨_,_,hr,.inl ⟨rfl,h2,gl1.trans gl2,(g1.trans gl1).trans gl2,s2,(by rw[hrec] at I4;exact I4),hj2⟩⟩
   ·rename_i id;obtain⟨h2,s2,X2,gl2,I3,hj2⟩:=q3;obtain⟨W4,hr,I4⟩:=fin (some (.exit id)) h2 s2 X2 _ I3;exact⟨_,_,hr,.inr ⟨rfl,.exit id,h2,s2,(g1.trans gl1).trans gl2,(by rw[hrec] at I4;exact I4),hj2⟩⟩
   ·rename_i t;obtain⟨h2,s2,X2,gl2,I3,hj2⟩:=q3;obtain⟨W4,hr,I4⟩:=fin (some (.goto t)) h2 s2 X2 _ I3;exact⟨_,_,hr,.inr ⟨rfl,.goto t,h2,s2,(g1.trans gl1).trans gl2,(by rw[hrec] at I4;exact I4),hj2⟩⟩
   ·obtain⟨h2,s2,X2,gl2,I3,hj2⟩:=q3;obtain⟨W4,hr,I4⟩:=fin (some .ret) h2 s2 X2 _ I3;exact⟨_,_,hr,.inr ⟨rfl,.ret,h2,s2,(g1.trans gl1).trans gl2,(by rw[hrec] at I4;exact I4),hj2⟩⟩
  ·rintro ed W2 ⟨⟨v,rfl⟩,(⟨hg',gl,g1,s,I2,hj⟩|⟨c,hg',s,g1,I2,hj⟩)⟩
   ·refine⟨none,_,by have:=run_endLoop (P:=P) I2.getLoop (by rw[hrec];simp);rw[hrec] at this;exact this,?_⟩;have I3:=(I2.q8 {rec .ready none with state:=.exhausted}).u7;refine⟨h1,?_⟩;have hq:=hdone w.heap.size hg' s _ g1 (by rw[hrec] at I3;exact I3) hj;have hq':Q .normal (env a) (W2.putObj l (.loop {rec .ready none with state:=.exhausted})) (mark w.heap.size::a.defers):=by rw[h2];rw[hrec];exact hq
    rw[hrec] at hq';exact hq'
   ·refine⟨some c.code,_,by have:=run_endLoop (P:=P) I2.getLoop (by rw[hrec];simp);rw[hrec] at this;exact this,?_⟩;have I3:=(I2.q8 {rec .done (some c.code) with state:=.exhausted}).u7;have hq:=hstop w.heap.size c hg' s _ g1 (by rw[hrec] at I3;exact I3) hj;have hq':Q c.ex (env a) (W2.putObj l (.loop {rec .done (some c.code) with state:=.exhausted})) (mark w.heap.size::a.defers):=by rw[h2];rw[hrec];exact hq
    rw[hrec] at hq';cases c with
    |ret=>exact wpIn_ret ⟨h1,hq'⟩
    |exit id=>exact wpIn_exit ⟨h1,hq'⟩
    |goto t=>exact wpIn_goto ⟨h1,hq'⟩
theorem Aez{P:Program}{N l:Nat}{e:Env}{w:World}{Q:Exit→Env→World→Prop}{x:Code}{σ:Type}(kv:σ→List (Nat×Value))(J:σ→World→Prop)
  (hx:WPI P N l x e w (Fh (fun e' w'=>∃s,Has e' (kv s)∧J s w') Q)) (hy:∀s e' w',J s w'→Q .normal (E e' (kv s)) w'):WPI P N l x e w Q:=by
 refine hx.mono fun x e' w' h=>?_;cases x<;>first|exact h|skip;obtain⟨s,h1,h2⟩:=h;have:=hy s e' w' h2;rwa [C9 h1] at this
section
variable {P:Program}{e:Env}{w:World}{B:Aq}{h:Ae}{M:List SA}{d:Option Nat}{t:TypeId}{pos:String}{af:Array Edge}{g:Option (Nat×Bool)}{K:Value→World→Prop}
theorem AdS{T el bytes n:Nat}{z zc:Value}{x y:Operand}{k k':IntKind}(I:Inv B h M w)(hT:Und P T (.slice el))(he:ElT P el 1 bytes z)(hzc:z.cells=#[zc])(hx:ev e x=.int k (n:Int))(hy:ev e y=.int k' (n:Int))(hb:bytes*n≤140737488355328)(hn:n≤140737488355328)
  (kk:∀b w',Inv B h (TF.box b (List.replicate n zc) el::M) w'→K (.slice (some ⟨b,0,none⟩) n n) w'):Op1 P ⟨d,.makeSlice T x y,t,pos,af,g⟩ e w K:=by
 obtain⟨i,hi,hz,hs,hby⟩:∃i,P.info? el=some i∧i.zero=some z∧i.size=1∧i.bytes=bytes:=by
  have:=he.info;cases h:P.info? el with
  |none=>simp[h] at this
  |some i=>simp[h] at this;exact⟨i,rfl,this.1,this.2.1,this.2.2⟩
 have hb':(i.bytes:Int)*(n:Int)≤281474976710656:=by
  have h:((i.bytes*n:Nat):Int)≤281474976710656:=by rw[hby];omega
  rwa [Int.natCast_mul] at h
 have hr:=run_make (P:=P) w T el i z hT hi hz k k' n n (by omega) (Ahh _) hb' (by omega);have hc:madeCells z.cells ((n:Int).toNat*i.size)=(List.replicate n zc).toArray:=by
  rw[hs,hzc];apply Array.ext';simp[madeCells,Nat.mod_one];apply List.ext_getElem<;>simp
 rw[hc] at hr;simp only[Afs] at hr;have:(execOp (ev e) ⟨d,.makeSlice T x y,t,pos,af,g⟩).run P w=.ok (.value (.slice (some ⟨w.heap.size,0,none⟩) n n)) (w.alloc (.cells (List.replicate n zc).toArray el)):=by
  simp[execOp,hx,hy,hr]
 unfold Op1;rw[this];exact kk _ _ (I.alloc _ _)
theorem R3{α:Type}(f:α→Value)(L:List α)(i:Nat)(v:α)(hi:i<L.length):CB (L.map f) i [f v]=(L.set i v).map f:=by
 rw[Dp _ _ _ (by simp;omega),List.map_set];apply Ago;intro j;simp only[List.getElem?_append,Ae2,Afj,Afw,Ae6,Afc,AfF,Af9,Ahe,Ags (AhW hi)];by_cases h1:j<i
 ·simp[h1,show j<i+1 by omega,show i≠j by omega]
 ·by_cases h2:j=i
  ·subst h2;simp[hi]
  ·simp[show ¬j<i+1 by omega,show i≠j by omega,show i+1+(j-(i+1))=j by omega]
theorem AcQ{T T':TypeId}{a x:Operand}{b o:Nat}{α:Type}{f:α→Value}{L:List α}{i:Nat}{v:α}(I:Inv B h M w)(hT:Ty P T 1 false)(n:Nat)(hn:M[n]?=some (TF.box b (L.map f) T'))(ha:ev e a=.pointer (some ⟨b,o,none⟩))(ho:o=i)(hi:i<L.length)(hx:ev e x=f v)
  (hc:(f v).cells=#[f v]) (h1:(f v).oneCell'=true) (k:∀w',Inv B h (M.set n (TF.box b ((L.set i v).map f) T')) w'→K undef w'):Op1 P ⟨d,.store T a x,t,pos,af,g⟩ e w K:=by
 subst ho;exact Ab3 I hT n hn ha hx (vs:=[f v]) hc rfl (by simp[AJ,h1]) (by simp;omega) (R3 f L o v hi) k
theorem Inv.w9{b T:Nat}{α:Type}{f:α→Value}{L:List α}{i:Nat}{v:α}(I:Inv B h M w)(n:Nat)(hn:M[n]?=some (box b (L.map f) T)){o:Nat}(ho:o=i)(hi:L[i]?=some v):Rd w b o [f v]:=fun j u e=>by
 subst ho;have hb:w.heap[b]?=some (.cells (L.map f).toArray T (0,0)):=I.at n hn;cases j with
 |zero=>simp at e;subst e;simp[World.cell?,hb,hi]
 |succ j=>simp at e
end
end
section
section
variable {P:Program}{e:Env}{w:World}{B:Aq}{h:Ae}{M:List SA}{d:Option Nat}{t:TypeId}{pos:String}{af:Array Edge}{g:Option (Nat×Bool)}{K:Value→World→Prop}
theorem AeQ{T el k n:Nat}{parts:Array (Nat×Operand)}{z:Value}{cs:List Value}(I:Inv B h M w)(hT:Und P T (.slice el))(hk:∀w,(sizeOf el).run P w=.ok k w)(hz:Pj P el z)(hs:n*k≤16777216)(h0:n*k≠0)
  (hf:MU (fun i=>some (i*k,k)) ((List.range (n*k)).map fun i=>(Ca z)[i % k]!) (parts.toList.map fun (i,x)=>(i,ev e x))=some cs) (hzc:(Ca z).length=k)
  (kk:∀b w',Inv B h (TF.box b cs el::M) w'→K (.slice (some ⟨b,0,none⟩) n n) w') :
  Op1 P ⟨d,.buildSlice T n parts,t,pos,af,g⟩ e w K:=by
 have h3:(parts.map fun (i,x)=>(i,ev e x)).toList=parts.toList.map fun (i,x)=>(i,ev e x):=by simp
 have h4:=Jb (fun i=>some (i*k,k)) (parts.toList.map fun (i,x)=>(i,ev e x)) ((List.range (n*k)).map fun i=>(Ca z)[i % k]!);rw[hf] at h4;have hrun:(execOp (ev e) ⟨d,.buildSlice T n parts,t,pos,af,g⟩).run P w=.ok (.value (.slice (some ⟨w.heap.size,0,none⟩) n n)) (w.alloc (.cells cs.toArray el)):=by
  have hs':¬(n*k>2 ^ 24):=by simp;omega
  simp only[execOp,Instr.buildSlice,Sem.run_bind,run_underlying hT,Result.andThen_ok,hk w,h3,if_neg hs',if_neg h0,hz w];have h5:(Array.map (fun x=>z.cells[x % z.cells.size]!) (Array.range (n*k)))=((List.range (n*k)).map fun i=>(Ca z)[i % k]!).toArray:=by
   apply Array.ext';simp[GZ z,hzc]
  simp only[Sem.run_pure,Result.andThen_ok];rw[h5,h4];simp[newRow]
 unfold Op1;rw[hrun];exact kk _ _ (I.gain (A:=TF.box w.heap.size cs el) (CZ.alloc w _) (heap_alloc_new w _) (fun b hb=>by simp[TF.box] at hb;subst hb;simp))
end
def sit(b:Nat)(s:ByteArray)(i:Nat):SA where
 fp:=[b]
 P:=fun w=>w.heap[b]?=some (.stringIter s i)
 loc:=fun _ _ h hp=>(h b (by simp)).trans hp
section
variable {P:Program}{e:Env}{w:World}{B:Aq}{h:Ae}{M:List SA}{d:Option Nat}{t:TypeId}{pos:String}{af:Array Edge}{g:Option (Nat×Bool)}{K:Value→World→Prop}
theorem AeA{T:Nat}{x:Operand}{s:ByteArray}(I:Inv B h M w)(hT:Und P T .string)(hx:ev e x=.string s)(kk:∀b w',Inv B h (sit b s 0::M) w'→K ((Pt b)) w') :
  Op1 P ⟨d,.range T x,t,pos,af,g⟩ e w K:=by
 have:(execOp (ev e) ⟨d,.range T x,t,pos,af,g⟩).run P w=.ok (.value (.pointer (some ⟨w.heap.size,0,none⟩))) (w.iter s 0):=by
  simp[execOp,hx,run_range_string w T s hT]
 unfold Op1;rw[this];exact kk _ _ (I.gain (A:=sit w.heap.size s 0) (CZ.alloc w _) (World.iter_heap w s 0) (fun b hb=>by simp[sit] at hb;subst hb;simp[World.iter]))
theorem AeR{x:Operand}{b i:Nat}{s:ByteArray}(I:Inv B h M w)(n:Nat)(hn:M[n]?=some (sit b s i))(hx:ev e x=(Pt b))
  (k0:¬i<s.size→K (.tuple #[.bool false]) w)
  (k1:i<s.size→∀w',Inv B h (M.set n (sit b s (i+(Utf8.decode s i).2))) w'→K (.tuple #[.bool true,.int .i64 i,.int .i32 (Utf8.decode s i).1]) w') :
  Op1 P ⟨d,.next x true,t,pos,af,g⟩ e w K:=by
 have hb:w.heap[b]?=some (.stringIter s i):=I.at n hn;have hg:(getObj b).run P w=.ok (.stringIter s i) w:=BY hb (by intro c t f h;cases h);have hset:=fun o=>Ee (P:=P) (o':=o) hb (by intro c t f h;cases h);unfold Op1;by_cases hlt:i<s.size
 ·have hrun:(execOp (ev e) ⟨d,.next x true,t,pos,af,g⟩).run P w=.ok (.value (.tuple #[.bool true,.int .i64 i,.int .i32 (Utf8.decode s i).1])) {w with heap:=w.heap.setIfInBounds b (.stringIter s (i+(Utf8.decode s i).2))}:=by
   simp[execOp,hx,Instr.next,hg,hlt,hset,goInt]
  rw[hrun];exact k1 hlt _ (I.setObj n hn rfl rfl fun w' hw'=>hw')
 ·have hrun:(execOp (ev e) ⟨d,.next x true,t,pos,af,g⟩).run P w=.ok (.value (.tuple #[.bool false])) w:=by
   simp[execOp,hx,Instr.next,hg,hlt]
  rw[hrun];exact k0 hlt
end
end
section
theorem Fk(a b:ByteArray):(a == b)=decide (a=b):=by
 rw[beq_toListBytes,ByteArray.toList_eq,ByteArray.toList_eq];by_cases h:a=b
 ·subst h;simp
 ·rw[decide_eq_false h,beq_eq_false_iff_ne];intro e;exact h (by obtain⟨⟨x⟩⟩:=a;obtain⟨⟨y⟩⟩:=b;simp at e;subst e;rfl)
def sV(p:ByteArray×Int):Value×Value:=(.string p.1,.int .i64 p.2)
def HS(ents:List MapEntry)(es:List (ByteArray×Int)):Prop:=ents.map (fun e=>(e.key,e.val))=es.map sV
def Dj:List (ByteArray×Int)→ByteArray→Option Int
 |[],_=>none
 |(k,v)::r,x=>if x=k then some v else Dj r x
def sset:List (ByteArray×Int)→ByteArray→Int→List (ByteArray×Int)
 |[],x,v=>[(x,v)]
 |(k,w)::r,x,v=>if x=k then (x,v)::r else (k,w)::sset r x v
theorem KS(es:List (ByteArray×Int))(x y:ByteArray)(v:Int):Dj (sset es x v) y=if y=x then some v else Dj es y:=by
 induction es with
 |nil=>simp[sset,Dj]
 |cons p r ih=>
  obtain⟨k,w⟩:=p;simp only[sset];split
  ·rename_i h;subst h;simp only[Dj];split<;>simp_all
  ·rename_i h;simp only[Dj,ih];split<;>split<;>simp_all
theorem EN{x:ByteArray}:∀(ents:List MapEntry) (es:List (ByteArray×Int)) (i:Nat),HS ents es→Dj es x=none→Instr.findNow .string (.string x) ents i=some none
 |[],_,_,_,_=>rfl
 |e::r,[],_,h,_=>by simp[HS] at h
 |e::r,(a,b)::s,i,h,hl=>by
  simp only[HS,AfQ,List.cons.injEq] at h;simp only[Dj] at hl;split at hl
  ·cases hl
  ·rename_i hx;have h1:e.key=.string a:=(Prod.mk.inj h.1).1;have:(x == a)=false:=by rw[Fk];simpa using hx
   simp only[Instr.findNow,h1,Instr.sameNow,this];exact EN r s (i+1) h.2 hl
theorem EO{x:ByteArray}{v:Int}:∀(ents:List MapEntry) (es:List (ByteArray×Int)) (i:Nat),HS ents es→Dj es x=some v→
  ∃j,j<ents.length∧Instr.findNow .string (.string x) ents i=some (some (i+j,.int .i64 v))∧((ents[j]?).map (·.key))=some (.string x)∧∀v',HS (ents.modify j fun e=>{e with key:=.string x,val:=.int .i64 v'}) (sset es x v')
 |[],[],_,_,hl=>by simp[Dj] at hl
 |[],_::_,_,h,_=>by simp[HS] at h
 |e::r,[],_,h,_=>by simp[HS] at h
 |e::r,(a,b)::s,i,h,hl=>by
  simp only[HS,AfQ,List.cons.injEq] at h;have h1:e.key=.string a:=(Prod.mk.inj h.1).1;have h2:e.val=.int .i64 b:=(Prod.mk.inj h.1).2;simp only[Dj] at hl;split at hl
  ·rename_i hx;subst hx;cases hl;refine⟨0,by simp,by simp[Instr.findNow,h1,Instr.sameNow,h2,Fk],by simp[h1],fun v'=>?_⟩;simp[HS,sset,sV];exact h.2
  ·rename_i hx;obtain⟨j,hj,hf,hk,hm⟩:=EO r s (i+1) h.2 hl;refine⟨j+1,by simpa using hj,?_,by simpa using hk,fun v'=>?_⟩
   ·have:(x == a)=false:=by rw[Fk];simpa using hx
    simp only[Instr.findNow,h1,Instr.sameNow,this,hf];rw[show i+(j+1)=i+1+j by omega]
   ·simp only[HS,AhV,sset,if_neg hx,AfQ,List.cons.injEq];exact⟨h.1,hm v'⟩
theorem Il{P:Program}{w:World}{em:Bool}{n:Nat}{T:TypeId}{x:ByteArray}(hT:Und P T .string):(Instr.checkKey em (n+1) T (.string x)).run P w=.ok () w:=by
 simp[Instr.checkKey,run_underlying hT]
structure Aa2(ents:List MapEntry)(clock:Nat)(es:List (ByteArray×Int)):Prop where
 is:HS ents es
 nodup:(ents.map (·.born)).Nodup
 lt:∀e∈ents,e.born<clock
def Xf(b:Nat)(es:List (ByteArray×Int)):SA where
 fp:=[b]
 P:=fun w=>∃ents clock,w.heap[b]?=some (.map ents.toArray clock)∧Aa2 ents clock es
 loc:=by
  intro w w' h hp
  obtain⟨ents,clock,h1,h2⟩:=hp
  exact⟨ents,clock,(h b (by simp)).trans h1,h2⟩
section
variable {P:Program}{e:Env}{w:World}{B:Aq}{h:Ae}{M:List SA}{t:TypeId}{pos:String}{af:Array Edge}{g:Option (Nat×Bool)}{d:Option Nat}{K:Value→World→Prop}
theorem AeB{T:TypeId}(I:Inv B h M w)(k:∀b w',Inv B h (Xf b []::M) w'→K (.map (some b)) w'):Op1 P ⟨d,.makeMap T none,t,pos,af,g⟩ e w K:=by
 have:(execOp (ev e) ⟨d,.makeMap T none,t,pos,af,g⟩).run P w=.ok (.value (.map (some w.heap.size))) (w.alloc (.map #[] 0)):=by
  simp[execOp,Instr.makeMap]
 unfold Op1;rw[this];refine k _ _ (I.gain (CZ.alloc w _) ⟨[],0,heap_alloc_new w _,rfl,List.Pairwise.nil,fun _ h=>by cases h⟩ (fun b hb=>?_));simp[Xf] at hb;subst hb;simp
theorem Oy{T Kt Vt:TypeId}{m:Nat}{ents:List MapEntry}{clock:Nat}{es:List (ByteArray×Int)}{x:ByteArray}(hT:Und P T (.map Kt Vt))(hK:Und P Kt .string)(hz:Pj P Vt (.int .i64 0))(hm:w.heap[m]?=some (.map ents.toArray clock))(hi:HS ents es) :
  (Instr.lookup T (.map (some m)) (.string x) false).run P w=.ok (.int .i64 ((Dj es x).getD 0)) w:=by
 have hg:(getObj m).run P w=.ok (.map ents.toArray clock) w:=BY hm (by intro c t f h;cases h);have hck:∀em,(Instr.checkKey em 10000 Kt (.string x)).run P w=.ok () w:=fun em=>Il (n:=9999) hK;cases hl:Dj es x with
 |none=>
  have hf:=EN ents es 0 hi hl;simp[Instr.lookup,run_underlying hT,hg,hck,Instr.findKey,run_underlying hK,hf,hz w]
 |some v=>
  obtain⟨j,_,hf,_⟩:=EO ents es 0 hi hl;simp[Instr.lookup,run_underlying hT,hg,hck,Instr.findKey,run_underlying hK,hf]
theorem AdO{T Kt Vt:TypeId}{b:Nat}{es:List (ByteArray×Int)}{x y:Operand}{i:ByteArray}(I:Inv B h M w)(hT:Und P T (.map Kt Vt))(hK:Und P Kt .string)(hz:Pj P Vt (.int .i64 0))(n:Nat)(hn:M[n]?=some (Xf b es))(hx:ev e x=.map (some b))(hy:ev e y=.string i) :
  Y P ⟨d,.lookup T x y false,t,pos,af,g⟩ e w (.int .i64 ((Dj es i).getD 0)):=by
 obtain⟨ents,clock,h1,h2⟩:=I.at n hn;simp[Y,execOp,hx,hy,Oy hT hK hz h1 h2.is]
theorem Aeo{T Kt Vt:TypeId}{b:Nat}{es:List (ByteArray×Int)}{x y z:Operand}{i:ByteArray}{v:Int}(I:Inv B h M w)(hT:Und P T (.map Kt Vt))(hK:Und P Kt .string)(n:Nat)(hn:M[n]?=some (Xf b es))(hx:ev e x=.map (some b))(hy:ev e y=.string i)(hz:ev e z=.int .i64 v)
  (k:∀w',Inv B h (M.set n (Xf b (sset es i v))) w'→K undef w'):Op1 P ⟨d,.mapUpdate T x y z,t,pos,af,g⟩ e w K:=by
 obtain⟨ents,clock,h1,h2⟩:=I.at n hn;have hg:(getObj b).run P w=.ok (.map ents.toArray clock) w:=BY h1 (by intro c t f h;cases h);have hck:∀em,(Instr.checkKey em 10000 Kt (.string i)).run P w=.ok () w:=fun em=>Il (n:=9999) hK;have hset:∀o,(Go.setObj b o).run P w=.ok () {w with heap:=w.heap.setIfInBounds b o}:=fun o=>Ee h1 (by intro c t f h;cases h);cases hl:Dj es i with
 |none=>
  have hf:=EN ents es 0 h2.is hl;have hrun:(execOp (ev e) ⟨d,.mapUpdate T x y z,t,pos,af,g⟩).run P w=.ok .skip {w with heap:=w.heap.setIfInBounds b (.map (ents++[({key:=.string i,val:=.int .i64 v,born:=clock}:MapEntry)]).toArray (clock+1))}:=by
   simp[execOp,hx,hy,hz,Instr.mapUpdate,run_underlying hT,hg,hck,Instr.findKey,run_underlying hK,hf,hset]
  unfold Op1;rw[hrun];refine k _ (I.setObj n hn rfl rfl fun w' hw'=>⟨_,_,hw',?_,?_,?_⟩)
  ·have:sset es i v=es++[(i,v)]:=by
    clear hf h1 h2 hg hset hn k;induction es with
    |nil=>rfl
    |cons p r ih=>
     obtain⟨a,c⟩:=p;simp only[Dj] at hl;split at hl
     ·cases hl
     ·rename_i hne;simp[sset,hne,ih hl]
   rw[this];unfold HS;rw[AfM,AfM,h2.is];rfl
  ·rw[AfM,List.nodup_append];refine⟨h2.nodup,by simp,fun a ha c hc=>?_⟩;simp at hc;subst hc;obtain⟨q,hq,rfl⟩:=AfE.1 ha;have:=h2.lt q hq;omega
  ·intro q hq;rcases Afu.1 hq with hq|hq
   ·have:=h2.lt q hq;omega
   ·simp at hq;subst hq;simp
 |some v0=>
  obtain⟨j,hj,hf,hk,hm⟩:=EO ents es 0 h2.is hl;have hrun:(execOp (ev e) ⟨d,.mapUpdate T x y z,t,pos,af,g⟩).run P w=.ok .skip {w with heap:=w.heap.setIfInBounds b (.map (ents.modify j fun e=>{e with key:=.string i,val:=.int .i64 v}).toArray clock)}:=by
   have hk':ents[j]?.map (·.key)=some (.string i):=hk;cases hgt:ents[j]? with
   |none=>simp[hgt] at hk'
   |some q=>
    simp only[hgt,Agf,Option.some.injEq] at hk';simp[execOp,hx,hy,hz,Instr.mapUpdate,run_underlying hT,hg,hck,Instr.findKey,run_underlying hK,hf,hset,hgt,hk',Instr.keyThatStays,Instr.sameBits,Fk]
  unfold Op1;rw[hrun];refine k _ (I.setObj n hn rfl rfl fun w' hw'=>⟨_,_,hw',hm v,?_,?_⟩)
  ·have:(ents.modify j fun e=>{e with key:=.string i,val:=.int .i64 v}).map (·.born)=ents.map (·.born):=by
    apply Ago;intro q;simp only[AfI,AgZ];cases ents[q]?<;>simp;split<;>rfl
   rw[this];exact h2.nodup
  ·intro q hq;obtain⟨p,hp⟩:=AgU.1 hq;rw[AgZ] at hp;cases hgp:ents[p]? with
   |none=>simp[hgp] at hp
   |some c=>
    have:=h2.lt c (Afk hgp);simp only[hgp] at hp;cases hp;split<;>exact this
theorem Adm{x:Operand}{f:FuncId}{fs cs:List Value}{args:Array Operand}{ts:Array TypeId}{vs:List Value}{R:Ending→World→Prop}(hf:BE P f)
  (hx:ev e x=.func (.func f) fs.toArray cs.toArray) (hc:Calls P f vs.toArray w R) (ha:fs++args.toList.map (ev e)++cs=vs) (k:∀ed w',R ed w'→∃v,ed=.returned v∧K v w') :
  Op1 P ⟨d,.call {callee:=.value x,args:=args,argTypes:=ts},t,pos,af,g⟩ e w K:=by
 have ha':fs.toArray++args.map (ev e)++cs.toArray=vs.toArray:=by rw[←ha];apply Array.ext';simp
 have:(execOp (ev e) ⟨d,.call {callee:=.value x,args:=args,argTypes:=ts},t,pos,af,g⟩).run P w=.ok (.enter f vs.toArray) w:=by
  simp only[execOp,resolve,hx,Deferred.ofValue];simp[invoke,ha',hf]
 unfold Op1;rw[this];refine Calls.mono hc ?_;rintro ed w' h;obtain⟨v,rfl,hk⟩:=k ed w' h;exact hk
theorem Ace{f:FuncId}{args:Array Operand}{ts:Array TypeId}{vs:List Value}{R:Ending→World→Prop}(hf:BE P f)(hc:Calls P f vs.toArray w R)
  (ha:args.toList.map (ev e)=vs) (k:∀ed w',R ed w'→∃v,ed=.returned v∧K v w'):Op1 P ⟨d,.call {callee:=.value (.func f),args:=args,argTypes:=ts},t,pos,af,g⟩ e w K:=by
 have ha':args.map (ev e)=vs.toArray:=by rw[←ha];apply Array.ext';simp
 have:(execOp (ev e) ⟨d,.call {callee:=.value (.func f),args:=args,argTypes:=ts},t,pos,af,g⟩).run P w=.ok (.enter f vs.toArray) w:=by
  simp[execOp,resolve,ev,Deferred.ofValue,invoke,ha',hf]
 unfold Op1;rw[this];refine Calls.mono hc ?_;rintro ed w' h;obtain⟨v,rfl,hk⟩:=k ed w' h;exact hk
end
theorem Oz{α:Type}{enc:α→List Value}{k:Nat}(hk:∀x,(enc x).length=k)(hk0:0<k):∀(xs:List α) (j:Nat) (v:Value),(xs.flatMap enc)[j]?=some v→∃x,xs[j / k]?=some x∧(enc x)[j % k]?=some v
 |[],j,v,h=>by simp at h
 |x::xs,j,v,h=>by
  simp only[AfK] at h;by_cases hj:j<k
  ·rw[AfU (by rw[hk];exact hj)] at h;exact⟨x,by rw[Nat.div_eq_of_lt hj];rfl,by rw[Nat.mod_eq_of_lt hj];exact h⟩
  ·rw[Af5 (by rw[hk];omega),hk] at h;obtain⟨y,h1,h2⟩:=Oz hk hk0 xs (j-k) v h;have e1:j / k=(j-k) / k+1:=by rw[Nat.div_eq_sub_div hk0 (by omega)]
   have e2:j % k=(j-k) % k:=by rw[Nat.mod_eq_sub_mod (by omega)]
   exact⟨y,by rw[e1];exact h1,by rw[e2];exact h2⟩
theorem IE{α:Type}{enc:α→List Value}{k:Nat}(hk:∀x,(enc x).length=k):∀(xs:List α) (i j:Nat) (x:α) (v:Value),xs[i]?=some x→(enc x)[j]?=some v→(xs.flatMap enc)[i*k+j]?=some v
 |[],i,j,x,v,h,_=>by simp at h
 |y::ys,i,j,x,v,h,hv=>by
  have hj:j<k:=by have:=(Ae9.1 hv).1;rw[hk] at this;exact this
  simp only[AfK];cases i with
  |zero=>
   simp at h;subst h;rw[AfU (by rw[hk];omega)];simpa using hv
  |succ i=>
   rw[Af5 (by rw[hk,AfP];omega),hk,show(i+1)*k+j-k=i*k+j by rw[AfP];omega];exact IE hk ys i j x v (by simpa using h) hv
theorem Cr{α:Type}{enc:α→List Value}{k:Nat}(hk:∀x,(enc x).length=k)(xs:List α):(xs.flatMap enc).length=xs.length*k:=by
 induction xs with
 |nil=>simp
 |cons y ys ih=>simp only[AfK,Ae2,hk,ih,Ae6,AfP];omega
theorem Aat{α:Type}{enc:α→List Value}{k b c:Nat}{xs:List α}{cs:Array Value}{T:TypeId}{f:Nat×Nat}{h:Ae}(hk:∀x,(enc x).length=k)(hb:h b=some (.cells cs T f))(hp:∀(j:Nat) (v:Value),(xs.flatMap enc)[j]?=some v→cs[j]?=some v):(⟨some ⟨b,0,none⟩,c,xs⟩:Sl α).In k enc h:=fun i x hx=>
 ⟨rfl,fun j v hv=>by
  simp only[Ae.cell,Sl.blk,Sl.off,Aga,hb,Agg];exact hp _ _ (IE hk xs i j x v hx hv)⟩
theorem Sl.In.flat{α:Type}{s:Sl α}{k:Nat}{enc:α→List Value}{h:Ae}(hs:s.In k enc h)(hk:∀x,(enc x).length=k)(hk0:0<k):RdH h s.blk s.off (s.xs.flatMap enc):=fun j v hv=>by
 obtain⟨x,h1,h2⟩:=Oz hk hk0 s.xs j v hv;have:=(hs _ _ h1).2 _ _ h2;rw[Ahw,Nat.mul_comm,Nat.div_add_mod] at this;exact this
section
variable {P:Program}{e:Env}{w:World}{B:Aq}{h:Ae}{M:List SA}{t:TypeId}{pos:String}{af:Array Edge}{g:Option (Nat×Bool)}{d:Option Nat}{K:Value→World→Prop}
end
end
section
def Di{α:Type}(el k:Nat)(s:Sl α)(enc:α→List Value)(h0 h:Ae):Prop:=
 s=⟨none,0,[]⟩∨∃g cur,s.at_=some ⟨g,0,none⟩∧h0 g=none∧h g=some (.cells cur el (0,0))∧s.xs.length≤s.cap∧s.cap≤maxLen∧cur.size=s.cap*k∧cur.toList.take (s.xs.length*k)=s.xs.flatMap enc
section
variable {α:Type}{el k:Nat}{s:Sl α}{enc:α→List Value}{h0 h h':Ae}
theorem Di.le(o:Di el k s enc h0 h)(hl:h.le h'):Di el k s enc h0 h':=by
 rcases o with o|⟨g,cur,h1,h2,h3,h4⟩
 ·exact .inl o
 ·exact .inr ⟨g,cur,h1,h2,hl _ _ h3,h4⟩
theorem Di.older{h1:Ae}(o:Di el k s enc h0 h)(hl:h1.le h0):Di el k s enc h1 h:=by
 rcases o with o|⟨g,cur,k1,k2,k3⟩
 ·exact .inl o
 ·refine .inr ⟨g,cur,k1,?_,k3⟩;cases e:h1 g with
  |none=>rfl
  |some x=>rw[hl _ _ e] at k2;cases k2
theorem Di.in(o:Di el k s enc h0 h)(hk:∀x,(enc x).length=k):s.In k enc h:=by
 rcases o with rfl|⟨g,cur,h1,_,h3,_,_,_,h7⟩
 ·exact fun i x hx=>by simp at hx
 ·obtain⟨a,c,xs⟩:=s;simp only at h1 h7;subst h1;refine Aat hk h3 fun j v hv=>?_;rw[←h7,AfF] at hv;split at hv
  ·simpa using hv
  ·cases hv
theorem AcH{h1 h:Ae}(g:Nat)(hl:h1.le h)(hg:h1 g=none):h1.le (fun b=>if b=g then none else h b):=fun b o hb=>by
 have:b≠g:=fun e=>by rw[e,hg] at hb;cases hb
 simp only[this,if_false];exact hl b o hb
theorem Inv.x9{B:Aq}{M:List SA}{w:World}(I:Inv B h M w)(o:Di el k s enc h0 h)(hB:B.h.le h0) :
  ∃h',Inv B h' (Ao el k s.val s.xs.length (s.xs.flatMap enc)::M) w∧(∀h1:Ae,h1.le h→h1.le h0→h1.le h')∧(∀b x,h b=some x→h' b=some x∨s.at_=some ⟨b,0,none⟩):=by
 rcases o with rfl|⟨g,cur,h1,h2,h3,h4,h5,h6,h7⟩
 ·exact⟨h,I.l9 el k,fun h1 hl _=>hl,fun b x hb=>.inl hb⟩
 ·have hBg:B.h g=none:=by
   cases e:B.h g with
   |none=>rfl
   |some x=>rw[hB _ _ e] at h2;cases h2
  have hsz:B.w.heap.size≤g:=by
   rcases I.new g _ h3 with h|h
   ·rw[hBg] at h;cases h
   ·exact h
  have hval:s.val=.slice (some ⟨g,0,none⟩) s.xs.length s.cap:=by simp only[Sl.val,h1]
  have hlen:(s.xs.flatMap enc).length=s.xs.length*k:=by
   rw[←h7,Afj,Af2,h6];exact Ags (AfA k h4)
  refine⟨fun b=>if b=g then none else h b,⟨I.below,fun b o hb=>AcH g I.ext hBg b o hb,fun b o hb=>?_,fun b o hb=>?_,fun A hA=>?_,AfB.2 ⟨fun C hC b hb hbC=>?_,I.apart⟩⟩,fun h1 hl hl0=>AcH g hl ?_,fun b x hb=>?_⟩
  ·by_cases e:b=g
   ·simp[e] at hb
   ·simp only[e,if_false] at hb;exact I.new b o hb
  ·by_cases e:b=g
   ·simp[e] at hb
   ·simp only[e,if_false] at hb;exact I.imm b o hb
  ·rcases Afq.1 hA with rfl|hA
   ·refine⟨?_,fun b hb=>?_⟩
    ·show w.ownsRow 0 el k s.val s.xs.length (s.xs.flatMap enc);rw[hval];exact⟨hlen,.inr ⟨g,s.cap,cur,rfl,Afa _,I.imm _ _ h3,h4,h5,h6,h7⟩⟩
    ·have:b=g:=by simpa[Ao,hval,Value.ownBlock] using hb
     subst this;exact⟨hsz,I.lt h3,by simp⟩
   ·obtain⟨p1,p2⟩:=I.own A hA;refine⟨p1,fun b hb=>?_⟩;obtain⟨q1,q2,q3⟩:=p2 b hb;refine⟨q1,q2,?_⟩;by_cases e:b=g
    ·simp[e]
    ·simp[e,q3]
  ·have:b=g:=by simpa[Ao,hval,Value.ownBlock] using hb
   subst this;have:=((I.own C hC).2 b hbC).2.2;rw[h3] at this;cases this
  ·cases e:h1 g with
   |none=>rfl
   |some x=>rw[hl0 _ _ e] at h2;cases h2
  ·by_cases e:b=g
   ·subst e;exact .inr h1
   ·exact .inl (by simp[e,hb])
theorem Inv.y5{B:Aq}{M:List SA}{w:World}{v:Value}{n:Nat}{xs:List α}(I:Inv B h (Ao el k v n (xs.flatMap enc)::M) w)(hn:n=xs.length) :
  ∃(h':Ae) (s:Sl α),h.le h'∧s.val=v∧s.xs=xs∧Di el k s enc h h'∧Inv B h' M w:=by
 subst hn;have hp:w.ownsRow 0 el k v xs.length (xs.flatMap enc):=(I.own _ (Ae7 ..)).1;have hfp0:=(I.own _ (Ae7 ..)).2;obtain⟨h',hle,hfp,I'⟩:=I.settle;rcases hp.2 with ⟨rfl,h0⟩|⟨g,cap,cur,rfl,_,hg,hnc,hcm,hcs,htake⟩
 ·have:xs=[]:=Agu h0;subst this;exact⟨h',⟨none,0,[]⟩,hle,rfl,rfl,.inl rfl,I'⟩
 ·have hm:g∈(Ao el k (.slice (some ⟨g,0,none⟩) xs.length cap) xs.length (xs.flatMap enc)).fp:=by simp[Ao,Value.ownBlock]
  exact⟨h',⟨some ⟨g,0,none⟩,cap,xs⟩,hle,rfl,rfl,.inr ⟨g,cur,rfl,(hfp0 g hm).2.2,(hfp g hm).trans hg,hnc,hcm,hcs,htake⟩,I'⟩
end
section
variable {P:Program}{e:Env}{w:World}{B:Aq}{h:Ae}{M:List SA}{t:TypeId}{pos:String}{af:Array Edge}{g:Option (Nat×Bool)}{d:Option Nat}{K:Value→World→Prop}
theorem AdD{α:Type}{T el k:Nat}(enc:α→List Value)(I:Inv B h M w)(hT:Und P T (.slice el))(hk:∀w,(sizeOf el).run P w=.ok k w)
  (kk:∀(s:Sl α) h' w',Inv B h' M w'→h.le h'→s.xs=[]→s.cap=0→(∃b,s.at_=some ⟨b,0,none⟩)→Di el k s enc h h'→K s.val w') :
  Op1 P ⟨d,.buildSlice T 0 #[],t,pos,af,g⟩ e w K:=by
 have hrun:(execOp (ev e) ⟨d,.buildSlice T 0 #[],t,pos,af,g⟩).run P w=.ok (.value (.slice (some ⟨w.heap.size,0,none⟩) 0 0)) (w.alloc (.cells #[] el)):=by
  have hd:¬((0:Nat)>2 ^ 24):=by decide
  simp only[execOp,Instr.buildSlice,Sem.run_bind,run_underlying hT,Result.andThen_ok,hk w,Ah5,if_neg hd,if_true,Sem.run_pure];have hr0:Array.range 0=#[]:=rfl;simp[newRow,Instr.fill,hr0]
 unfold Op1;rw[hrun];have hm:∀b∈(⟨[w.heap.size],fun w'=>w'.heap[w.heap.size]?=some (.cells #[] el (0,0)),fun _ _ hh hp=>(hh _ (by simp)).trans hp⟩:SA).fp,w.heap.size≤b∧b<(w.alloc (.cells #[] el)).heap.size:=fun b hb=>by simp at hb;subst hb;simp
 have J:=I.gain (A:=⟨[w.heap.size],fun w'=>w'.heap[w.heap.size]?=some (.cells #[] el (0,0)),fun _ _ hh hp=>(hh _ (by simp)).trans hp⟩) (w':=w.alloc (.cells #[] el)) (CZ.alloc _ _) (heap_alloc_new w _) hm;have hfr:=((J.own _ (Ae7 ..)).2 w.heap.size (by simp)).2.2;obtain⟨h',hle,hfp,J'⟩:=J.settle;have hb':h' w.heap.size=some (.cells #[] el (0,0)):=(hfp _ (by simp)).trans (heap_alloc_new w _);exact kk ⟨some ⟨w.heap.size,0,none⟩,0,[]⟩ h' _ J' hle rfl rfl ⟨_,rfl⟩ (.inr ⟨_,#[],rfl,hfr,hb',Afg _,Afa _,by simp,by simp⟩)
theorem E6{T ty el size:Nat}(hT:P.underlying T=some (.slice el))(hs:(sizeOf el).run P w=.ok size w)(b:Addr)(n c:Nat)(hnc:n≤c)(a:Option Addr)(c':Nat) :
  (Builtin.append_ #[T,T] ty #[.slice (some b) n c,.slice a 0 c']).run P w=.ok (.slice (some b) n c) w:=by
 cases a<;>simp[Builtin.append_,run_underlying hT,hs,Builtin.lenOf,hnc,Builtin.firstCells,storeCells,loadCells,loadCellsFrom]
theorem AcV{x:Operand}{S T:TypeId}{k k':IntKind}{n:Int}(hS:(P.underlying S).isSome=true)(hT:Und P T (.int k'))(hw:k'.wrap n=n)(hx:ev e x=.int k n):Y P ⟨d,.convert S T x,t,pos,af,g⟩ e w (.int k' n):=by
 obtain⟨d',hd'⟩:=Agt.mp hS;simp[Y,execOp,hx,convert,run_underlying hd',run_underlying hT,Conv.intToInt,hw]
theorem AeY{x y:Operand}{T T':TypeId}{k yk:IntKind}{a:Int}(h1:1≤k.bits)(hx:ev e x=.int k a)(hy:ev e y=.int yk 1):Y P ⟨d,.binOp .shr T x y T',t,pos,af,g⟩ e w (.int k (a / 2)):=by
 have hm:min 1 k.bits=1:=by omega
 simp[Y,execOp,hx,hy,eqGuard,binOp,Op.shift,hm,Int.fdiv_eq_ediv_of_nonneg]
theorem Va{n:Int}(h0:0≤n)(h1:n≤9223372036854775807):IntKind.u64.wrap n=n:=by
 have h64:IntKind.u64.bits=64:=rfl;have hs:IntKind.u64.signed=false:=rfl;unfold IntKind.wrap;simp only[h64,hs,AgO,show(2 ^ 64:Int)=18446744073709551616 from rfl,Afy,if_false];omega
theorem OA(d:Nat){T el:TypeId}{a:Option Addr}{n c:Nat}(hT:Und P T (.slice el)):(Op.equalIn (d+1) T (.slice a n c) (.slice none 0 0)).run P w=.ok a.isNone w:=by
 cases a<;>simp[Op.equalIn,run_underlying hT]
theorem AdT{x y:Operand}{T T' el:TypeId}{a:Option Addr}{n c:Nat}(hT:Und P T (.slice el))(hx:ev e x=.slice a n c)(hy:ev e y=.slice none 0 0):Y P ⟨d,.binOp .eql T x y T',t,pos,af,g⟩ e w (.bool a.isNone):=by
 have h1:∀w,(Op.equal T (.slice a n c) (.slice none 0 0)).run P w=.ok a.isNone w:=fun w=>OA 9999 hT;have h2:(binOp .eql T (.slice a n c) (.slice none 0 0)).run P w=.ok (.bool a.isNone) w:=by simp[binOp,h1]
 simp[Y,execOp,hx,hy,eqGuard,h2]
theorem AcP{α:Type}{T el k bytes:Nat}{z:Value}{x y:Operand}{s u:Sl α}{enc:α→List Value}{h0:Ae}(I:Inv B h M w)(hT:Und P T (.slice el))(he:ElT P el k bytes z)(hk:∀x,(enc x).length=k)(hs:Di el k s enc h0 h)(hl0:h0.le h)(hs0:s.xs=[])(hsc:s.cap=0)(hsa:∃b,s.at_=some ⟨b,0,none⟩)(hu:u.In k enc h)
  (hx:ev e x=s.val) (hy:ev e y=u.val) (hb:u.xs.length*bytes≤140737488355328) (h63:u.xs.length≤140737488355328)
  (kk:∀(r:Sl α) h' w',Inv B h' M w'→h.le h'→r.xs=u.xs→Di el k r enc h0 h'→(r.xs=[]→r.cap=0)→K r.val w') :
  Op1 P ⟨d,.call {callee:=.builtin .append,args:=#[x,y],argTypes:=#[T,T]},t,pos,af,g⟩ e w K:=by
 obtain⟨i,hi,hz,hsz,hby⟩:∃i,P.info? el=some i∧i.zero=some z∧i.size=k∧i.bytes=bytes:=by
  have:=he.info;cases h:P.info? el with
  |none=>simp[h] at this
  |some i=>simp[h] at this;exact⟨i,rfl,this.1,this.2.1,this.2.2⟩
 obtain⟨b,hsa⟩:=hsa;have hsv:s.val=.slice (some ⟨b,0,none⟩) 0 0:=by simp only[Sl.val,hsa,hs0,hsc,Afc]
 rw[hsv] at hx;by_cases hn:u.xs=[]
 ·have hrun:=E6 (P:=P) (w:=w) (T:=T) (ty:=t) (size:=k) hT (by simp[sizeOf,typeInfo,hi,hsz]) ⟨b,0,none⟩ 0 0 (Afg _) u.at_ u.cap;have hA:(execOp (ev e) ⟨d,.call {callee:=.builtin .append,args:=#[x,y],argTypes:=#[T,T]},t,pos,af,g⟩).run P w=.ok (.value (.slice (some ⟨b,0,none⟩) 0 0)) w:=by
   simp only[Sl.val,hn,Afc] at hy;simp[execOp,resolve,invoke,builtin,hx,hy,hrun]
  unfold Op1;rw[hA];have:=kk s h w I (Ae.le.refl _) (hs0.trans hn.symm) hs (fun _=>hsc);rwa [hsv] at this
 ·have hpos:0<u.xs.length:=Af7.2 hn;have hua':=(hu 0 u.xs[0] (Ae4 hpos)).1;have hnews:∀j v,(u.xs.flatMap enc)[j]?=some v→w.cell? ((⟨u.blk,u.off,none⟩:Addr).add j)=some v:=fun j v hv=>by rw[BN];exact I.rd (hu.flat hk he.pos) j v hv
  have hrun:=run_append_grow (P:=P) w T t el i z hT hi hz ⟨b,0,none⟩ 0 0 [] (by simp) (fun j v hv=>by simp at hv) ⟨u.blk,u.off,none⟩ u.xs.length u.cap (u.xs.flatMap enc) (by rw[Cr hk,hsz]) hnews (by omega) (by omega) (growslice_fits (by omega) (by rw[hby];simpa using hb));have hA:(execOp (ev e) ⟨d,.call {callee:=.builtin .append,args:=#[x,y],argTypes:=#[T,T]},t,pos,af,g⟩).run P w=.ok (.value (.slice (some ⟨w.heap.size,0,none⟩) u.xs.length (grownCap w u.xs.length 0 el)))
    (w.drew.alloc (.cells ((u.xs.flatMap enc).toArray++Builtin.zeroCells z.cells (grownCap w u.xs.length 0 el-u.xs.length)) el)):=by
   simp only[Sl.val,hua'] at hy;simp[execOp,resolve,invoke,builtin,hx,hy,hrun]
  unfold Op1;rw[hA];have hge:=grownCap_ge w u.xs.length 0 el;have hcm:=grownCap_le_maxLen w u.xs.length 0 el (by simp only[maxLen];omega);obtain⟨cs,hcs⟩:∃cs:Array Value,cs=(u.xs.flatMap enc).toArray++Builtin.zeroCells z.cells (grownCap w u.xs.length 0 el-u.xs.length):=⟨_,rfl⟩;rw[←hcs];have hnew:=heap_alloc_new w.drew (.cells cs el);have J:=I.gain (A:=⟨[w.heap.size],fun w'=>w'.heap[w.heap.size]?=some (.cells cs el (0,0)),fun _ _ hh hp=>(hh _ (by simp)).trans hp⟩) (w':=w.drew.alloc (.cells cs el)) ((CZ.drew w).trans (CZ.alloc _ _)) hnew (fun b hb=>by simp at hb;subst hb;simp);have hfr:=((J.own _ (Ae7 ..)).2 w.heap.size (by simp)).2.2;obtain⟨h',hle,hfp,J'⟩:=J.settle;have hb':h' w.heap.size=some (.cells cs el (0,0)):=(hfp _ (by simp)).trans hnew;refine kk ⟨some ⟨w.heap.size,0,none⟩,grownCap w u.xs.length 0 el,u.xs⟩ h' _ J' hle rfl (Di.older (h0:=h) (.inr ⟨_,cs,rfl,hfr,hb',hge,hcm,?_,?_⟩) hl0) (fun e=>absurd e hn)
  ·rw[hcs];simp only[Ahf,Afx,size_zeroCells,he.cells,Cr hk,←AfP];congr 1;omega
  ·rw[hcs];simp only[AhA];rw[←Cr hk];exact Ag1
end
end
section
section
variable {P:Program}{e:Env}{w:World}{B:Aq}{h:Ae}{M:List SA}{t:TypeId}{pos:String}{af:Array Edge}{g:Option (Nat×Bool)}{d:Option Nat}{K:Value→World→Prop}
theorem AeZ{x:Operand}{T r:TypeId}{a:Option Addr}{n c:Nat}(hT:Und P T (.slice r))(hx:ev e x=.slice a n c) :
  Y P ⟨d,.call {callee:=.builtin .cap,args:=#[x],argTypes:=#[T]},t,pos,af,g⟩ e w (.int .i64 c):=by
 simp[Y,execOp,hx,resolve,invoke,builtin,Builtin.cap_,run_underlying hT,goInt]
theorem Aee{T el:TypeId}{x:Operand}{lo hi:Option Operand}(hT:Und P T (.slice el)){k:Nat}(hk:∀w,(sizeOf el).run P w=.ok k w)(hx:ev e x=.slice none 0 0)
  (hl:lo=none∨∃q k,lo=some q∧ev e q=.int k 0) (hh:hi=none∨∃q k,hi=some q∧ev e q=.int k 0):Y P ⟨d,.slice T x lo hi none,t,pos,af,g⟩ e w (.slice none 0 0):=by
 rcases hl with rfl|⟨q,k,rfl,hq⟩<;>rcases hh with rfl|⟨q',k',rfl,hq'⟩<;>
  simp_all [Y,execOp,Instr.sliceAt,Instr.slice,Instr.sliceBounds,Instr.sliceBound,run_underlying hT,asIntOf]
theorem HU{T ty el size:Nat}(hT:P.underlying T=some (.slice el))(hs:(sizeOf el).run P w=.ok size w)(c:Nat)(a:Option Addr)(c':Nat) :
  (Builtin.append_ #[T,T] ty #[.slice none 0 c,.slice a 0 c']).run P w=.ok (.slice none 0 c) w:=by
 cases a<;>simp[Builtin.append_,run_underlying hT,hs,Builtin.lenOf,Builtin.firstCells,loadCells,loadCellsFrom]
theorem ElT.info'{el k bytes:Nat}{z:Value}(he:ElT P el k bytes z):∃i,P.info? el=some i∧i.zero=some z∧i.size=k∧i.bytes=bytes:=by
 have:=he.info;cases h:P.info? el with
 |none=>simp[h] at this
 |some i=>simp[h] at this;exact⟨i,rfl,this.1,this.2.1,this.2.2⟩
theorem AdP{α:Type}{T el k bytes n:Nat}{z v:Value}{x y:Operand}{xs:List Value}{u:Sl α}{enc:α→List Value}(I:Inv B h M w)(hT:Und P T (.slice el))(he:ElT P el k bytes z)(n0:Nat)(hn:M[n0]?=some (Ao el k v n xs))(hk:∀x,(enc x).length=k)(h1:∀x,AJ (enc x)=true)(hu:u.In k enc h)
  (hx:ev e x=v) (hy:ev e y=u.val) (hb:(n+u.xs.length)*bytes≤140737488355328) (h63:n+u.xs.length≤140737488355328)
  (kk:∀v' w',Inv B h (M.set n0 (Ao el k v' (n+u.xs.length) (xs++u.xs.flatMap enc))) w'→K v' w') :
  Op1 P ⟨d,.call {callee:=.builtin .append,args:=#[x,y],argTypes:=#[T,T]},t,pos,af,g⟩ e w K:=by
 by_cases hnil:u.xs=[]
 ·obtain⟨i,hi,hz,hsz,hby⟩:=he.info';have hs:(sizeOf el).run P w=.ok k w:=by simp[sizeOf,typeInfo,hi,hsz]
  have hrun:(Builtin.append_ #[T,T] t #[v,u.val]).run P w=.ok v w:=by
   simp only[Sl.val,hnil,Afc];rcases(I.at n0 hn).2 with ⟨rfl,h0⟩|⟨gg,cap,cur,rfl,_,_,hnc,_⟩
   ·exact HU hT hs 0 u.at_ u.cap
   ·exact E6 hT hs _ _ _ hnc u.at_ u.cap
  have hA:(execOp (ev e) ⟨d,.call {callee:=.builtin .append,args:=#[x,y],argTypes:=#[T,T]},t,pos,af,g⟩).run P w=.ok (.value v) w:=by
   simp[execOp,resolve,invoke,builtin,hx,hy,hrun]
  unfold Op1;rw[hA];refine kk v w ?_;rw[hnil];have hM:M.set n0 (Ao el k v n xs)=M:=by
   obtain⟨hlt,he⟩:=Ae9.1 hn;rw[←he];exact Ahl _
  simpa[hM] using I
 ·have hpos:0<u.xs.length:=Af7.2 hnil;have hua:=(hu 0 u.xs[0] (Ae4 hpos)).1;have hy':ev e y=.slice (some ⟨u.blk,u.off,none⟩) u.xs.length u.cap:=by rw[hy];simp only[Sl.val];rw[←hua]
  refine Ab0 I hT he n0 hn hx hy' (I.rd (hu.flat hk he.pos)) (Cr hk _) ?_ hpos hb h63 fun gg cap w' I'=>kk _ w' I';simp only[AJ,AhQ];rw[Aff];intro x _;exact h1 x
theorem Inv.y7{el k gg n cap m:Nat}{xs:List Value}(I:Inv B h (Ao el k (.slice (some ⟨gg,0,none⟩) n cap) n xs::M) w)(hm:m≤n):Inv B h (Ao el k (.slice (some ⟨gg,0,none⟩) m cap) m (xs.take (m*k))::M) w:=by
 have hp:w.ownsRow 0 el k (.slice (some ⟨gg,0,none⟩) n cap) n xs:=(I.own _ (Ae7 ..)).1;have hfp:=(I.own _ (Ae7 ..)).2 gg (by simp[Ao,Value.ownBlock]);refine I.step rfl rfl rfl (Afg _) (fun _ _ _=>rfl) ?_ (fun b hb=>?_)
 ·rcases hp.2 with ⟨h0,_⟩|⟨g',cap',cur,he,hb,hg,hnc,hcm,hcs,ht⟩
  ·cases h0
  ·injection he with e1 e2 e3;injection e1 with e1;injection e1 with e1;subst e1;subst e3;have hmk:=AfA k hm;refine⟨by rw[Afj,hp.1];omega,.inr ⟨gg,cap,cur,rfl,hb,hg,by omega,hcm,hcs,?_⟩⟩;rw[←ht,Ah1,Ags hmk]
 ·have:b=gg:=by simpa[Ao,Value.ownBlock] using hb
  subst this;exact⟨.inl (by simp[Ao,Value.ownBlock]),hfp.2.1⟩
theorem Aep{T el k bytes gg n cap i j c o:Nat}{z:Value}{x y:Operand}{xs:List Value}(I:Inv B h (Ao el k (.slice (some ⟨gg,0,none⟩) n cap) n xs::M) w)(hT:Und P T (.slice el))(he:ElT P el k bytes z)(h1:AJ xs=true)(hij:i≤j)(hjn:j≤n)
  (hx:ev e x=.slice (some ⟨gg,0,none⟩) i cap) (hy:ev e y=.slice (some ⟨gg,o,none⟩) (n-j) c) (ho:o=j*k∨n=j)
  (kk:∀w',Inv B h (Ao el k (.slice (some ⟨gg,0,none⟩) (i+(n-j)) cap) (i+(n-j)) (xs.take (i*k)++xs.drop (j*k))::M) w'→K (.slice (some ⟨gg,0,none⟩) (i+(n-j)) cap) w') :
  Op1 P ⟨d,.call {callee:=.builtin .append,args:=#[x,y],argTypes:=#[T,T]},t,pos,af,g⟩ e w K:=by
 obtain⟨ii,hi,hz,hsz,hby⟩:=he.info';subst hsz;have hp:w.ownsRow 0 el ii.size (.slice (some ⟨gg,0,none⟩) n cap) n xs:=(I.own _ (Ae7 ..)).1;have hfp:=(I.own _ (Ae7 ..)).2 gg (by simp[Ao,Value.ownBlock]);rcases hp.2 with ⟨h0,_⟩|⟨g',cap',cur,he',hb,hg,hnc,hcm,hcs,ht⟩
 ·cases h0
 injection he' with e1 e2 e3;injection e1 with e1;injection e1 with e1;subst e1;subst e3;have hjk:j*ii.size≤n*ii.size:=AfA _ hjn;have hik:i*ii.size≤j*ii.size:=AfA _ hij;have hnk:n*ii.size≤cap*ii.size:=AfA _ hnc;have hl:(xs.drop (j*ii.size)).length=(n-j)*ii.size:=by rw[AfD,hp.1,Nat.sub_mul]
 have hnews:∀q u,(xs.drop (j*ii.size))[q]?=some u→w.cell? ((⟨gg,o,none⟩:Addr).add q)=some u:=fun q u hq=>by
  rw[Af9] at hq;have hlt:=(Ae9.1 hq).1;rw[hp.1] at hlt;rcases ho with rfl|rfl
  ·rw[BN];simp only[World.cell?,hg];rw[←ht,AfF] at hq;rw[if_pos (by omega)] at hq;simpa using hq
  ·omega
 have hone:∀u∈xs.drop (j*ii.size),u.oneCell'=true:=fun u hu=>by
  simp only[AJ,Aff] at h1;exact h1 u (List.mem_of_mem_drop hu)
 have hroom:i+(n-j)≤cap:=by omega
 have hfit:i*ii.size+(xs.drop (j*ii.size)).length≤cur.size:=by rw[hl,hcs,←AfP];exact AfA _ hroom
 have hr:=run_append_room (P:=P) w T t el ii hT hi gg i cap cur hg ⟨gg,o,none⟩ (n-j) c (xs.drop (j*ii.size)) hl hnews hone hroom hfit;have hA:(execOp (ev e) ⟨d,.call {callee:=.builtin .append,args:=#[x,y],argTypes:=#[T,T]},t,pos,af,g⟩).run P w=.ok (.value (.slice (some ⟨gg,0,none⟩) (i+(n-j)) cap)) (w.setRow gg (cur.toList.take (i*ii.size)++xs.drop (j*ii.size)++cur.toList.drop (i*ii.size+(xs.drop (j*ii.size)).length)).toArray):=by
  simp only[execOp,resolve,invoke,builtin,Sem.run_bind,Sem.run_pure,Result.andThen_ok,List.map_toArray,AfQ,AgT,hx,hy,hr]
 unfold Op1;rw[hA];have htk:cur.toList.take (i*ii.size)=xs.take (i*ii.size):=by rw[←ht,Ah1,Ags (by omega)]
 have hlen:(xs.take (i*ii.size)++xs.drop (j*ii.size)).length=(i+(n-j))*ii.size:=by
  rw[Ae2,hl,Afj,hp.1,AfP,Ags (by omega)]
 refine kk _ (I.step rfl rfl rfl (by simp) (fun b hb hnb=>setRow_other w gg b _ (fun e=>hnb (by simp[Ao,Value.ownBlock,e]))) ?_ (fun b hb=>?_))
 ·refine⟨hlen,.inr ⟨gg,cap,_,rfl,hb,setRow_heap w gg cur _ el _ hg,hroom,hcm,?_,?_⟩⟩
  ·simp only[Afx,Ae2,Afj,AfD,Af2,hp.1] at hfit hlen ⊢;rw[hcs] at hfit ⊢;omega
  ·rw[htk,←hlen];exact Ag1
 ·have:b=gg:=by simpa[Ao,Value.ownBlock] using hb
  subst this;exact⟨.inl (by simp[Ao,Value.ownBlock]),by simpa using hfp.2.1⟩
theorem AdE{T el k bytes gg n cap m o c:Nat}{z:Value}{x:Operand}{xs:List Value}(I:Inv B h (Ao el k (.slice (some ⟨gg,0,none⟩) n cap) n xs::M) w)(hT:Und P T (.slice el))(he:ElT P el k bytes z)(hz1:z.cells.all (fun v=>v.oneCell')=true)(hx:ev e x=.slice (some ⟨gg,o,none⟩) m c)(hm:0<m)(ho:o=n*k)(hmc:n+m≤cap)
  (kk:∀w',Inv B h (Ao el k (.slice (some ⟨gg,0,none⟩) n cap) n xs::M) w'→K (.tuple #[]) w') :
  Op1 P ⟨d,.call {callee:=.builtin .clear,args:=#[x],argTypes:=#[T]},t,pos,af,g⟩ e w K:=by
 obtain⟨ii,hi,hz,hsz,hby⟩:=he.info';subst hsz;subst ho;have hp:w.ownsRow 0 el ii.size (.slice (some ⟨gg,0,none⟩) n cap) n xs:=(I.own _ (Ae7 ..)).1;have hfp:=(I.own _ (Ae7 ..)).2 gg (by simp[Ao,Value.ownBlock]);rcases hp.2 with ⟨h0,_⟩|⟨g',cap',cur,he',hb,hg,hnc,hcm,hcs,ht⟩
 ·cases h0
 injection he' with e1 e2 e3;injection e1 with e1;injection e1 with e1;subst e1;subst e3;have hzl:(Builtin.zeroCells z.cells m).toList.length=m*ii.size:=by rw[Af2,size_zeroCells,he.cells]
 have hmk:(n+m)*ii.size≤cap*ii.size:=AfA _ hmc;rw[AfP] at hmk;have hone:∀v∈(Builtin.zeroCells z.cells m).toList,v.oneCell'=true:=fun v hv=>by
  simp only[Builtin.zeroCells,Array.toList_map,AfE] at hv;obtain⟨q,_,rfl⟩:=hv;have hlt:q % z.cells.size<z.cells.size:=Nat.mod_lt _ (by rw[he.cells];exact he.pos);rw[getElem!_pos z.cells _ hlt];rw[Array.all_eq_true] at hz1;exact hz1 _ hlt
 have hst:=run_storeCells_at P gg (n*ii.size) el (Builtin.zeroCells z.cells m).toList 0 cur w hg (by rw[hzl,hcs];omega) hone;simp only[AgS] at hst;have hA:(execOp (ev e) ⟨d,.call {callee:=.builtin .clear,args:=#[x],argTypes:=#[T]},t,pos,af,g⟩).run P w=.ok (.value (.tuple #[])) (w.setRow gg (cur.toList.take (n*ii.size)++(Builtin.zeroCells z.cells m).toList++cur.toList.drop (n*ii.size+(Builtin.zeroCells z.cells m).toList.length)).toArray):=by
  obtain⟨m',rfl⟩:∃m',m=m' + 1:=⟨m-1,by omega⟩;simp[execOp,resolve,invoke,builtin,hx,Builtin.clear_,run_underlying hT,zeroValue,typeInfo,hi,hz,hst]
 unfold Op1;rw[hA];refine kk _ (I.step rfl rfl rfl (by simp) (fun b hb hnb=>setRow_other w gg b _ (fun e=>hnb (by simp[Ao,Value.ownBlock,e]))) ?_ (fun b hb=>?_))
 ·refine⟨hp.1,.inr ⟨gg,cap,_,rfl,hb,setRow_heap w gg cur _ el _ hg,hnc,hcm,?_,?_⟩⟩
  ·simp only[Afx,Ae2,Afj,AfD,hzl,Af2,hcs];omega
  ·have hl:(cur.toList.take (n*ii.size)).length=n*ii.size:=by rw[ht,hp.1]
   rw[Afe,AhX hl,ht]
 ·have:b=gg:=by simpa[Ao,Value.ownBlock] using hb
  subst this;exact⟨.inl (by simp[Ao,Value.ownBlock]),by simpa using hfp.2.1⟩
end
end
section
def Im(xs:List Value)(o:Nat)(news:List Value):List Value:=xs.take o++news++xs.drop (o+news.length)
theorem Pm{xs news:List Value}{o:Nat}(h:o+news.length≤xs.length):(Im xs o news).length=xs.length:=by
 simp only[Im,Ae2,Afj,AfD];omega
theorem Jf(cur news:List Value)(o m:Nat)(h:o+news.length≤m)(hm:m≤cur.length):(cur.take o++news++cur.drop (o+news.length)).take m=Im (cur.take m) o news:=by
 have hl:(cur.take o++news).length=o+news.length:=by simp only[Ae2,Afj];omega
 rw[Ahq,hl,AfW (by omega)];unfold Im;rw[Ah1,Ags (by omega),AhK]
theorem Dy{α:Type}{enc:α→List Value}{k:Nat}(hk:∀x,(enc x).length=k):∀(xs:List α) (i:Nat),(xs.flatMap enc).take (i*k)=(xs.take i).flatMap enc
 |[],i=>by simp
 |x::xs,0=>by simp
 |x::xs,i+1=>by
  rw[AfK,List.take_succ_cons,AfK,←Dy hk xs i,Ahq,hk,AfP,AfW (by rw[hk];omega)];congr 2;omega
theorem Ei{α:Type}{enc:α→List Value}{k:Nat}(hk:∀x,(enc x).length=k):∀(xs:List α) (i:Nat),(xs.flatMap enc).drop (i*k)=(xs.drop i).flatMap enc
 |[],i=>by simp
 |x::xs,0=>by simp
 |x::xs,i+1=>by
  rw[AfK,AgK,←Ei hk xs i,Ahr,hk,AfP,AgP (by rw[hk];omega),AfC];congr 1;omega
section
variable {P:Program}{e:Env}{w:World}{B:Aq}{h:Ae}{M:List SA}{t:TypeId}{pos:String}{af:Array Edge}{g:Option (Nat×Bool)}{d:Option Nat}{K:Value→World→Prop}
theorem AdU{T T' el k bytes gg n cap o m c sb so r sc q:Nat}{z:Value}{x y:Operand}{xs news:List Value}(I:Inv B h M w)(hT:Und P T (.slice el))(he:ElT P el k bytes z)(n0:Nat)(hn:M[n0]?=some (Ao el k (.slice (some ⟨gg,0,none⟩) n cap) n xs))
  (hx:ev e x=.slice (some ⟨gg,o*k,none⟩) m c) (hy:ev e y=.slice (some ⟨sb,so,none⟩) r sc) (hq:Nat.min r m=q) (hom:o+m≤n) (hr:Rd w sb so news) (hl:news.length=q*k) (h1:AJ news=true)
  (kk:∀w',Inv B h (M.set n0 (Ao el k (.slice (some ⟨gg,0,none⟩) n cap) n (Im xs (o*k) news))) w'→K (.int .i64 q) w') :
  Op1 P ⟨d,.call {callee:=.builtin .copy,args:=#[x,y],argTypes:=#[T,T']},t,pos,af,g⟩ e w K:=by
 obtain⟨ii,hi,hz,hsz,hby⟩:=he.info';subst hsz;have hp:w.ownsRow 0 el ii.size (.slice (some ⟨gg,0,none⟩) n cap) n xs:=I.at n0 hn;have hfp:=(I.own _ (Afk hn)).2 gg (by simp[Ao,Value.ownBlock]);rcases hp.2 with ⟨h0,_⟩|⟨g',cap',cur,he',hb,hg,hnc,hcm,hcs,ht⟩
 ·cases h0
 injection he' with e1 e2 e3;injection e1 with e1;injection e1 with e1;subst e1;subst e3;have hqm:q≤m:=by rw[←hq];exact Nat.min_le_right _ _
 have hok:o*ii.size+news.length≤n*ii.size:=by rw[hl,←AfP];exact AfA _ (by omega)
 have hnk:n*ii.size≤cap*ii.size:=AfA _ hnc;have hone:∀u∈news,u.oneCell'=true:=fun u hu=>by
  simp only[AJ,Aff] at h1;exact h1 u hu
 have hld:=run_loadCells_list (P:=P) (w:=w) ⟨sb,so,none⟩ news (fun j v hj=>by rw[BN];exact hr j v hj);have hst:=run_storeCells_at P gg (o*ii.size) el news 0 cur w hg (by rw[hcs];omega) hone;simp only[AgS] at hst;have hA:(execOp (ev e) ⟨d,.call {callee:=.builtin .copy,args:=#[x,y],argTypes:=#[T,T']},t,pos,af,g⟩).run P w=.ok (.value (.int .i64 q)) (w.setRow gg (cur.toList.take (o*ii.size)++news++cur.toList.drop (o*ii.size+news.length)).toArray):=by
  simp[execOp,resolve,invoke,builtin,hx,hy,Builtin.copy_,run_underlying hT,Builtin.lenOf,Builtin.firstCells,sizeOf,typeInfo,hi,hq,←hl,hld,hst,goInt]
 unfold Op1;rw[hA];have hcl:cur.toList.length=cap*ii.size:=by rw[Af2,hcs]
 refine kk _ (I.l6 n0 hn rfl rfl rfl (by simp) (fun b hb hnb=>setRow_other w gg b _ (fun e=>hnb (by simp[Ao,Value.ownBlock,e]))) ?_ (fun b hb=>?_))
 ·refine⟨?_,.inr ⟨gg,cap,_,rfl,hb,setRow_heap w gg cur _ el _ hg,hnc,hcm,?_,?_⟩⟩
  ·rw[Pm (by rw[hp.1];exact hok),hp.1]
  ·simp only[Afx,Ae2,Afj,AfD,hcl];omega
  ·rw[Jf _ _ _ _ hok (by rw[hcl];exact hnk),ht]
 ·have:b=gg:=by simpa[Ao,Value.ownBlock] using hb
  subst this;exact⟨.inl (by simp[Ao,Value.ownBlock]),by simpa using hfp.2.1⟩
theorem Inv.widen{el k gg n cap m:Nat}{xs:List Value}(I:Inv B h (Ao el k (.slice (some ⟨gg,0,none⟩) n cap) n xs::M) w)(hm:n+m≤cap) :
  ∃ys,ys.length=m*k∧Inv B h (Ao el k (.slice (some ⟨gg,0,none⟩) (n+m) cap) (n+m) (xs++ys)::M) w:=by
 have hp:w.ownsRow 0 el k (.slice (some ⟨gg,0,none⟩) n cap) n xs:=(I.own _ (Ae7 ..)).1;have hfp:=(I.own _ (Ae7 ..)).2 gg (by simp[Ao,Value.ownBlock]);rcases hp.2 with ⟨h0,_⟩|⟨g',cap',cur,he,hb,hg,hnc,hcm,hcs,ht⟩
 ·cases h0
 injection he with e1 e2 e3;injection e1 with e1;injection e1 with e1;subst e1;subst e3;have hnk:(n+m)*k≤cap*k:=AfA _ hm;rw[AfP] at hnk;have hcl:cur.toList.length=cap*k:=by rw[Af2,hcs]
 have hys:((cur.toList.drop (n*k)).take (m*k)).length=m*k:=by rw[Afj,AfD,hcl];omega
 refine⟨(cur.toList.drop (n*k)).take (m*k),hys,I.step rfl rfl rfl (Afg _) (fun _ _ _=>rfl) ?_ (fun b hb=>?_)⟩
 ·refine⟨by rw[Ae2,hp.1,hys,AfP],.inr ⟨gg,cap,cur,rfl,hb,hg,hm,hcm,hcs,?_⟩⟩;rw[←ht,AfP,List.take_add]
 ·have:b=gg:=by simpa[Ao,Value.ownBlock] using hb
  subst this;exact⟨.inl (by simp[Ao,Value.ownBlock]),hfp.2.1⟩
theorem Inv.y8{el k gg n cap:Nat}{xs:List Value}(I:Inv B h M w)(n0:Nat)(hn:M[n0]?=some (Ao el k (.slice (some ⟨gg,0,none⟩) n cap) n xs))(o m:Nat):Rd w gg o ((xs.drop o).take m):=by
 have hp:w.ownsRow 0 el k (.slice (some ⟨gg,0,none⟩) n cap) n xs:=I.at n0 hn;intro j v hj;have:=hp.cells (g:=gg) rfl (o+j) v (by
  rw[AfF] at hj;split at hj
  ·rwa [Af9] at hj
  ·cases hj)
 rwa [BN,Agg] at this
theorem Inv.y9{el k gg n cap:Nat}{xs:List Value}(I:Inv B h M w)(n0:Nat)(hn:M[n0]?=some (Ao el k (.slice (some ⟨gg,0,none⟩) n cap) n xs)):w.shape? gg=some (el,cap*k)∧n≤cap:=by
 have hp:w.ownsRow 0 el k (.slice (some ⟨gg,0,none⟩) n cap) n xs:=I.at n0 hn;rcases hp.2 with ⟨h0,_⟩|⟨g',cap',cur,he,hb,hg,hnc,hcm,hcs,ht⟩
 ·cases h0
 injection he with e1 e2 e3;injection e1 with e1;injection e1 with e1;subst e1;subst e3;exact⟨by simp[World.shape?,hg,hcs],hnc⟩
theorem Aeq{T Tn el k bytes n m c sb so:Nat}{z:Value}{kn ki:IntKind}{x y:Operand}{olds:List Value}(I:Inv B h M w)(hT:Und P T (.slice el))(hTn:Und P Tn (.int kn))(he:ElT P el k bytes z)(hx:ev e x=.slice (some ⟨sb,so,none⟩) n c)(hr:Rd w sb so olds)(hl:olds.length=n*k)(hy:ev e y=.int ki m)(h0:0<m)(hc:c<n+m)(hb:(n+m)*bytes≤140737488355328)(h63:n+m≤140737488355328)
  (kk:∀gg cap w',Inv B h (Ao el k (.slice (some ⟨gg,0,none⟩) (n+m) cap) (n+m) (olds++(Builtin.zeroCells z.cells m).toList)::M) w'→gg≠sb→K (.slice (some ⟨gg,0,none⟩) (n+m) cap) w') (hlt:sb<w.heap.size) :
  Op1 P ⟨d,.call {callee:=.builtin .append,args:=#[x,y],argTypes:=#[T,Tn]},t,pos,af,g⟩ e w K:=by
 obtain⟨i,hi,hz,hsz,hby⟩:=he.info';subst hsz;subst hby;have hold:=run_firstCells_some (P:=P) w.drew i.size n ⟨sb,so,none⟩ n c olds hl (fun j v hj=>by rw[BN];exact hr j v hj);have hmb:m*i.bytes≤(n+m)*i.bytes:=AfA _ (by omega);have hrun:=Go.Lib.run_append_grow_zeros (P:=P) w T Tn t el i z ki kn hT hTn hi hz (some ⟨sb,so,none⟩) n c olds hold m h0 he.pos hc (by omega) (by omega) (growslice_fits hc hb);have hA:(execOp (ev e) ⟨d,.call {callee:=.builtin .append,args:=#[x,y],argTypes:=#[T,Tn]},t,pos,af,g⟩).run P w=.ok (.value (.slice (some ⟨w.heap.size,0,none⟩) (n+m) (grownCap w (n+m) c el)))
   (w.drew.alloc (.cells (olds.toArray++Builtin.zeroCells z.cells m++Builtin.zeroCells z.cells (grownCap w (n+m) c el-(n+m))) el)):=by
  simp[execOp,resolve,invoke,builtin,hx,hy,hrun]
 unfold Op1;rw[hA];have hge:=grownCap_ge w (n+m) c el;have hcm:=grownCap_le_maxLen w (n+m) c el (by simp only[maxLen];omega);obtain⟨cs,hcs⟩:∃cs:Array Value,cs=olds.toArray++Builtin.zeroCells z.cells m++Builtin.zeroCells z.cells (grownCap w (n+m) c el-(n+m)):=⟨_,rfl⟩;rw[←hcs];have hsize:cs.toList.length=grownCap w (n+m) c el*i.size:=by
  rw[Af2,hcs];simp only[Ahf,Afx,size_zeroCells,he.cells,hl,←AfP];congr 1;omega
 have htk:cs.toList.take ((n+m)*i.size)=olds++(Builtin.zeroCells z.cells m).toList:=by
  rw[hcs];simp only[AhA];refine AhX ?_;simp only[Ae2,Af2,size_zeroCells,he.cells,hl,AfP]
 refine kk w.heap.size _ _ (I.gain (A:=Ao el i.size (.slice (some ⟨w.heap.size,0,none⟩) (n+m) (grownCap w (n+m) c el)) (n+m) (olds++(Builtin.zeroCells z.cells m).toList)) ((CZ.drew w).trans (CZ.alloc _ _)) ?_ (fun b hb=>by simp[Ao,Value.ownBlock] at hb;subst hb;simp)) (by omega);have:=LI w cs.toList el i.size (n+m) (grownCap w (n+m) c el) hsize hge hcm w.drew rfl;rw[Array.toArray_toList,htk] at this;exact this
theorem O.overlaps{f:FuncId}{x y:Operand}{ts:Array TypeId}{T R el k cx cy nx ny bx ox by_ oy:Nat}{tA tB:TypeId}{kA kB:Nat}(hrun:∀vs w,(callFunc f vs).run P w=((Extern.SlicesOverlaps.overlaps #[T,T] #[R] vs).run P w).andThen fun v w'=>.ok (.value v) w')(hT:Und P T (.slice el))(hk:∀w,(sizeOf el).run P w=.ok k w)
  (hx:ev e x=.slice (some ⟨bx,ox,none⟩) nx cx) (hy:ev e y=.slice (some ⟨by_,oy,none⟩) ny cy) (hne:bx≠by_) (hA:w.shape? bx=some (tA,kA)) (hB:w.shape? by_=some (tB,kB)) (hkB:kB≠0) (hf:∀o,w.frozen? ⟨bx,o,none⟩=false) :
  Y P ⟨d,.call {callee:=.value (.func f),args:=#[x,y],argTypes:=ts},t,pos,af,g⟩ e w (.bool false):=by
 have h1:=Go.Lib.run_overlaps_apart (P:=P) w T R el hT k hk ⟨bx,ox,none⟩ ⟨by_,oy,none⟩ nx cx ny cy hne tA tB kA kB hA hB hkB (hf ox) (hf kA);have hc:ev e (.func f)=.func (.func f) #[] #[]:=rfl;simp[Y,execOp,resolve,hc,Deferred.ofValue,invoke,hx,hy,hrun,h1]
theorem AcC{T el k b n c l h':Nat}{x:Operand}{lo hi:Option Operand}(hT:Und P T (.slice el))(hk:∀w,(sizeOf el).run P w=.ok k w)(hx:ev e x=.slice (some ⟨b,0,none⟩) n c)
  (hl:lo=none∧l=0∨∃q k,lo=some q∧ev e q=.int k (l:Int)) (hh:hi=none∧h'=n∨∃q k,hi=some q∧ev e q=.int k (h':Int)) (h1:l≤h') (h2:h'≤c) (h3:l<c) :
  Y P ⟨d,.slice T x lo hi none,t,pos,af,g⟩ e w (.slice (some ⟨b,l*k,none⟩) (h' - l) (c-l)):=by
 refine(AcF hT hk hx hl hh h1 h2).is ?_;rw[if_neg (by omega),Agg]
theorem AeC{T el k bytes gg n cap o:Nat}{z v:Value}{a x:Operand}{xs:List Value}(I:Inv B h M w)(hT:Ty P T 1 false)(he:ElT P el k bytes z)(n0:Nat)(hn:M[n0]?=some (Ao el k (.slice (some ⟨gg,0,none⟩) n cap) n xs))
  (ha:ev e a=.pointer (some ⟨gg,o,none⟩)) (hx:ev e x=v) (hv:v.cells=#[v]) (h1:v.oneCell'=true) (ho:o<xs.length) (kk:∀w',Inv B h (M.set n0 (Ao el k (.slice (some ⟨gg,0,none⟩) n cap) n (xs.set o v))) w'→K undef w') :
  Op1 P ⟨d,.store T a x,t,pos,af,g⟩ e w K:=by
 obtain⟨ii,hi,hz,hsz,hby⟩:=he.info';subst hsz;have hp:w.ownsRow 0 el ii.size (.slice (some ⟨gg,0,none⟩) n cap) n xs:=I.at n0 hn;have hfp:=(I.own _ (Afk hn)).2 gg (by simp[Ao,Value.ownBlock]);rcases hp.2 with ⟨h0,_⟩|⟨g',cap',cur,he',hb,hg,hnc,hcm,hcs,ht⟩
 ·cases h0
 injection he' with e1 e2 e3;injection e1 with e1;injection e1 with e1;subst e1;subst e3;have hnk:n*ii.size≤cap*ii.size:=AfA _ hnc;have hxl:=hp.1;have hst:=run_storeCells_at P gg o el [v] 0 cur w hg (by rw[hcs];simp only[Afv];omega) (by simpa using h1);simp only[AgS] at hst;have hA:(execOp (ev e) ⟨d,.store T a x,t,pos,af,g⟩).run P w=.ok .skip (w.setRow gg (cur.toList.take o++[v]++cur.toList.drop (o + [v].length)).toArray):=by
  simp[execOp,Instr.storeAt,Instr.sureAddr,ha,hx,storeVar,hv,hT.size,hst]
 unfold Op1;rw[hA];have hcl:cur.toList.length=cap*ii.size:=by rw[Af2,hcs]
 have hset:xs.set o v=Im xs o [v]:=by
  unfold Im;rw[Agm,if_pos ho];simp
 refine kk _ (I.l6 n0 hn rfl rfl rfl (by simp) (fun b hb hnb=>setRow_other w gg b _ (fun e=>hnb (by simp[Ao,Value.ownBlock,e]))) ?_ (fun b hb=>?_))
 ·refine⟨?_,.inr ⟨gg,cap,_,rfl,hb,setRow_heap w gg cur _ el _ hg,hnc,hcm,?_,?_⟩⟩
  ·rw[Ahz,hp.1]
  ·simp only[Afx,Ae2,Afj,AfD,hcl,Afv];omega
  ·rw[Jf _ _ _ _ (by simp only[Afv];omega) (by rw[hcl];exact hnk),ht,hset]
 ·have:b=gg:=by simpa[Ao,Value.ownBlock] using hb
  subst this;exact⟨.inl (by simp[Ao,Value.ownBlock]),by simpa using hfp.2.1⟩
def LK(el:TypeId)(cs:List Value)(n:Nat)(v:Value)(h:Ae):Prop:=∃b,v=.slice (some ⟨b,0,none⟩) n n∧h b=some (.cells cs.toArray el (0,0))
theorem LK.mono{el:TypeId}{cs:List Value}{n:Nat}:Bt (LK el cs n):=fun _ _ _ hl hx=>by
 obtain⟨b,h1,h2⟩:=hx;exact⟨b,h1,hl _ _ h2⟩
theorem AcM{T el k n:Nat}{parts:Array (Nat×Operand)}{z:Value}{cs:List Value}{K:Value→World→Prop}(I:Inv B h M w)(hT:Und P T (.slice el))(hk:∀w,(sizeOf el).run P w=.ok k w)(hz:Pj P el z)(hs:n*k≤16777216)(h0:n*k≠0)
  (hf:MU (fun i=>some (i*k,k)) ((List.range (n*k)).map fun i=>(Ca z)[i % k]!) (parts.toList.map fun (i,x)=>(i,ev e x))=some cs) (hzc:(Ca z).length=k)
  (kk:∀v h' w',Inv B h' M w'→h.le h'→LK el cs n v h'→K v w'):Op1 P ⟨d,.buildSlice T n parts,t,pos,af,g⟩ e w K:=
 AeQ I hT hk hz hs h0 hf hzc fun b w' I'=>by
  have hb:=I'.at 0 rfl;obtain⟨h',hle,hfp,J⟩:=I'.settle;exact kk _ h' w' J hle ⟨b,rfl,(hfp b (by simp[TF.box])).trans hb⟩
theorem Acx{x:Operand}{f:FuncId}{fs cs:List Value}{args:Array Operand}{ts:Array TypeId}{vs:List Value}{r:Value}
  (I:Inv B h M w) (hf:BE P f) (hx:ev e x=.func (.func f) fs.toArray cs.toArray) (hfn:Fn P f vs ⟨w,h⟩ (fun v _=>v=r)) (ha:fs++args.toList.map (ev e)++cs=vs):QC P (Inv B h M) ⟨d,.call {callee:=.value x,args:=args,argTypes:=ts},t,pos,af,g⟩ e w r:=by
 have ha':fs.toArray++args.map (ev e)++cs.toArray=vs.toArray:=by rw[←ha];apply Array.ext';simp
 have:(execOp (ev e) ⟨d,.call {callee:=.value x,args:=args,argTypes:=ts},t,pos,af,g⟩).run P w=.ok (.enter f vs.toArray) w:=by
  simp only[execOp,resolve,hx,Deferred.ofValue];simp[invoke,ha',hf]
 unfold QC;rw[this];refine⟨rfl,Calls.mono hfn ?_⟩;rintro x w' ⟨v,h',rfl,X,rfl⟩;exact⟨rfl,I.grow X.below⟩
end
structure Ci(h:Ae)(b:Nat)(cs:List Value):Prop where
 rd:RdH h b 0 cs
theorem Ci.le{h h':Ae}{b:Nat}{cs:List Value}(k:Ci h b cs)(hl:h.le h'):Ci h' b cs:=⟨k.rd.le hl⟩
theorem Inv.z8{B:Aq}{h:Ae}{M:List SA}{w:World}{b:Nat}{cs:List Value}{T:TypeId}(I:Inv B h (box b cs T::M) w):∃h',h.le h'∧Ci h' b cs∧Inv B h' M w:=by
 have hb:=I.at 0 rfl;obtain⟨h',hle,hfp,J⟩:=I.settle;refine⟨h',hle,⟨fun j v hv=>?_⟩,J⟩;have:h' b=some (.cells cs.toArray T (0,0)):=(hfp b (by simp[box])).trans hb;simp only[Ae.cell,this,Agg];simpa using hv
end
section
abbrev Sq(σ:Type):=Value→σ→Prop
structure Pre{σ:Type}(R:σ→σ→Prop):Prop where
 refl:∀s,R s s
 trans:∀a b c,R a b→R b c→R a c
section
variable {σ:Type}
def FQ(e:Env):List (Nat×Sq σ)→Env→Env
 |[],_=>e
 |p::L,us=>upd (FQ e L us) p.1 (us p.1)
def FR(c:Nat→Bool)(h:σ):List (Nat×Sq σ)→Env→(Env→Prop)→Prop
 |[],e,k=>k e
 |p::L,e,k=>FR c h L e fun e'=>∀u,(c p.1=true→p.2 u h)→k (upd e' p.1 u)
theorem FR.get{c:Nat→Bool}{h:σ}:∀{L:List (Nat×Sq σ)} {e:Env} {k:Env→Prop},FR c h L e k→∀us,(∀p∈L,c p.1=true→p.2 (us p.1) h)→k (FQ e L us)
 |[],_,_,a,_,_=>a
 |_::L,_,_,a,us,hp=>FR.get (L:=L) a us (fun q hq=>hp q (Ae8 _ hq)) (us _) (hp _ (Ae7 ..))
def Cj(R:σ→σ→Prop)(Φ:Sq σ):Prop:=∀u h h',R h h'→Φ u h→Φ u h'
def AZ(D:Nat→Bool)(k:Nat):Nat→Bool:=fun j=>j == k || D j
def Aaf(P:Program)(full:Array Oper)(J:(Nat→Bool)→σ→World→Prop)(R:σ→σ→Prop)(h0:σ)(k:Nat)(L:List (Nat×Sq σ))(e:Env)(o:Oper)(Φ:Sq σ):Prop:=
 ∀D h1 w,D k=false→R h0 h1→J D h1 w→FR (lk full o) h1 L e fun e'=>Op1 P o e' w fun u w'=>∃h2,R h1 h2∧J (AZ D k) h2 w'∧Φ u h2
def AD(P:Program)(full:Array Oper)(J:(Nat→Bool)→σ→World→Prop)(R:σ→σ→Prop)(h0:σ):Nat→List (Nat×Sq σ)→List Oper→Env→(List (Nat×Sq σ)→Env→Prop)→Prop
  |_,L,[],e,K=>K L e
  |k,L,o::r,e,K=>
    ((∀us,runs full (FQ e L us) o=false)∧(∀D s w,D k=false→J D s w→J (AZ D k) s w)∧AD P full J R h0 (k+1) L r (CQ e o.dst undef) K)∨
    ((∀us,runs full (FQ e L us) o=true)∧
      ((∃v,Aaf P full J R h0 k L e o (fun u _=>u=v)∧AD P full J R h0 (k+1) L r (CQ e o.dst v) K)∨
       (∃d Φ,o.dst=some d∧Cj R Φ∧Aaf P full J R h0 k L e o Φ∧AD P full J R h0 (k+1) ((d,Φ)::L) r e K)))
theorem HV{e us:Env}{d:Nat}:∀{L:List (Nat×Sq σ)},(∀p∈L,p.1≠d)→FQ e L us d=e d
 |[],_=>rfl
 |p::L,h=>by
  simp only[FQ];rw[Ch _ _ (Ne.symm (h p (Ae7 ..)))];exact HV fun q hq=>h q (Ae8 _ hq)
theorem GC{e us:Env}{d i:Nat}{v:Value}(h:i≠d):∀(L:List (Nat×Sq σ)),FQ (upd e d v) L us i=FQ e L us i
 |[]=>Ch _ _ h
 |p::L=>by
  simp only[FQ];by_cases hp:i=p.1
  ·subst hp;rw[Ck,Ck]
  ·rw[Ch _ _ hp,Ch _ _ hp,GC h L]
section
variable (P:Program)(ops:Array Oper)(J:(Nat→Bool)→σ→World→Prop)(R:σ→σ→Prop)(h0:σ)(e0:Env)
def OkG(Ss:List (Sq σ))(k:Nat)(f:Env)(h:σ)(d:Nat):Prop:=
 (∀j Φ,j<k→Dh ops j=some d→Ss[j]?=some Φ→Φ (f d) h)∧((∀j,j<k→Dh ops j≠some d)→f d=e0 d)
structure UZ(Ss:List (Sq σ))(L:List (Nat×Sq σ))(e:Env):Prop where
 eq:∀f h d,OkG ops e0 Ss Ss.length f h d→FQ e L f d=f d
 sub:∀p∈L,∃k,k<Ss.length∧Dh ops k=some p.1∧Ss[k]?=some p.2
def LSG(Ss:List (Sq σ))(i:Nat):Prop:=∀o Φ f D h1 w,ops[i]?=some o→Ss[i]?=some Φ→D i=false→R h0 h1→J D h1 w→(∀d∈o.looksAt ops,OkG ops e0 Ss i f h1 d)→
 (runs ops f o=true→Op1 P o f w fun u w'=>∃h2,R h1 h2∧J (AZ D i) h2 w'∧Φ u h2)∧(runs ops f o=false→Φ undef h1∧J (AZ D i) h1 w)
end
section
variable {P:Program}{ops:Array Oper}{J:(Nat→Bool)→σ→World→Prop}{R:σ→σ→Prop}{h0:σ}{e0:Env}{m:Nat}
theorem OkG.snoc{Ss:List (Sq σ)}{Φ:Sq σ}{k:Nat}{f:Env}{h:σ}{d:Nat}(hk:k≤Ss.length):OkG ops e0 (Ss++[Φ]) k f h d↔OkG ops e0 Ss k f h d:=by
 unfold OkG;refine and_congr ⟨fun a j Ψ hj h1 h2=>a j Ψ hj h1 (by rw[Bg (by omega)];exact h2),fun a j Ψ hj h1 h2=>a j Ψ hj h1 (by rw[Bg (by omega)] at h2;exact h2)⟩ Iff.rfl
theorem LSG.snoc{Ss:List (Sq σ)}{Φ:Sq σ}{k:Nat}(hk:k<Ss.length)(h:LSG P ops J R h0 e0 Ss k):LSG P ops J R h0 e0 (Ss++[Φ]) k:=by
 intro o Ψ f D h1 w ho hp hD hl I hd;rw[Bg hk] at hp;exact h o Ψ f D h1 w ho hp hD hl I fun d hm=>(OkG.snoc (by omega)).1 (hd d hm)
theorem AdF(hF:U9 ops m):∀(l:List Oper) (Ss:List (Sq σ)) (L:List (Nat×Sq σ)) (e:Env) (K:List (Nat×Sq σ)→Env→Prop),(∀j,l[j]?=(ops.toList.take m)[Ss.length+j]?)→Ss.length+l.length=m→
  UZ ops e0 Ss L e→(∀k,k<Ss.length→LSG P ops J R h0 e0 Ss k)→(∀Φ∈Ss,Cj R Φ)→AD P ops J R h0 Ss.length L l e K→
  ∃Ss' L' e',Ss'.length=m∧UZ ops e0 Ss' L' e'∧(∀k,k<m→LSG P ops J R h0 e0 Ss' k)∧(∀Φ∈Ss',Cj R Φ)∧K L' e'
 |[],Ss,L,e,K,_,hm,hr,hs,hmo,h=>⟨Ss,L,e,by simpa using hm,hr,by simpa[←hm] using hs,hmo,h⟩
 |o::r,Ss,L,e,K,hl,hm,hr,hs,hmo,h=>by
  simp only[Ae6] at hm;have hi:ops[Ss.length]?=some o:=by
   have:=hl 0;simp only[Ag7,AgS,AfF] at this;rw[if_pos (by omega)] at this;simpa using this.symm
  have hdst:Dh ops Ss.length=o.dst:=by simp[Dh,hi]
  have hdist:∀k d,k<Ss.length→Dh ops k=some d→o.dst≠some d:=fun k d hk hd hod=>by
   cases hok:ops[k]? with
   |none=>simp[Dh,hok] at hd
   |some ok=>
    simp[Dh,hok] at hd;have:=hF.dist k Ss.length ok o d (by omega) (by omega) hok hi hd hod;omega
  have hagree:∀f h1,(∀d∈o.looksAt ops,OkG ops e0 Ss Ss.length f h1 d)→∀d∈o.looksAt ops,FQ e L f d=f d:=fun f h1 hd d hdm=>hr.eq f h1 d (hd d hdm);have hLd:∀f h1,(∀d∈o.looksAt ops,OkG ops e0 Ss Ss.length f h1 d)→∀p∈L,lk ops o p.1=true→p.2 (f p.1) h1:=fun f h1 hd p hp hk=>by
   obtain⟨k,k1,k2,k3⟩:=hr.sub p hp;exact(hd p.1 (by simpa[lk] using hk)).1 k p.2 k1 k2 k3
  have next:∀Φ L1 e1,Cj R Φ→LSG P ops J R h0 e0 (Ss++[Φ]) Ss.length→UZ ops e0 (Ss++[Φ]) L1 e1→AD P ops J R h0 (Ss.length+1) L1 r e1 K→
    ∃Ss' L' e',Ss'.length=m∧UZ ops e0 Ss' L' e'∧(∀k,k<m→LSG P ops J R h0 e0 Ss' k)∧(∀Φ∈Ss',Cj R Φ)∧K L' e':=fun Φ L1 e1 hΦ hls hrel hops=>by
   refine AdF hF r (Ss++[Φ]) L1 e1 K (fun j=>?_) (by simp;omega) hrel (fun k hk=>?_) (fun Ψ hΨ=>?_) (by rw[Ae2];exact hops)
   ·have:=hl (j+1);simp only[AgL] at this;rw[this,Ae2,Ae6,Afc];congr 1;omega
   ·simp only[Ae2,Ae6,Afc] at hk;by_cases hk':k<Ss.length
    ·exact(hs k hk').snoc hk'
    ·have:k=Ss.length:=by omega
     subst this;exact hls
   ·rcases Afu.1 hΨ with h1|h1
    ·exact hmo Ψ h1
    ·simp at h1;subst h1;exact hΦ
  have relV:∀v (Φ:Sq σ),(∀u h1,Φ u h1→u=v)→UZ ops e0 (Ss++[Φ]) L (CQ e o.dst v):=fun v Φ hΦ=>by
   refine⟨fun f h1 d hok=>?_,fun p hp=>?_⟩
   ·cases hod:o.dst with
    |none=>
     refine hr.eq f h1 d ?_;refine⟨fun j Ψ hj a b=>hok.1 j Ψ (by simp;omega) a (by rw[Bg hj];exact b),fun hn=>hok.2 fun j hj=>?_⟩;simp only[Ae2,Ae6,Afc] at hj;by_cases hj':j<Ss.length
     ·exact hn j hj'
     ·have:j=Ss.length:=by omega
      subst this;rw[hdst,hod];exact fun hh=>by cases hh
    |some t=>
     simp only[CQ];by_cases hdt:d=t
     ·subst hdt;rw[HV,Ck]
      ·exact(hΦ _ h1 (hok.1 Ss.length Φ (by simp) (by rw[hdst,hod]) (by simp))).symm
      ·intro p hp hpd;obtain⟨k,k1,k2,_⟩:=hr.sub p hp;exact hdist k _ k1 k2 (by rw[hod,hpd])
     ·rw[GC hdt];refine hr.eq f h1 d ⟨fun j Ψ hj a b=>hok.1 j Ψ (by simp;omega) a (by rw[Bg hj];exact b),fun hn=>hok.2 fun j hj=>?_⟩;simp only[Ae2,Ae6,Afc] at hj;by_cases hj':j<Ss.length
      ·exact hn j hj'
      ·have:j=Ss.length:=by omega
       subst this;rw[hdst,hod];exact fun hh=>by cases hh;exact hdt rfl
   ·obtain⟨k,k1,k2,k3⟩:=hr.sub p hp;exact⟨k,by simp;omega,k2,by rw[Bg k1];exact k3⟩
  have hsel:=fun cs b=>Region.noSelect_spec hF.sel Ss.length o cs b hi;simp only[AD] at h;rcases h with ⟨hru,hJd,h⟩|⟨hru,⟨v,hob,h⟩|⟨d,Φ,hod,hΦ,hob,h⟩⟩
  ·refine next (fun u _=>u=undef) L _ (fun _ _ _ _ e=>e) ?_ (relV undef _ fun _ _ e=>e) h;intro o' Φ' f D h1 w ho' hp' hD hl1 I hd;rw[hi] at ho';cases ho';simp at hp';subst hp';have hd':=fun d hm=>(OkG.snoc (Afg _)).1 (hd d hm);refine⟨fun hrt=>?_,fun _=>⟨rfl,hJd D h1 w hD I⟩⟩;rw[←Cq (hagree f h1 hd'),hru] at hrt;cases hrt
  ·refine next (fun u _=>u=v) L _ (fun _ _ _ _ e=>e) ?_ (relV v _ fun _ _ e=>e) h;intro o' Φ' f D h1 w ho' hp' hD hl1 I hd;rw[hi] at ho';cases ho';simp at hp';subst hp';have hd':=fun d hm=>(OkG.snoc (Afg _)).1 (hd d hm);refine⟨fun _=>G0 hsel (hagree f h1 hd') ((hob D h1 w hD hl1 I).get f (hLd f h1 hd')),fun hrf=>?_⟩;rw[←Cq (hagree f h1 hd'),hru] at hrf;cases hrf
  ·refine next Φ ((d,Φ)::L) e hΦ ?_ ⟨fun f h1 i hok=>?_,fun p hp=>?_⟩ h
   ·intro o' Φ' f D h1 w ho' hp' hD hl1 I hd;rw[hi] at ho';cases ho';simp at hp';subst hp';have hd':=fun d hm=>(OkG.snoc (Afg _)).1 (hd d hm);refine⟨fun _=>G0 hsel (hagree f h1 hd') ((hob D h1 w hD hl1 I).get f (hLd f h1 hd')),fun hrf=>?_⟩;rw[←Cq (hagree f h1 hd'),hru] at hrf;cases hrf
   ·simp only[FQ];by_cases hdt:i=d
    ·subst hdt;rw[Ck]
    ·rw[Ch _ _ hdt];refine hr.eq f h1 i ⟨fun j Ψ hj a b=>hok.1 j Ψ (by simp;omega) a (by rw[Bg hj];exact b),fun hn=>hok.2 fun j hj=>?_⟩;simp only[Ae2,Ae6,Afc] at hj;by_cases hj':j<Ss.length
     ·exact hn j hj'
     ·have:j=Ss.length:=by omega
      subst this;rw[hdst,hod];exact fun hh=>by cases hh;exact hdt rfl
   ·rcases Afq.1 hp with rfl|hp
    ·exact⟨Ss.length,by simp,by rw[hdst,hod],by simp⟩
    ·obtain⟨k,k1,k2,k3⟩:=hr.sub p hp;exact⟨k,by simp;omega,k2,by rw[Bg k1];exact k3⟩
structure StG(ops:Array Oper)(m:Nat)(J:(Nat→Bool)→σ→World→Prop)(R:σ→σ→Prop)(h0:σ)(e0:Env)(Ss:List (Sq σ))(N:Nat)(D:List Deferred)(l:Array Bool)(a:Act)(w:World):Prop where
 size:l.size=ops.size
 closed:KO ops fun j=>l.getD j false=true
 tail:∀j,m≤j→l.getD j false≠true
 n:a.tmps.size=N
 d:a.defers=D
 st:∃h,R h0 h∧J (fun j=>l.getD j false) h w∧∀d,(∀j Φ,j<m→l.getD j false=true→Dh ops j=some d→Ss[j]?=some Φ→Φ (env a d) h)∧((∀j,j<m→l.getD j false=true→Dh ops j≠some d)→env a d=e0 d)
theorem R4{Q:Exit→Act→World→Prop}{K:Env→World→Prop}{N:Nat}{D:List Deferred}{Ss:List (Sq σ)}(hF:U9 ops m)(hds:C8 N ops.toList=true)(hQ:∀a w,a.tmps.size=N→a.defers=D→K (env a) w→Q .normal a w)
  (hSs:Ss.length=m) (hls:∀k,k<m→LSG P ops J R h0 e0 Ss k) (hmo:∀Φ∈Ss,Cj R Φ)
  (hR:Pre R) (hend:∀f D h1 w,(∀j,j<m→D j=true)→R h0 h1→J D h1 w→(∀d,OkG ops e0 Ss m f h1 d)→Ops P ops (ops.toList.drop m) f w K) :
  ∀(fuel:Nat) (l:Array Bool) (a:Act) (w:World),l.count false≤fuel→StG ops m J R h0 e0 Ss N D l a w→wpAny P .any ops Q fuel l a w:=by
 have fin:∀(l:Array Bool) (a:Act) (w:World),StG ops m J R h0 e0 Ss N D l a w→(∀j,j<m→l.getD j false=true)→Ops P ops (ops.toList.drop m) (env a) w K:=fun l a w S hall=>by
  obtain⟨h,g1,g2,g3⟩:=S.st;exact hend _ _ h w hall g1 g2 fun d=>⟨fun j Φ hj a b=>(g3 d).1 j Φ hj (hall j hj) a b,fun hn=>(g3 d).2 fun j hj _=>hn j hj⟩
 have nil:∀(l:Array Bool) (a:Act) (w:World),StG ops m J R h0 e0 Ss N D l a w→Region.ready .any ops l=[]→Q .normal a w:=fun l a w S hr=>by
  have least:∀n,∀j,j<n→j<ops.size→l.getD j false=true:=by
   intro n;induction n with
   |zero=>intro j hj;omega
   |succ n ihn=>
    intro j hj hjs;by_cases hjn:j<n
    ·exact ihn j hjn hjs
    ·have:j=n:=by omega
     subst this;cases hh:l.getD j false
     ·exfalso;have:j∈Region.ready .any ops l:=mem_ready.2 ⟨by rw[CC (by rw[S.size];exact hjs)];exact hh,ops[j],by simp[hjs],fun e he hb=>by
       have:=hF.back j ops[j] (by simp[hjs]) e he hb;exact ihn e.on (by omega) (by omega)⟩
      rw[hr] at this;cases this
     ·rfl
  have hms:m=ops.size:=by
   rcases Af4 m ops.size with h'|h'
   ·exact absurd (least (m+1) m (by omega) h') (S.tail m (Afg m))
   ·have:=hF.le;omega
  have:=fin l a w S fun j hj=>least (j+1) j (by omega) (by omega);rw[AfV (by simp;omega)] at this;exact hQ a w S.n S.d this
 intro fuel;induction fuel with
 |zero=>
  intro l a w hc S;have hr:Region.ready .any ops l=[]:=by
   cases hr:Region.ready .any ops l with
   |nil=>rfl
   |cons x xs=>
    have hx:x∈Region.ready .any ops l:=by rw[hr];exact Ae7 ..
    obtain⟨h1,o,ho,_⟩:=mem_ready.1 hx;have hlt:x<l.size:=by rw[S.size];exact(Afr.1 ho).1
    have:=count_set hlt h1;omega
  exact⟨hr,nil l a w S hr⟩
 |succ fuel ih=>
  intro l a w hc S;refine⟨nil l a w S,fun i hi=>?_⟩;obtain⟨h1,o,ho,h2⟩:=mem_ready.1 hi;have hlt:i<ops.size:=(Afr.1 ho).1;have hil:i<l.size:=by rw[S.size];exact hlt
  have hun:l.getD i false≠true:=by rw[←CC hil,h1];exact fun h=>by cases h
  have hdo:o.dst.all (· < N)=true:=(Aff.1 hds) o (by have:=Af6 ho;simpa using this);have hcnt:=count_set hil h1;by_cases him:i<m
  ·obtain⟨Φ,hΦ⟩:∃Φ,Ss[i]?=some Φ:=⟨Ss[i]'(by omega),by simp[hSs,him]⟩;obtain⟨h,g1,g2,g3⟩:=S.st;have hDi:(fun j=>l.getD j false) i=false:=by simpa using hun
   have hset:(fun j=>(l.setIfInBounds i true).getD j false)=AZ (fun j=>l.getD j false) i:=by
    funext j;rw[AgH,Bh hil];simp[AZ]
   have step:∀v w' hh,R h hh→J (AZ (fun j=>l.getD j false) i) hh w'→Φ v hh→wpAny P .any ops Q fuel (l.setIfInBounds i true) (a.put o.dst v) w':=fun v w' hh hle I hv=>by
    refine ih _ _ w' (by omega) ⟨by simpa using S.size,fun j oj hoj hj e he hb=>?_,fun j hj hh'=>?_,by rw[Bm,S.n],by rw[AY,S.d],hh,hR.trans _ _ _ g1 hle,by rw[hset];exact I,fun d=>?_⟩
    ·simp only[Bh hil] at hj ⊢;rcases hj with rfl|hj
     ·rw[ho] at hoj;cases hoj;exact .inr (h2 e he hb)
     ·exact .inr (S.closed j oj hoj hj e he hb)
    ·rw[Bh hil] at hh';rcases hh' with rfl|hh'
     ·omega
     ·exact S.tail j hj hh'
    ·rw[Cg a _ v (by rw[S.n];exact hdo)];have other:o.dst≠some d→CQ (env a) o.dst v d=env a d:=fun hne=>by
      cases hod:o.dst with
      |none=>rfl
      |some t=>exact Ch _ _ fun e=>hne (by rw[hod,e])
     by_cases hod:o.dst=some d
     ·rw[hod];simp only[CQ,Ck];refine⟨fun j Ψ hj hlj hdj hΨ=>?_,fun hn=>absurd (by simp[Dh,ho,hod]) (hn i him (by rw[Bh hil];exact .inl rfl))⟩;cases hoj:ops[j]? with
      |none=>simp[Dh,hoj] at hdj
      |some oj=>
       simp[Dh,hoj] at hdj;have:=hF.dist j i oj o d hj him hoj ho hdj hod;subst this;rw[hΦ] at hΨ;cases hΨ;exact hv
     ·rw[other hod];refine⟨fun j Ψ hj hlj hdj hΨ=>?_,fun hn=>(g3 d).2 fun j hj hlj=>hn j hj (by rw[Bh hil];exact .inr hlj)⟩;rw[Bh hil] at hlj;rcases hlj with rfl|hlj
      ·simp[Dh,ho] at hdj;exact absurd hdj hod
      ·exact hmo Ψ (Afk hΨ) _ h hh hle ((g3 d).1 j Ψ hj hlj hdj hΨ)
   have hok:∀d∈o.looksAt ops,OkG ops e0 Ss i (env a) h d:=fun d hd=>by
    refine⟨fun j Ψ hj hdj hΨ=>?_,fun hn=>(g3 d).2 fun j hj hlj hdj=>?_⟩
    ·cases hoj:ops[j]? with
     |none=>simp[Dh,hoj] at hdj
     |some oj=>
      simp[Dh,hoj] at hdj;have:=(hF.reads i j o oj d him (by omega) (by omega) ho hoj hdj hd).1 hj;exact(g3 d).1 j Ψ (by omega) (Y6 (L:=fun j=>l.getD j false=true) this h2) (by simp[Dh,hoj,hdj]) hΨ
    ·rcases Ahg j i with h'|h'|h'
     ·exact hn j h' hdj
     ·subst h';exact hun hlj
     ·cases hoj:ops[j]? with
      |none=>simp[Dh,hoj] at hdj
      |some oj=>
       simp[Dh,hoj] at hdj;have:=(hF.reads i j o oj d him hj (by omega) ho hoj hdj hd).2 h';exact hun (Y6 (L:=fun j=>l.getD j false=true) this (S.closed j oj hoj hlj))
   have hls':=hls i him o Φ (env a) _ h w ho hΦ hDi g1 g2 hok;refine Ox ho ?_;split
   ·rename_i hr;exact(hls'.1 hr).mono fun v w' ⟨hh,k1,k2,k3⟩=>step v w' hh k1 k2 k3
   ·rename_i hr;exact step undef w h (hR.refl h) (hls'.2 (by simpa using hr)).2 (hls'.2 (by simpa using hr)).1
  ·have hall:=hF.tail (fun j=>l.getD j false=true) S.closed i o (by omega) ho h2;have him':i=m:=by
    rcases Af4 m i with h'|h'
    ·exact absurd (hall m h') (S.tail m (Afg m))
    ·omega
   subst him';have hl:∀j,l.getD j false=true↔j<i:=fun j=>⟨fun hj=>by
    rcases Af4 j i with h'|h'
    ·exact h'
    ·exact absurd hj (S.tail j h'),hall j⟩
   have hle:ops.size-i≤fuel+1:=by
    have:∀n k (l:Array Bool),l.size=ops.size→k+n=ops.size→(∀j,k≤j→l.getD j false≠true)→n≤l.count false:=by
     intro n;induction n with
     |zero=>intro k l _ _ _;omega
     |succ n ihn=>
      intro k l hs hk hj;have hks:k<l.size:=by omega
      have hkf:l.getD k true=false:=by
       rw[CC hks];cases hh:l.getD k false
       ·rfl
       ·exact absurd hh (hj k (Afg k))
      have h3:=ihn (k+1) (l.setIfInBounds k true) (by simpa using hs) (by omega) (fun j hj'=>by
       rw[Ne,Bh hks];rintro(h|h)
       ·omega
       ·exact hj j (by omega) h)
      have:=count_set hks hkf;omega
    have:=this (ops.size-i) i l S.size (by omega) S.tail;omega
   have hT:=MX (P:=P) hF hds hQ (fuel+1) i l a w (Afg i) hF.le hle S.size hl S.n S.d (fin l a w S hall);exact hT.2 i hi
end
end
theorem Ab9{σ:Type}{P:Program}{N:Nat}{D:List Deferred}{e:Env}{w:World}{Q:Exit→Env→World→Prop}{id:Nat}{ops:Array Oper}{J:(Nat→Bool)→σ→World→Prop}{R:σ→σ→Prop}(hm:LH P)(hR:Pre R)(s0:σ)(I:J (fun _=>false) s0 w.drew)(m:Nat)(hB:MV ops m=true)
  (k:AD P ops J R s0 0 [] (ops.toList.take m) e (fun L e'=>∀D h1 w1,(∀j,j<m→D j=true)→R s0 h1→J D h1 w1→FR (fun _=>true) h1 L e' fun e''=>Ops P ops (ops.toList.drop m) e'' w1 (fun e3 w3=>Q .normal e3 w3))):WP P N D (.region id ops true) e w Q:=by
 intro hs a h1 h2 h3;subst h3;have hF:=LJ hB;obtain⟨Ss,L,e',hlen,hrel,hls,hmo,hK⟩:=AdF (e0:=env a) hF _ [] [] (env a) _ (fun j=>by simp) (by simp[hF.le]) ⟨fun f h1 d ho=>(ho.2 (by simp)).symm,by simp⟩ (by simp) (by simp) k;refine wp_region_any hm ?_;refine R4 (K:=fun e3 w3=>Q .normal e3 w3) (N:=N) (D:=D) hF hs (fun a w g1 g2 g3=>⟨g1,g2,g3⟩) hlen hls hmo hR (fun f D h1 w1 hD hl I1 hok=>?_) ops.size _ a _ (by simp) ⟨by simp,?_,?_,h1,h2,s0,hR.refl s0,?_,fun d=>⟨?_,fun _=>rfl⟩⟩
 ·have hov:FQ e' L f=f:=by funext d;exact hrel.eq f h1 d (hlen▸hok d)
  have:=(hK D h1 w1 hD hl I1).get f fun p hp _=>by
   obtain⟨k,k1,k2,k3⟩:=hrel.sub p hp;exact(hok p.1).1 k p.2 (hlen▸k1) k2 k3
  rwa [hov] at this
 ·intro i o _ hl;simp[Afp,AfL] at hl;split at hl<;>simp at hl
 ·intro j _ hl;simp[Afp,AfL] at hl;split at hl<;>simp at hl
 ·have:(fun j=>(Array.replicate ops.size false).getD j false)=fun _=>false:=by
   funext j;simp[Afp,AfL];split<;>rfl
  rw[this];exact I
 ·intro j Φ _ hl;simp[Afp,AfL] at hl;split at hl<;>simp at hl
section
variable {σ:Type}{P:Program}{full:Array Oper}{J:(Nat→Bool)→σ→World→Prop}{R:σ→σ→Prop}{h0:σ}{k:Nat}{L:List (Nat×Sq σ)}{rest:List Oper}{e:Env}{K:List (Nat×Sq σ)→Env→Prop}
variable {op:Op}{t:TypeId}{pos:String}{af:Array Edge}
theorem Acl(h:K L e):AD P full J R h0 k L [] e K:=h
theorem R5{e us us':Env}{d:Nat}(h:∀j,j≠d→us j=us' j):∀(L:List (Nat×Sq σ)) {i:Nat},i≠d→FQ e L us i=FQ e L us' i
 |[],_,_=>rfl
 |p::L,i,hi=>by
  simp only[FQ];by_cases hp:i=p.1
  ·subst hp;rw[Ck,Ck,h _ hi]
  ·rw[Ch _ _ hp,Ch _ _ hp,R5 h L hi]
theorem FR.all{c:Nat→Bool}{h:σ}:∀{L:List (Nat×Sq σ)} {e:Env} {k:Env→Prop},(∀us,k (FQ e L us))→FR c h L e k
 |[],_,_,hk=>hk fun _=>undef
 |p::L,e,k,hk=>FR.all (L:=L) fun us u _=>by
  have h1:=hk (upd us p.1 u);have h2:upd (FQ e L (upd us p.1 u)) p.1 u=upd (FQ e L us) p.1 u:=by
   funext i;by_cases hi:i=p.1
   ·subst hi;rw[Ck,Ck]
   ·rw[Ch _ _ hi,Ch _ _ hi];exact R5 (fun j hj=>Ch _ _ hj) L hi
  simp only[FQ,Ck,h2] at h1;exact h1
theorem Aby{d:Nat}{g:Option (Nat×Bool)}{v:Value}(hr:∀us,runs full (FQ e L us) ⟨some d,op,t,pos,af,g⟩=true)(hR:Pre R)(hJ:∀D s w,J D s w→J (AZ D k) s w)
  (hy:∀D h1 w us,R h0 h1→J D h1 w→Y P ⟨some d,op,t,pos,af,g⟩ (FQ e L us) w v) (h:AD P full J R h0 (k+1) L rest (upd e d v) K) :
  AD P full J R h0 k L (⟨some d,op,t,pos,af,g⟩::rest) e K:=
 .inr ⟨hr,.inl ⟨v,fun D h1 w _ hl I=>FR.all fun us=>by unfold Op1;rw[hy D h1 w us hl I];exact⟨h1,hR.refl h1,hJ D h1 w I,rfl⟩,h⟩⟩
theorem AbT{d:Nat}{g:Option (Nat×Bool)}{Φ:Sq σ}(hm:Cj R Φ)(hr:∀us,runs full (FQ e L us) ⟨some d,op,t,pos,af,g⟩=true)
  (hy:Aaf P full J R h0 k L e ⟨some d,op,t,pos,af,g⟩ Φ) (h:AD P full J R h0 (k+1) ((d,Φ)::L) rest e K) :
  AD P full J R h0 k L (⟨some d,op,t,pos,af,g⟩::rest) e K:=
 .inr ⟨hr,.inr ⟨d,Φ,rfl,hm,hy,h⟩⟩
theorem AdV{g:Option (Nat×Bool)}(hr:∀us,runs full (FQ e L us) ⟨none,op,t,pos,af,g⟩=true)
  (hy:Aaf P full J R h0 k L e ⟨none,op,t,pos,af,g⟩ (fun u _=>u=undef)) (h:AD P full J R h0 (k+1) L rest e K) :
  AD P full J R h0 k L (⟨none,op,t,pos,af,g⟩::rest) e K:=
 .inr ⟨hr,.inl ⟨undef,hy,h⟩⟩
theorem Aa(us:Env){d:Option Nat}:runs full (FQ e L us) ⟨d,op,t,pos,af,none⟩=true:=rfl
end
end
section
structure BxS where
 h:Ae
 o7:Option Nat
 o8:Option Nat
def pcs(o:Option Nat)(f:Bool)(z c:List Value)(T:TypeId):List SA:=match o with
 |none=>[]
 |some b=>[box b (if f then c else z) T]
structure JBx(B:Aq)(M:List SA)(T:TypeId)(z c:List Value)(i7 i8 i12:Nat)(D:Nat→Bool)(s:BxS)(w:World):Prop where
 h7:s.o7.isSome=D i7
 h8:s.o8.isSome=D i8
 ord:D i12=true→D i7=true
 inv:Inv B s.h (pcs s.o7 (D i12) z c T++(pcs s.o8 false z c T++M)) w
structure RBx(s s':BxS):Prop where
 h:s.h.le s'.h
 h7:∀b,s.o7=some b→s'.o7=some b
 h8:∀b,s.o8=some b→s'.o8=some b
theorem RBx.pre:Pre RBx:=⟨fun _=>⟨Ae.le.refl _,fun _ h=>h,fun _ h=>h⟩,fun _ _ _ h k=>⟨h.h.trans k.h,fun b e=>k.h7 b (h.h7 b e),fun b e=>k.h8 b (h.h8 b e)⟩⟩
section
variable {B:Aq}{M:List SA}{T:TypeId}{z c:List Value}{i7 i8 i12 k:Nat}{D:Nat→Bool}{s:BxS}{w:World}
theorem JBx.base(j:JBx B M T z c i7 i8 i12 D s w):Inv B s.h M w:=j.inv.weak ((AfJ _ _).trans (AfJ _ _))
theorem JBx.set(h:i7≠k∧i8≠k∧i12≠k):∀D s w,JBx B M T z c i7 i8 i12 D s w→JBx B M T z c i7 i8 i12 (AZ D k) s w:=fun D s w j=>by
 have e:∀i,i≠k→AZ D k i=D i:=fun i hi=>by simp[AZ,hi]
 exact⟨by rw[e _ h.1];exact j.h7,by rw[e _ h.2.1];exact j.h8,by rw[e _ h.1,e _ h.2.2];exact j.ord,by rw[e _ h.2.2];exact j.inv⟩
def At7(u:Value)(s:BxS):Prop:=∃b,u=(Pt b)∧s.o7=some b
theorem At7.mono:Cj RBx At7:=fun _ _ _ r ⟨b,h1,h2⟩=>⟨b,h1,r.h7 b h2⟩
end
section
variable {P:Program}{full:Array Oper}{B:Aq}{M:List SA}{T:TypeId}{z c:List Value}{i7 i8 i12 k:Nat}{h0:BxS}{L:List (Nat×Sq BxS)}{rest:List Oper}{e:Env}{K:List (Nat×Sq BxS)→Env→Prop}
variable {t:TypeId}{pos:String}{af:Array Edge}
theorem AcR{d:Nat}{zv:Value}(hz:Pj P T zv)(hc:zv.cells=z.toArray)(h78:i8≠i7)(h712:i12≠i7)(h:AD P full (JBx B M T z c i7 i8 i12) RBx h0 (i7+1) ((d,At7)::L) rest e K) :
  AD P full (JBx B M T z c i7 i8 i12) RBx h0 i7 L (⟨some d,.alloc T,t,pos,af,none⟩::rest) e K:=by
 refine AbT At7.mono (fun _=>Aa _) (fun D s w hDk hl hj=>FR.all fun us=>?_) h;have h7:s.o7=none:=by
  have:=hj.h7;rw[hDk] at this;cases h:s.o7<;>simp_all
 have h12:D i12=false:=by
  cases hh:D i12
  ·rfl
  ·rw[hj.ord hh] at hDk;cases hDk
 have I:=hj.inv;rw[h7] at I;refine O.alloc I hz hc fun b w' I'=>⟨⟨s.h,some b,s.o8⟩,⟨Ae.le.refl _,fun b' e=>(by rw[h7] at e;cases e),fun _ e=>e⟩,⟨?_,?_,fun _=>by simp[AZ],?_⟩,b,rfl,rfl⟩
 ·simp[AZ]
 ·rw[show AZ D i7 i8=D i8 from by simp[AZ,h78]];exact hj.h8
 ·rw[show AZ D i7 i12=false from by simp[AZ,h712,h12]];exact I'
theorem AcI{a x:Operand}{n:Nat}{ag:Bool}{v:Value}(hT:Ty P T n ag)(hl7:z.length=n)(hcl:c.length=n)(hL:∀s,FR (lk full ⟨none,.store T a x,t,pos,af,none⟩) s L e (fun e'=>At7 (ev e' a) s∧ev e' x=v))(hv:v.cells=c.toArray)(h1:AJ c=true)(h7k:i7≠i12)(h8k:i8≠i12)
  (h:AD P full (JBx B M T z c i7 i8 i12) RBx h0 (i12+1) L rest e K):AD P full (JBx B M T z c i7 i8 i12) RBx h0 i12 L (⟨none,.store T a x,t,pos,af,none⟩::rest) e K:=by
 refine AdV (fun _=>Aa _) (fun D s w hDk hl hj=>?_) h;have key:∀(L:List (Nat×Sq BxS)) (e:Env) (k k':Env→Prop),(∀x,k x→k' x)→FR (lk full ⟨none,.store T a x,t,pos,af,none⟩) s L e k→FR (lk full ⟨none,.store T a x,t,pos,af,none⟩) s L e k':=by
  intro L;induction L with
  |nil=>intro e k k' hk a;exact hk _ a
  |cons p L ih=>intro e k k' hk a;exact ih e _ _ (fun x hx u hu=>hk _ (hx u hu)) a
 refine key L e _ _ ?_ (hL s);rintro e' ⟨⟨b,ha,hb⟩,hx⟩;have I:=hj.inv;rw[hb,hDk] at I;refine Ab3 (cs':=c) I hT 0 rfl ha hx hv hcl h1 (by simp only[Afy,if_false];omega) ?_ fun w' I'=>⟨s,RBx.pre.refl s,⟨?_,?_,fun _=>?_,?_⟩,rfl⟩
 ·simp only[Afy,if_false];rw[Dp _ _ _ (Afa _)];simp[hcl,hl7]
 ·rw[show AZ D i12 i7=D i7 from by simp[AZ,h7k]];exact hj.h7
 ·rw[show AZ D i12 i8=D i8 from by simp[AZ,h8k]];exact hj.h8
 ·rw[show AZ D i12 i7=D i7 from by simp[AZ,h7k],←hj.h7,hb];rfl
 ·rw[hb,show AZ D i12 i12=true from by simp[AZ]];exact I'
theorem Adn{d:Nat}{op:Op}{v:Value}(h7:i7≠k∧i8≠k∧i12≠k)(hy:∀D s w us,RBx h0 s→JBx B M T z c i7 i8 i12 D s w→Op1 P ⟨some d,op,t,pos,af,none⟩ (FQ e L us) w fun u w'=>u=v∧JBx B M T z c i7 i8 i12 D s w')(h:AD P full (JBx B M T z c i7 i8 i12) RBx h0 (k+1) L rest (upd e d v) K) :
  AD P full (JBx B M T z c i7 i8 i12) RBx h0 k L (⟨some d,op,t,pos,af,none⟩::rest) e K:=
 .inr ⟨fun _=>Aa _,.inl ⟨v,fun D s w _ hl hj=>FR.all fun us=>(hy D s w us hl hj).mono fun _ _ ⟨a,b⟩=>⟨s,RBx.pre.refl s,JBx.set h7 D s _ b,a⟩,h⟩⟩
end
end
section
def R6(B:Aq)(hg:Ae){σ:Type}(U:σ→List SA)(T:List SA)(Jn:σ→Ae→Prop)(Jx:Jmp→σ→Ae→Prop):Exit→Env→World→Prop
 |.normal,_,W=>∃h2 s X,hg.le h2∧Inv B h2 (X++(U s++T)) W∧Jn s h2
 |.ret,_,W=>∃h2 s X,hg.le h2∧Inv B h2 (X++(U s++T)) W∧Jx .ret s h2
 |.exit id,_,W=>∃h2 s X,hg.le h2∧Inv B h2 (X++(U s++T)) W∧Jx (.exit id) s h2
 |.goto t,_,W=>∃h2 s X,hg.le h2∧Inv B h2 (X++(U s++T)) W∧Jx (.goto t) s h2
 |_,_,_=>False
theorem Ac6{α σ:Type}{P:Program}{N:Nat}{e:Env}{w:World}{Q:Exit→Env→World→List Deferred→Prop}{B:Aq}{h:Ae}{ms:List Nat}{g:Operand}{ps:Array Tmp}{assign body:Code}{gf:FuncId}{lb:List Value}
  {encs:α→List Value} {xs:List α} (U:σ→List SA) (Jc:Nat→σ→Ae→Prop) (Jx:Jmp→σ→Ae→Prop) (mono:∀k s h h',h.le h'→Jc k s h→Jc k s h') (s0:σ) (I:Inv B h (U s0++ms.map AA) w) (j0:Jc 0 s0 h)
  (hg:ev e g=.func (.func gf) #[] lb.toArray) (eg:BE P gf) (it:Xd P gf lb encs xs h) (hps:∀x,(encs x).length=ps.size) (hpN:ps.toList.all (· < N)=true) (hsa:AS N assign=true) (hsb:AS N body=true)
  (round:∀(l:Nat) (r:Loop) (ms':List Nat) (hg:Ae) (k:Nat) (x:α) (s:σ) (W:World),xs[k]?=some x→h.le hg→Inv B hg (U s++(AN l r::ms'.map AA)) W→Jc k s hg→
   WPI P N l assign (argE e (ps.toList.zip (encs x))) W (Fh (fun e1 W1=>∃h1 X,hg.le h1∧Inv B h1 (X++(U s++(AN l r::ms'.map AA))) W1∧
    ∀r' W2,Inv B h1 (X++(U s++(AN l r'::ms'.map AA))) W2→WPI P N l body e1 W2 (R6 B h1 U (AN l r'::ms'.map AA) (Jc (k+1)) Jx)) (fun _ _ _=>False)))
  (hdone:∀D h2 s W,h.le h2→Inv B h2 (U s++(D::ms).map AA) W→Jc xs.length s h2→Q .normal e W ((D::ms).map mark))
  (hstop:∀D c h2 s W,h.le h2→Inv B h2 (U s++(D::ms).map AA) W→Jx c s h2→Q c.ex e W ((D::ms).map mark)) :
  WPD P N (ms.map mark) (.rangeFunc g ps assign body) e w Q:=by
 intro _ a h1 h2 h3;subst h3;refine(wpIn_wide (n:=1)).1 (wpIn_rangeFunc fun fn _=>?_);obtain⟨rec,hrec⟩:∃rec:LoopState→Option Code→Loop,rec=fun st pe=>{state:=st,pending:=pe,fn,tmps:=a.tmps,params:=ps,assign,body,defers:=w.heap.size}:=⟨_,rfl⟩;obtain⟨l,hl⟩:∃l,l=w.heap.size+1:=⟨_,rfl⟩;obtain⟨W1,hW1⟩:∃W1,(w.alloc (.deferred (some []))).alloc (.loop (rec .ready none))=W1:=⟨_,rfl⟩;have I1:Inv B h (U s0++(AN l (rec .ready none)::(w.heap.size::ms).map AA)) W1:=by
  have J1:Inv B h (AA w.heap.size::(U s0++ms.map AA)) (w.alloc (.deferred (some []))):=I.gain (CZ.alloc w _) (World.alloc_heap_new w _) (fun b hb=>by simp[AA] at hb;subst hb;simp);have J2:Inv B h (AN l (rec .ready none)::(AA w.heap.size::(U s0++ms.map AA))) W1:=by
   rw[←hW1];refine J1.gain (CZ.alloc _ _) ?_ (fun b hb=>?_)
   ·have:=World.alloc_heap_new (w.alloc (.deferred (some []))) (.loop (rec .ready none));rw[World.size_alloc] at this;rw[hl];exact this
   ·simp[AN] at hb;subst hb;rw[hl];simp
  exact J2.perm<|Agi.trans<|List.Perm.cons _<|Agi
 refine⟨l,[mark w.heap.size],W1,{target:=.fn (.func gf) lb.toArray,args:=#[.func (.yield l) #[] #[]]},W1,gf,#[.func (.yield l) #[] #[]]++lb.toArray,W1,?_,?_,fun _ _=>trivial,?_,(fun hd=>by cases hd),?_⟩
 ·rw[←hW1,hrec,hl];exact run_enterLoop_outer _ _ _ _ _
 ·rw[BU];have hg':ev (env a) g=.func (.func gf) #[] lb.toArray:=hg;simp only[resolve,hg'];simp[go_sem];rfl
 ·simp[invoke,go_sem];exact eg _ _
 ·refine callsIn_wide.2 ?_;refine(it l (fun hg k W=>h.le hg∧∃s,Inv B hg (U s++(AN l (rec .ready none)::(w.heap.size::ms).map AA)) W∧Jc k s hg)
   (fun W=>∃c hg s,h.le hg∧Inv B hg (U s++(AN l (rec .done (some c.code))::(w.heap.size::ms).map AA)) W∧Jx c s hg) h W1 (Ae.le.refl h) ⟨Ae.le.refl h,s0,I1,j0⟩
   (fun hg k W ⟨_,s,I,_⟩=>I.j6) (fun hg k W hg' W' ⟨g1,s,I,hj⟩ X=>⟨g1.trans X.ext,s,I.called X,mono _ _ _ _ X.ext hj⟩) ?_).mono ?_
  ·rintro hg' k x W g0 hx ⟨g1,s,IW,hj⟩;have hL:=IW.getLoop;have hy:=run_yield (P:=P) (args:=(encs x).toArray) hL (by rw[hrec];simpa using hps x);refine⟨_,_,_,_,hy,roundIn_of_wpIn trivial ?_⟩;rw[hrec];have hfold:(ps.zip (encs x).toArray).foldl (fun tmps (t,a)=>tmps.setIfInBounds t a) a.tmps=(ps.toList.zip (encs x)).foldl (fun t p=>t.setIfInBounds p.1 p.2) a.tmps:=by
    rw[←AhH];simp
   have hE:=ID (N:=N) (ps.toList.zip (encs x)) a.tmps h1 (fun p hp=>by
    have:=(Aff.1 hpN) p.1 (Ag8 hp).1;simpa using this)
   have henv:env {tmps:=a.tmps,defers:=[]}=env a:=rfl;rw[henv] at hE;have hR:=round l (rec .ready none) (w.heap.size::ms) hg' k x s W hx g1 IW hj hsa {tmps:=(ps.toList.zip (encs x)).foldl (fun t p=>t.setIfInBounds p.1 p.2) a.tmps,defers:=[]} hE.2 rfl hE.1;simp only[hfold];refine wpIn_mono hR ?_;rintro x1 a1 w1 ⟨k1,k2,k3⟩;cases x1<;>simp only[Fh] at k3<;>first|exact k3.elim|skip;obtain⟨hg1,X,gl1,IX,hb⟩:=k3;have IX':Inv B hg1 ((X++U s)++(AN l (rec .ready none)::(w.heap.size::ms).map AA)) w1:=by rw[Afe];exact IX
   refine⟨_,run_beginRound IX'.getLoop (by rw[hrec]),?_⟩;have I2:=IX'.q8 {rec .ready none with state:=.busy};rw[Afe] at I2;refine wpIn_mono (hb _ _ I2 hsb a1 k1 k2 rfl) ?_;have fin:∀(jump:Option Code) (h2:Ae) (s2:σ) (X2:List SA) (W3:World),Inv B h2 (X2++(U s2++(AN l {rec .ready none with state:=.busy}::(w.heap.size::ms).map AA))) W3→
     ∃W4,(Instr.endRound l jump).run P W3=.ok (.bool jump.isNone) W4∧Inv B h2 (U s2++(AN l (rec (if jump.isNone then .ready else .done) jump)::(w.heap.size::ms).map AA)) W4:=fun jump h2 s2 X2 W3 I3=>by
    have I3':Inv B h2 (U s2++(AN l {rec .ready none with state:=.busy}::(w.heap.size::ms).map AA)) W3:=I3.weak (AfJ _ _);have:=run_endRound (P:=P) jump I3'.getLoop;refine⟨_,this,?_⟩;have I4:=I3'.q8 (rec (if jump.isNone then .ready else .done) jump);rw[hrec] at I4 ⊢;exact I4
   rintro x2 a2 w2 ⟨q1,q2,q3⟩;cases x2<;>simp only[R6] at q3<;>simp only[roundPost]<;>first|exact q3.elim|skip
   ·obtain⟨h2,s2,X2,gl2,I3,hj2⟩:=q3;obtain⟨W4,hr,I4⟩:=fin none h2 s2 X2 _ I3;exact⟨_,_,hr,.inl ⟨rfl,h2,gl1.trans gl2,(g1.trans gl1).trans gl2,s2,(by rw[hrec] at I4;exact I4),hj2⟩⟩
   ·rename_i id;obtain⟨h2,s2,X2,gl2,I3,hj2⟩:=q3;obtain⟨W4,hr,I4⟩:=fin (some (.exit id)) h2 s2 X2 _ I3;exact⟨_,_,hr,.inr ⟨rfl,.exit id,h2,s2,(g1.trans gl1).trans gl2,(by rw[hrec] at I4;exact I4),hj2⟩⟩
   ·rename_i t;obtain⟨h2,s2,X2,gl2,I3,hj2⟩:=q3;obtain⟨W4,hr,I4⟩:=fin (some (.goto t)) h2 s2 X2 _ I3;exact⟨_,_,hr,.inr ⟨rfl,.goto t,h2,s2,(g1.trans gl1).trans gl2,(by rw[hrec] at I4;exact I4),hj2⟩⟩
   ·obtain⟨h2,s2,X2,gl2,I3,hj2⟩:=q3;obtain⟨W4,hr,I4⟩:=fin (some .ret) h2 s2 X2 _ I3;exact⟨_,_,hr,.inr ⟨rfl,.ret,h2,s2,(g1.trans gl1).trans gl2,(by rw[hrec] at I4;exact I4),hj2⟩⟩
  ·rintro ed W2 ⟨⟨v,rfl⟩,(⟨hg',gl,g1,s,I2,hj⟩|⟨c,hg',s,g1,I2,hj⟩)⟩
   ·refine⟨none,_,by have:=run_endLoop (P:=P) I2.getLoop (by rw[hrec];simp);rw[hrec] at this;exact this,?_⟩;have I3:=(I2.q8 {rec .ready none with state:=.exhausted}).u7;refine⟨h1,?_⟩;have hq:=hdone w.heap.size hg' s _ g1 (by rw[hrec] at I3;exact I3) hj;have hq':Q .normal (env a) (W2.putObj l (.loop {rec .ready none with state:=.exhausted})) (mark w.heap.size::a.defers):=by rw[h2];rw[hrec];exact hq
    rw[hrec] at hq';exact hq'
   ·refine⟨some c.code,_,by have:=run_endLoop (P:=P) I2.getLoop (by rw[hrec];simp);rw[hrec] at this;exact this,?_⟩;have I3:=(I2.q8 {rec .done (some c.code) with state:=.exhausted}).u7;have hq:=hstop w.heap.size c hg' s _ g1 (by rw[hrec] at I3;exact I3) hj;have hq':Q c.ex (env a) (W2.putObj l (.loop {rec .done (some c.code) with state:=.exhausted})) (mark w.heap.size::a.defers):=by rw[h2];rw[hrec];exact hq
    rw[hrec] at hq';cases c with
    |ret=>exact wpIn_ret ⟨h1,hq'⟩
    |exit id=>exact wpIn_exit ⟨h1,hq'⟩
    |goto t=>exact wpIn_goto ⟨h1,hq'⟩
theorem Adw{P:Program}{N:Nat}{D:List Deferred}{e:Env}{w:World}{Q:Exit→Env→World→List Deferred→Prop}{id:Nat}{ops:Array Oper}{B:Aq}{h:Ae}{M:List SA}(hm:LH P)(I:Inv B h M w)(hB:Region.lexB .any ops=true)
  (k:Am P ops (Inv B h M) ops.toList e (fun e'=>∀w',Inv B h M w'→Q .normal e' w' D)):WPD P N D (.region id ops true) e w Q:=WPD.of (AbD hm I hB k)
theorem AcJ{P:Program}{o:Oper}{e:Env}{w:World}{B:Aq}{h:Ae}{M:List SA}{Φ:Sp}{v:Value}(I:Inv B h M w)(hy:Y P o e w v)(hv:Φ v h):Op1 P o e w (fun u w'=>∃h2,h.le h2∧Inv B h2 M w'∧Φ u h2):=by
 unfold Op1;rw[hy];exact⟨h,Ae.le.refl _,I,hv⟩
theorem AeD{P:Program}{o:Oper}{e:Env}{w:World}{B:Aq}{h:Ae}{M:List SA}{v v':Value}(I:Inv B h M w)(hy:Y P o e w v)(hv:v=v'):Op1 P o e w (fun u w'=>u=v'∧Inv B h M w'):=by
 unfold Op1;rw[hy];exact⟨hv,I⟩
end
section
@[reducible] def Xg(c:UInt8):List Value:=[.int .u8 (c.toNat:Int)]
theorem R7:∀l:List UInt8,l.flatMap Xg=l.map fun c=>Value.int .u8 (c.toNat:Int)
 |[]=>rfl
 |y::r=>by rw[AfK,R7 r];rfl
section
variable {P:Program}{e:Env}{w:World}{t:TypeId}{pos:String}{af:Array Edge}{g:Option (Nat×Bool)}{d:Option Nat}
theorem Ae1{S T el b o n c:Nat}{x:Operand}{l:List UInt8}(hs:Und P S (.slice el))(he:Und P el (.int .u8))(hd:Und P T .string)(hx:ev e x=.slice (some ⟨b,o,none⟩) n c)(hr:Rd w b o (l.flatMap Xg)∧l.length=n) :
  Y P ⟨d,.convert S T x,t,pos,af,g⟩ e w (.string ⟨l.toArray⟩):=by
 obtain⟨hr,rfl⟩:=hr;have hfl:=R7 l;have hc:∀j (hj:j<l.length),w.cell? ((⟨b,o,none⟩:Addr).add j)=some (.int .u8 (l[j].toNat:Int)):=fun j hj=>by
  rw[BN];exact hr j _ (by rw[hfl,AfI,Ae4 hj];rfl)
 have:=run_convert_bytes_back (P:=P) w S T el ⟨b,o,none⟩ c l hs he hd hc;simp[Y,execOp,hx,this]
theorem AdG{S T el b:Nat}{x:Operand}{c:UInt8}{h:Ae}{B:Aq}{M:List SA}(I:Inv B h M w)(hs:Und P S (.slice el))(he:Und P el (.int .u8))(hd:Und P T .string)(hx:ev e x=.slice (some ⟨b,0,none⟩) 1 1)(hr:(⟨some ⟨b,0,none⟩,1,[c]⟩:Sl UInt8).In 1 Xg h) :
  Y P ⟨d,.convert S T x,t,pos,af,g⟩ e w (.string ⟨#[c]⟩):=Ae1 (l:=[c]) hs he hd hx ⟨I.rd (hr 0 c rfl).2,rfl⟩
end
def chT(c:Int):ByteArray:=⟨#[UInt8.ofNat c.toNat]⟩
theorem IF(c:Int):(chT c).size=1:=rfl
theorem Jg{c:Int}(h0:0≤c)(h1:c<256):IntKind.u8.wrap c=c:=by
 simp only[IntKind.wrap,IntKind.bits,IntKind.signed];simp;omega
theorem LL{c:Int}(h0:0≤c)(h1:c<256):((UInt8.ofNat c.toNat).toNat:Int)=c:=by
 rw[UInt8.toNat_ofNat'];omega
end
end Go.TF
