/- A region that draws its order may be run in the text's order, where its operations are apart. No condition. -/
import Derived.Test.YtjooeakgbamfnaaGreatDoorKFb
import Derived.Orders
import Derived.Test.YtjooeakgbamfnaaGreatDoorKFa
import Derived.KernelRfl
import Derived.Test.YtjooeakgbamfnaaGreatDoorProg
set_option linter.unusedVariables false
set_option linter.defProp false
set_option linter.unusedSimpArgs false
set_option linter.constructorNameAsVariable false
namespace Go.Proofs.YtjooeakgbamfnaaGreatDoor.Ab
open Go.RowKit
def cn(o:Oper)(i:Nat):Bool:=o.after.toList.any λe=>Region.binds .any e&&Nat.beq e.on i
def cD(ops:Array Oper)(i:Nat):Oper:=ops.getD i default
def below(n:Nat)(p:Nat->Bool):Bool:=(List.range n).all p
def pd(ops:Array Oper)(i j:Nat):Bool:=match(cD ops i).dst with|some d=>((cD ops j).looksAt ops).any (Nat.beq d)|none=>false
def yh:List Nat->Nat
 | []=>0
 | k::a=>2 ^ k ||| yh a
def ons(o:Oper):List Nat:=(o.after.toList.filter λe=>Region.binds .any e).map (·.on)
def frc{α:Type}(n:Nat)(K:Nat->α):α:=match n with|0=>K 0|n+1=>K (n+1)
def F5{α:Type}(n:Nat)(K:Nat->α):frc n K=K n:=by cases n<;>rfl
def clo(ops:Array Oper):Nat->Nat->Nat
 | 0,S=>S
 | k+1,S=>bif S.testBit k then frc (S ||| yh (ons (cD ops k))) (clo ops k) else clo ops k S
def vO(ops:Array Oper)(m:Nat):Bool:=
 below ops.size λj=>((cD ops j).after.toList.all λe=>!Region.binds .any e || Nat.blt e.on j) &&
  (bif Nat.blt j m then below m (λi=>Nat.beq i j || ((cn (cD ops j) i || cn (cD ops i) j || (cD ops i).apart ops (cD ops j))&&(!pd ops i j || cn (cD ops j) i))) else frc (clo ops j (yh (ons (cD ops j)))) λS=>below j λi=>S.testBit i)
def sF:List (Nat × Nat × List Nat)->Nat->Option (Nat × List Nat)
 | [],_=>none
 | p::l,id=>bif Nat.beq id p.1 then some p.2 else sF l id
def eA(P:Program)(TE:Nat->Option TI)(N:d7)(ops:Array Oper)(o:Oper)(K:(Nat->AV)->Prop)(F:Nat->AV):Prop:=
 dN F ops o.guard (λF=>match o.dst with|some d=>cm P TE F o.op λa=>bh N F d a K|none=>False)
  (λF=>match o.dst with|some d=>bh N F d (.F (.tup []) []) K|none=>False)
def jG:Op->Option (Option Nat × Nat)
 | .buildSlice T 1 ps=>(match ps.toList with|[(0,.tmp s)]=>some (some T,s)|_=>none)
 | .move (.tmp s)=>some (none,s)
 | _=>none
def own1(T:Option Nat)(k:Kd)(cs:List C):Bool:=match T with
 | some _=>(match k with
   | .one=>(match cs with|[c]=>cW c|_=>false)
   | .agg=>(match cs with|[c]=>cW c|_=>false)
   | _=>false)
 | none=>(match k with|.tup _=>!aQ cs|_=>false)
def HE(TE:Nat->Option TI)(N:d7)(F:Nat->AV)(d:Nat)(T:Option Nat)(s:Nat)(K:(Nat->AV)->Prop):Prop:=match T with
 | some T=>dX TE N F d T 1 [(0,.tmp s)] K
 | none=>fA N F d (.tmp s) K
def AC(F:Nat->AV)(o:Oper):Option (Option Nat × Nat):=
 match o.guard with
 | some _=>none
 | none=>match jG o.op with
  | none=>none
  | some p=>match F p.2 with
   | .F k cs=>bif own1 p.1 k cs then some p else none
   | .dead=>none
   | .ref ..=>none
   | .w ..=>none
   | .iref ..=>none
   | .fn ..=>none
   | .fv _=>none
def fR(ops:Array Oper)(o:Oper)(s:Nat):Bool:=
 ((List.range ops.size).any λk=>cn o k&&(match(cD ops k).dst with|some a=>Nat.beq a s|none=>false))&&Nat.ble (ops.toList.filter λk=>(k.looksAt ops).any (Nat.beq s)).length 1
def mB(ds:List Nat)(o:Oper):Bool:=match o.dst with|some d=>ds.any (Nat.beq d)|none=>false
def twk:List Nat->List Nat
 | []=>[]
 | e::l=>bif Nat.ble 1000 e then(e - 1000)::twk l else []
def dec:List Nat->List (Nat × List Nat)
 | []=>[]
 | e::l=>bif Nat.ble 1000 e then dec l else(e,twk l)::dec l
def GM:Op->Bool
 | .move (.tmp _)=>true
 | .assign _=>true
 | .extract ..=>true
 | .build ..=>true
 | .buildSlice ..=>true
 | .store ..=>true
 | .load ..=>true
 | .fieldAddr ..=>true
 | .field ..=>true
 | .binOp ..=>true
 | .unOp ..=>true
 | .call c=>(mJ c).isSome
 | .slice _ _ none (some _) none=>true
 | .slice _ _ (some _) none none=>true
 | _=>false
def lg:Op->Bool
 | .call c=>(match c.callee with|.value (.func _)=>true|_=>false)
 | _=>false
def sx(l:List (Nat × List Nat))(i:Nat):Bool:=l.any λp=>Nat.beq p.1 i
def qG(ops:Array Oper)(j i:Nat):Bool:=(clo ops j (yh (ons (cD ops j)))).testBit i
def HP(o:Oper):Bool:=match o.guard with|none=>true|some _=>false
def Js(sch:List (Nat × List Nat))(i:Nat):Bool:=sch.any λp=>Nat.beq p.1 i&&!p.2.isEmpty
def Jg(ops:Array Oper)(a b:Oper)(nm:Bool):Bool:=match b.dst with
 | none=>false
 | some c=>HP a&&(GM a.op || lg a.op)&&!(match a.dst with|some d=>Nat.beq d c|none=>false)&&!(a.looksAt ops).any (Nat.beq c)&&HP b&&!(b.looksAt ops).any (Nat.beq c)&&(nm || match jG b.op with|none=>true|some p=>!fR ops b p.2)
def uT(ops:Array Oper)(ds:List Nat)(nm:Nat->Bool)(i j:Nat):Bool:=
 bif mB ds (cD ops j) then(bif mB ds (cD ops i) then(cn (cD ops j) i || cn (cD ops i) j || (cD ops i).apart ops (cD ops j))&&(!pd ops i j || cn (cD ops j) i)&&!(match(cD ops i).dst with|some d=>(match(cD ops j).dst with|some e=>Nat.beq d e|none=>false)|none=>false) else true)
 else(bif mB ds (cD ops i) then(qG ops j i || qG ops i j || Jg ops (cD ops j) (cD ops i) (nm i))&&(!pd ops i j || cn (cD ops j) i) else true)
def yE(ops:Array Oper)(ds:List Nat):List (Nat × List Nat)->Bool
 | []=>true
 | k::l=>Nat.blt k.1 ops.size&&!sx l k.1&&((cD ops k.1).after.toList.all λe=>!Region.binds .any e || !(Nat.beq k.1 e.on || sx l e.on)) &&
  (mB ds (cD ops k.1) || ((l.all λj=>qG ops j.1 k.1)&&(below ops.size λp=>!mB ds (cD ops p) || sx l p || qG ops k.1 p || k.2.any (Nat.beq p))&&(!(l.any λj=>mB ds (cD ops j.1)) || (HP (cD ops k.1)&&(GM (cD ops k.1).op || lg (cD ops k.1).op)))))&&yE ops ds l
def vu(ops:Array Oper)(ds:List Nat)(sch:List (Nat × List Nat)):Bool:=
 (below ops.size λj=>((cD ops j).after.toList.all λe=>!Region.binds .any e || Nat.blt e.on j)&&sx sch j&&(!mB ds (cD ops j) || (match jG (cD ops j).op with|none=>true|some p=>!fR ops (cD ops j) p.2 || ds.any (Nat.beq p.2)))&&below ops.size λi=>Nat.beq i j || uT ops ds (Js sch) i j)&&Nat.beq sch.length ops.size&&yE ops ds sch
def ma(a:List (Nat × Nat × List Nat))(id:Nat)(ops:Array Oper):Bool:=
 match sF a id with
 | some (m,ds)=>bif Nat.ble 65536 m then true else bif Nat.ble 256 m then vu ops (ds.take (m - 256)) (dec (ds.drop (m - 256))) else(Nat.ble m ops.size&&below m λj=>match(cD ops j).dst with|some d=>ds.any (Nat.beq d)|none=>true)&&vO ops m
 | none=>false
def iH(P:Program)(TE:Nat->Option TI)(N:d7)(ops:Array Oper)(o:Oper)(K:(Nat->AV)->Prop)(F:Nat->AV):Prop:=
 match AC F o with
 | some p=>(match o.dst with|some d=>bif fR ops o p.2 then HE TE N F d p.1 p.2 K else False|none=>False)
 | none=>eA P TE N ops o K F
def ER(P:Program)(TE:Nat->Option TI)(N:d7)(ops:Array Oper):Nat->List Oper->((Nat->AV)->Prop)->(Nat->AV)->Prop
 | 0,l,K,F=>Du P TE N ops l K F
 | _+1,[],K,F=>K F
 | m+1,o::l,K,F=>iH P TE N ops o (ER P TE N ops m l K) F
def Ge(ds:List Nat)(t:Nat):Bool:=ds.any (Nat.beq t)
def JD(ds:List Nat):AV->AV
 | .ref t off st=>bif Ge ds t then .dead else .ref t off st
 | .w t off st ag=>bif Ge ds t then .dead else .w t off st ag
 | .fn f caps=>bif caps.any (Ge ds) then .dead else .fn f caps
 | .F k cs=>.F k cs
 | .iref r off=>.iref r off
 | .fv Ok=>.fv Ok
 | .dead=>.dead
def clr(ds:List Nat)(F:Nat->AV):Nat->AV:=λt=>JD ds (F t)
theorem vG(ds:List Nat)(F:Nat->AV)(t:Nat):clr ds F t=bif ds.any (λd=>(F t).uses d) then .dead else F t:=by
 unfold clr;cases F t with
 | dead=>cases ds.any λd=>AV.uses d .dead<;>rfl
 | F k i=>
  have:ds.any (λd=>(AV.F k i).uses d)=false:=by
   rw[<-Bool.not_eq_true,V1]
   rintro⟨d,_,h⟩
   cases h
  rw[this];rfl
 | iref r a=>
  have:ds.any (λd=>(AV.iref r a).uses d)=false:=by
   rw[<-Bool.not_eq_true,V1]
   rintro⟨d,_,h⟩
   cases h
  rw[this];rfl
 | fv Ok=>
  have:ds.any (λd=>(AV.fv Ok).uses d)=false:=by
   rw[<-Bool.not_eq_true,V1]
   rintro⟨d,_,h⟩
   cases h
  rw[this];rfl
 | ref j a l=>rfl
 | w j a l n=>rfl
 | fn f caps=>
  have:ds.any (λd=>(AV.fn f caps).uses d)=caps.any (Ge ds):=by
   rw[N2,V1,V1];constructor
   ·rintro⟨d,b,h⟩
    simp only[AV.uses,V1]at h;obtain⟨c,e,g⟩:=h;exact⟨c,e,V1.2 ⟨d,b,g⟩⟩
   rintro⟨c,e,h⟩
   obtain⟨d,b,g⟩:=V1.1 h
   grind [AV.uses]
  rw[this];rfl
inductive Sm(a b:AV)(K:Prop):Prop
 |mk_ (h:a=b/\K)
def Sm.rf{a:AV}{K:Prop}(h:K):Sm a a K:=.mk_ ⟨rfl,h⟩
def Sm.out{a b:AV}{K:Prop}(h:Sm a b K):a=b/\K:=h.1
def Ji(P:Program)(TE:Nat->Option TI)(ops:Array Oper)(p:Nat)(K:Prop)(F:Nat->AV):Prop:=
 match(cD ops p).dst with
 | none=>False
 | some d=>(match AC F (cD ops p) with
   | some _=>False
   | none=>cm P TE F (cD ops p).op λa=>Sm a (F d) K)
def Fd(P:Program)(TE:Nat->Option TI)(ops:Array Oper):List Nat->Prop->(Nat->AV)->Prop
 | [],K,_=>K
 | p::l,K,F=>Ji P TE ops p (Fd P TE ops l K F) F
def E4(P:Program)(TE:Nat->Option TI)(N:d7)(ops:Array Oper)(nm:Bool)(o:Oper)(K:(Nat->AV)->Prop)(F:Nat->AV):Prop:=
 match nm with
 | false=>iH P TE N ops o K F
 | true=>(match AC F o with
   | some _=>False
   | none=>eA P TE N ops o K F)
def Dp(P:Program)(TE:Nat->Option TI)(N:d7)(ops:Array Oper)(ds:List Nat)(nm:Nat->Bool):List (Nat × List Nat)->((Nat->AV)->Prop)->(Nat->AV)->Prop
 | [],K,F=>K F
 | k::l,K,F=>bif mB ds (cD ops k.1) then E4 P TE N ops (nm k.1) (cD ops k.1) (Dp P TE N ops ds nm l K) F else fL P TE N ops (cD ops k.1) (λa=>Fd P TE ops k.2 (Dp P TE N ops ds nm l K a) a) F
def FC:List Nat->(List Nat->Prop)->Prop
 | [],K=>K []
 | a::l,K=>FC l λb=>K (a::b)
def Bk:∀(l:List Nat)(K:List Nat->Prop),FC l K=K l
 | [],_=>rfl
 | a::l,K=>by rw[FC,Bk l]
def vm(l:List Nat)(j:Nat):Bool:=l.any (Nat.beq j)
def Fz(ops:Array Oper)(done:List Nat):List Nat:=(List.range ops.size).filter λj=>!vm done j&&((cD ops j).after.toList.all λe=>!Region.binds .any e || vm done e.on)
def Jz(p:Nat->Prop):Nat->List Nat->Prop
 | i,[]=>p i
 | i,j::l=>p i/\Jz p j l
def J7(l:List Nat)(K:Prop)(p:Nat->Prop):Prop:=match l with
 | []=>K
 | i::l=>Jz p i l
def H4(P:Program)(TE:Nat->Option TI)(N:d7)(ops:Array Oper)(K:(Nat->AV)->Prop):Nat->List Nat->(Nat->AV)->Prop
 | 0,done,F=>J7 (Fz ops done) (K F) λ_=>False
 | n+1,done,F=>J7 (Fz ops done) (K F) λi=>fL P TE N ops (cD ops i) (H4 P TE N ops K n (i::done)) F
def DD(P:Program)(TE:Nat->Option TI)(N:d7)(b:List (Nat × Nat × List Nat))(id:Nat)(ops:Array Oper)(K:(Nat->AV)->Prop)(F:Nat->AV):Prop:=
 match sF b id with
 | some (m,ds)=>bif Nat.ble 65536 m then H4 P TE N ops K ops.size [] F else bif Nat.ble 256 m then FC (ds.take (m - 256)) λa=>Dp P TE N ops a (Js (dec (ds.drop (m - 256)))) (dec (ds.drop (m - 256))) K (clr a F) else ER P TE N ops m ops.toList K (clr ds F)
 | none=>False
theorem ey{n:Nat}{p:Nat->Bool}(h:below n p=true){i:Nat}(a:i<n):p i=true:=W1.1 h i ψ
theorem bz{o:Oper}{i:Nat} : cn o i=true↔∃e,e∈o.after/\Region.binds .any e=true/\e.on=i:=by grind [Z0,Nat.beq_refl,cn]
theorem aU{ops:Array Oper}{i:Nat}{o:Oper}(h:ops[i]? = some o):cD ops i=o:=by simp[cD,M3,h]
section
variable{P:Program}{w0 w w1:World}{M S0 S:aa}{N:d7}{φ:Nat->aa}{F:Nat->AV}{a:Act}{TE:Nat->Option TI}{ops:Array Oper}
theorem vb{d:Nat}{b:Bool}(a:F d=.F .one [.v (.bool b)]):wW F d b=F:=by grind [Z0,wW]
theorem fw(o:Oper)(t:Nat)(h:t∈cI o.op):t∈o.looksAt ops:=by grind [Go.Oper.looksAt,cI,tm]
structure JF(P:Program)(TE:Nat->Option TI)(N:d7)(ops:Array Oper)(o:Oper)(F:Nat->AV)(d:Nat)(av:AV):Prop where
 dst:o.dst=some d
 lt:N.free d=true
 self:av.uses d=false
 from_:df F (o.looksAt ops) av
 at_:∀F':Nat->AV,eL F F' (o.looksAt ops)->∀K':(Nat->AV)->Prop,K' (put F' d av)->eA P TE N ops o K' F'
def eL.refl(F:Nat->AV)(ts:List Nat):eL F F ts:=λ_ _=>⟨rfl,λ_ _ _ _ h=>h⟩
theorem CO:type_of% @eL.refl:=@eL.refl
theorem sY{o:Oper}{K:(Nat->AV)->Prop}(h:eA P TE N ops o K F):∃d av,JF P TE N ops o F d av/\K (put F d av):=by
 cases e:o.dst with
 | none=>
  exfalso;unfold eA at h;rw[e]at h;unfold dN at h
  grind [Bf.out]
 | some d=>
  have put1:∀{a:Nat->AV}{av:AV}{c:(Nat->AV)->Prop},N.free d=true->av.uses d=false->c (put a d av)->bh N a d av c:=λA B E=>by grind [bh]
  have put2:∀{a:Nat->AV}{av:AV}{c:(Nat->AV)->Prop},bh N a d av c->N.free d=true/\av.uses d=false/\c (put a d av):=fun {a av c} n=>by grind [bh]
  have pure1:cm P TE F o.op (λav=>bh N F d av K)->∃av,N.free d=true/\av.uses d=false/\K (put F d av)/\df F (o.looksAt ops) av/\∀a:Nat->AV,eL F a (o.looksAt ops)->∀c:(Nat->AV)->Prop,c (put a d av)->cm P TE a o.op (λav=>bh N a d av c):=λn=>by
   obtain⟨av,A,B,E⟩:=gq n
   grind [df.mono,fw,eL.mono]
  unfold eA at h;rw[e]at h;unfold dN at h;cases r:o.guard with
  | none=>
   rw[r]at h;obtain⟨av,i,k,l,w,C⟩:=pure1 h;exact⟨d,av,⟨e,i,k,w,λa f c t=>by unfold eA dN;simp_all⟩,l⟩
  | some p=>
   obtain⟨j,want⟩:=p;rw[r]at h;simp only at h;cases y:(ops[j]?).bind (·.dst) with
   | none=>grind
   | some u=>
    rw[y]at h;simp only at h;have q:u∈o.looksAt ops:=by grind [Go.Oper.looksAt]
    split at h
    case h_3=>exact h.elim
    case h_2=>
     rename_i J L g;obtain⟨i,k,l⟩:=put2 h;refine⟨d,.F (.tup []) [],⟨e,i,k,(λd e=>by cases e),λa f c t=>?_⟩,l⟩;unfold eA dN;rw[r,e];simp only;rw[y];simp only;rw[(f u q).1.trans g];exact put1 i k t
    rename_i b g;have same:∀{a:Nat->AV},eL F a (o.looksAt ops)->a u=.F .one [.v (.bool b)]:=λf=>(f u q).1.trans g
    have back:∀{a:Nat->AV}{c:(Nat->AV)->Prop},eL F a (o.looksAt ops)->(b=want->cm P TE a o.op (λav=>bh N a d av c))->(b = !want->bh N a d (.F (.tup []) []) c)->eA P TE N ops o c a:=fun {a c} f A B=>by
     unfold eA dN;rw[r,e];simp only;rw[y];simp only;rw[same f];simp only;refine Bf.P (λG=>?_) (λG=>?_)
     all_goals grind [vb]
    have D:=vb g;replace h:=Bf.out h;by_cases H:b=want
    ·have n:cm P TE F o.op (λav=>bh N F d av K):=ψ
     obtain⟨av,i,k,l,w,C⟩:=pure1 n;exact⟨d,av,⟨e,i,k,w,λa f c t=>back f (λ_=>C a f c t) ψ⟩,l⟩
    have n:bh N F d (.F (.tup []) []) K:=ψ
    obtain⟨i,k,l⟩:=put2 n;exact⟨d,.F (.tup []) [],⟨e,i,k,(λd e=>by cases e),ψ⟩,l⟩
def aft:AV->AV
 | .F k a=>.F k (splice a 0 (List.replicate a.length .x))
 | _=>.F .one [.x]
theorem F4(v:AV)(e:Nat):(aft v).uses e=false:=by unfold aft;split<;>rfl
def eff(a:Option Nat)(d:Nat)(av:AV)(F:Nat->AV):Nat->AV:=λt=>if t=d then av else if a=some t then aft (F t) else F t
theorem wa{d:Nat}(av:AV)(a:∀t,(F t).uses d=false):put F d av=eff none d av F:=by grind [lM,fy,va,eff]
theorem Hp{s:Nat}{v:AV}(h:v.uses s=false):oo s v=v:=by
 cases v with
 | w t a b c=>grind [AV.uses,oo]
 | ref t a b=>simp only[AV.uses]at h;cases b<;>simp[oo,h]
 | _=>rfl
theorem EJ{d s:Nat}{k:Kd}{cs:List C}(av:AV)(a:F s=.F k cs)(c:∀t,(F t).uses d=false)(e:∀t,(F t).uses s=false):put (updH F s k (splice cs 0 (List.replicate cs.length .x))) d av=eff (some s) d av F:=by
 funext t
 unfold eff;by_cases h:t=d
 ·grind [lM]
 rw[fy _ _ h,C9 h];by_cases b:t=s
 ·subst b;rw[f7,CA rfl,a];rfl
 grind [Nat.beq_eq,Hp,va,updH]
theorem zZ{d T s:Nat}{k:Kd}{c:C}{K:(Nat->AV)->Prop}(o:k=.one\/k=.agg)(p:F s=.F k [c])(q:cW c=true)(h:dX TE N F d T 1 [(0,.tmp s)] K) :
  ∃av,N.free d=true/\(∀e,av.uses e=false)/\K (put (updH F s k [.x]) d av)/\∀(F':Nat->AV)(b:(Nat->AV)->Prop),F' s=.F k [c]->b (put (updH F' s k [.x]) d av)->dX TE N F' d T 1 [(0,.tmp s)] b:=by
 have key:∀F':Nat->AV,F' s=.F k [c]->∀b:(Nat->AV)->Prop,dX TE N F' d T 1 [(0,.tmp s)] b=yM TE T λ_ a=>bif Nat.ble (1*a.size) 16777216 then(bif Nat.beq 1 a.size&&Nat.ble (0*a.size+a.size) (rep a.zero 1).length then bh N (updH F' s k [.x]) d (.F .one [.s .own (chunk a.size 1 (splice (rep a.zero 1) (0*a.size) [c]))]) b else False) else False:=by
  intro F' f b;unfold dX
  congr 1
  funext e a
  rcases o with rfl|rfl<;>simp only[cA,fillW,J8,qh,jD,f,fk,aQ,q,cond_true,cond_false,ep,lJ,List.length_singleton,List.replicate]
  all_goals rfl
 rw[key F p]at h;obtain⟨e,a,g,n⟩:=ek h;cases i:Nat.ble (1*a.size) 16777216 with
 | false=>grind
 | true=>
  cases j:(Nat.beq 1 a.size&&Nat.ble (0*a.size+a.size) (rep a.zero 1).length) with
  | false=>grind
  | true=>
   rw[i,j]at g;simp only[cond_true]at g;unfold bh at g;cases l:N.free d with
   | false=>grind
   | true=>
    rw[l]at g;refine⟨_,rfl,λ_=>rfl,g,λF' b f r=>?_⟩
    grind [bh]
theorem H2{d s:Nat}{T:Option Nat}{k:Kd}{cs:List C}{K:(Nat->AV)->Prop}(j:F s=.F k cs)(l:own1 T k cs=true)(h:HE TE N F d T s K) :
  ∃av,N.free d=true/\(∀e,av.uses e=false)/\K (put (updH F s k (splice cs 0 (List.replicate cs.length .x))) d av)/\∀(F':Nat->AV)(a:(Nat->AV)->Prop),F' s=.F k cs->a (put (updH F' s k (splice cs 0 (List.replicate cs.length .x))) d av)->HE TE N F' d T s a:=by
 cases T with
 | some T=>
  have f:(k=.one\/k=.agg)/\∃c,cs=[c]/\cW c=true:=by
   unfold own1 at l
   grind
  obtain⟨n,c,rfl,o⟩:=f;exact zZ n j o h
 | none=>
  have f:∃b,k=.tup b/\aQ cs=false:=by
   unfold own1 at l
   grind
  obtain⟨b,rfl,p⟩:=f;have key:∀F':Nat->AV,F' s=.F (.tup b) cs->∀a,HE TE N F' d none s a=bh N (updH F' s (.tup b) (splice cs 0 (List.replicate cs.length .x))) d (.F (.tup b) cs) a:=λF' g a=>by grind [HE,fA]
  rw[key F j]at h;unfold bh at h;cases i:N.free d with
  | false=>grind
  | true=>
   rw[i]at h;refine⟨_,rfl,λ_=>rfl,h,λF' a g q=>?_⟩
   grind [bh]
structure Yl(P:Program)(TE:Nat->Option TI)(N:d7)(ops:Array Oper)(o:Oper)(F:Nat->AV)(mv:Option Nat)(d:Nat)(av:AV):Prop where
 dst:o.dst=some d
 lt:N.free d=true
 self:av.uses d=false
 from_:df F (o.looksAt ops) av
 mvl:∀s,mv=some s->o.guard=none/\(∃T,jG o.op=some (T,s))/\fR ops o s=true
 at_:∀F':Nat->AV,eL F F' (o.looksAt ops)->(∀t,(F' t).uses d=false)->(∀s,mv=some s->∀t,(F' t).uses s=false)->∀K':(Nat->AV)->Prop,K' (eff mv d av F')->iH P TE N ops o K' F'
theorem A3{o:Op}{T:Option Nat}{s:Nat}(h:jG o=some (T,s)):(∃a b,T=some a/\o=.buildSlice a 1 b/\b.toList=[(0,.tmp s)])\/(T=none/\o=.move (.tmp s)):=by
 unfold jG at h
 grind
theorem bY{o:Oper}{T:Option Nat}{s:Nat}(h:jG o.op=some (T,s)):s∈o.looksAt ops:=by
 refine fw o s ?_;unfold cI;refine List.mem_flatMap.2 ⟨.tmp s,?_,by simp[tm]⟩
 grind [A3,Go.Op.operands]
theorem xR{o:Oper}{p:Option Nat × Nat}(h:AC F o=some p):o.guard=none/\jG o.op=some p/\∃k cs,F p.2=.F k cs/\own1 p.1 k cs=true:=by grind [AC]
theorem qY{F':Nat->AV}{o:Oper}(a:eL F F' (o.looksAt ops)):AC F' o=AC F o:=by
 unfold AC;cases c:o.guard with
 | some _=>rfl
 | none=>
  cases b:jG o.op with
  | none=>rfl
  | some p=>simp only;rw[(a p.2 (bY b)).1]
theorem ox{o:Oper}{K:(Nat->AV)->Prop}(c:AC F o=none)(h:eA P TE N ops o K F)(e:∀d,o.dst=some d->∀t,(F t).uses d=false):∃d av,Yl P TE N ops o F none d av/\K (eff none d av F):=by
 obtain⟨d,av,a,f⟩:=sY h;refine⟨d,av,⟨a.dst,a.lt,a.self,a.from_,ψ,λg i j _ k b=>?_⟩,by grind [wa,JF.dst]⟩
 grind [qY,JF.at_,wa,iH]
theorem m6{o:Oper}{K:(Nat->AV)->Prop}(h:iH P TE N ops o K F)(E:∀d,o.dst=some d->∀t,(F t).uses d=false)(y:∀T s,o.guard=none->jG o.op=some (T,s)->fR ops o s=true->∀t,(F t).uses s=false) :
  ∃r d av,Yl P TE N ops o F r d av/\K (eff r d av F):=by
 unfold iH at h;cases f:AC F o with
 | none=>
  grind [ox]
 | some p=>
  rw[f]at h;obtain⟨G,a,k,H,g,b⟩:=xR f;simp only at h;cases i:o.dst with
  | none=>grind
  | some d=>
   rw[i]at h;simp only at h;cases c:fR ops o p.2 with
   | false=>grind
   | true=>
    rw[c]at h;simp only[cond_true]at h;obtain⟨av,A,u,J,B⟩:=H2 g b h;refine⟨some p.2,d,av,⟨i,A,u d,λe w=>(by rw[u e]at w;cases w),λs y=>?_,λC j l n D q=>?_⟩,?_⟩
    ·grind
    ·unfold iH
     rw[qY j,f];simp only;rw[i];simp only;rw[c];refine B C D ((j p.2 (bY a)).1.trans g) ?_;rw[EJ av ((j p.2 (bY a)).1.trans g) l (n p.2 rfl)];exact q
    grind [EJ]
theorem Db{nm:Bool}{o:Oper}{K:(Nat->AV)->Prop}(h:E4 P TE N ops nm o K F)(b:∀d,o.dst=some d->∀t,(F t).uses d=false)(c:∀T s,o.guard=none->jG o.op=some (T,s)->fR ops o s=true->∀t,(F t).uses s=false) :
  ∃a d av,Yl P TE N ops o F a d av/\K (eff a d av F)/\(nm=true->a=none):=by
 unfold E4 at h
 grind [m6,ox]
end
section
variable{P:Program}{w0 w w1:World}{M S0 S:aa}{N:d7}{φ:Nat->aa}{F:Nat->AV}{a:Act}{TE:Nat->Option TI}{ops:Array Oper}
def rR(P:Program)(TE:Nat->Option TI)(N:d7)(ops:Array Oper)(m i:Nat)(K:(Nat->AV)->Prop)(F:Nat->AV):Prop:=
 match ops[i]? with
 | none=>K F
 | some o=>if i<m then iH P TE N ops o K F else fL P TE N ops o K F
def yV(P:Program)(TE:Nat->Option TI)(N:d7)(ops:Array Oper)(m:Nat)(K:(Nat->AV)->Prop):Nat->Array Bool->(Nat->AV)->Prop
 | 0,listed,F=>Region.ready .any ops listed=[]/\K F
 | fuel+1,listed,F=>(Region.ready .any ops listed=[]->K F)/\∀i,i∈Region.ready .any ops listed->rR P TE N ops m i (yV P TE N ops m K fuel (listed.setIfInBounds i true)) F
theorem aJ.oneP0(h:aJ w0 M S0 N S φ F a w)(c:∀t i,TE t=some i->eM P t i){o:Oper}{K:(Nat->AV)->Prop}(b:eA P TE N ops o K F){Kc:Act->World->Prop}{Q:Exit->Act->World->Prop}(p:∀F' j e,K F'->St w0 M S0 N F' j e->Kc j e) :
  if Region.wanted o (yielded ops a.tmps) then o.wp P a w Kc Q else Kc (a.put o.dst undef) w:=by
 unfold eA at b;rcases se h b with⟨f,b⟩|⟨f,b⟩
 ·rw[f,CA rfl]
  cases g:o.dst with
  | none=>grind
  | some d=>
   rw[g]at b;obtain⟨av,k,l⟩:=h.pure_ c b;refine l Kc Q λv e q=>?_
   grind [aJ.putD_new]
 rw[f,C9 (by simp)];cases g:o.dst with
 | none=>grind
 | some d=>
  rw[g]at b;obtain⟨F',k,n⟩:=h.putD_new (v:=undef) (iS.same (av:=.F (.tup []) []) Fk) b
  grind
def BV{o:Oper}{p:Option Nat × Nat}{d:Nat}{K:(Nat->AV)->Prop}(f:AC F o=some p)(c:o.dst=some d)(h:HE TE N F d p.1 p.2 K):fL P TE N ops o K F:=by
 obtain⟨e,a,-⟩:=xR f;obtain⟨T,s⟩:=p;rcases A3 a with⟨i,j,rfl,b,g⟩|⟨rfl,b⟩
 ·unfold fL dN
  rw[e];simp only;rw[b];simp only[tM];rw[c];simp only[fH,g];exact h
 unfold fL dN;rw[e];simp only;rw[b];simp only[tM];rw[c];simp only[fH];exact h
theorem aJ.oneP(h:aJ w0 M S0 N S φ F a w)(c:∀t i,TE t=some i->eM P t i){o:Oper}{K:(Nat->AV)->Prop}(b:iH P TE N ops o K F){Kc:Act->World->Prop}{Q:Exit->Act->World->Prop}(g:∀F' j k,K F'->St w0 M S0 N F' j k->Kc j k) :
  if Region.wanted o (yielded ops a.tmps) then o.wp P a w Kc Q else Kc (a.put o.dst undef) w:=by
 unfold iH at b;cases e:AC F o with
 | none=>rw[e]at b;exact h.oneP0 c b g
 | some p=>
  rw[e]at b;simp only at b;cases l:o.dst with
  | none=>grind
  | some d=>
   rw[l]at b;simp only at b;cases f:fR ops o p.2 with
   | false=>grind
   | true=>
    rw[f]at b;have:=h.one c (BV (P:=P) (ops:=ops) e l b) (Q:=Q) g
    grind
theorem yW(c:∀t i,TE t=some i->eM P t i){m i:Nat}{K:(Nat->AV)->Prop}(b:rR P TE N ops m i K F)(g:St w0 M S0 N F a w){Kc:Act->World->Prop}{Q:Exit->Act->World->Prop}(d:∀F' e f,K F'->St w0 M S0 N F' e f->Kc e f):wpOp P ops Q i Kc a w:=by
 unfold rR at b;unfold wpOp;cases j:ops[i]? with
 | none=>grind
 | some o=>
  rw[j]at b;simp only at b |-;obtain⟨S,φ,h⟩:=g;have:if Region.wanted o (yielded ops a.tmps) then o.wp P a w Kc Q else Kc (a.put o.dst undef) w:=by
   split at b
   ·exact h.oneP c b d
   exact h.one c b d
  grind
def uB(b:∀t i,TE t=some i->eM P t i){m:Nat}{K:(Nat->AV)->Prop}{Q:Exit->Act->World->Prop}(g:∀F' d e,K F'->St w0 M S0 N F' d e->Q .normal d e) :
  ∀(fuel:Nat)(listed:Array Bool)(F:Nat->AV)(a:Act)(w:World),yV P TE N ops m K fuel listed F->St w0 M S0 N F a w->wpAny P .any ops Q fuel listed a w
 | 0,_,F,a,w,c,f=>⟨c.1,g F a w c.2 f⟩
 | fuel+1,_,F,a,w,c,f=>⟨λj=>g F a w (c.1 j) f,λi k=>yW b (c.2 i k) f λF' d e l h=>uB b g fuel _ F' d e l h⟩
structure uR(ops:Array Oper)(m:Nat)(F:Nat->AV)(listed:Array Bool):Prop where
 dst:∀j o d,j<m->ops[j]? = some o->listed.getD j true=false->o.dst=some d->∀t,(F t).uses d=false
 mv:∀j o T s,j<m->ops[j]? = some o->listed.getD j true=false->o.guard=none->jG o.op=some (T,s)->fR ops o s=true->∀t,(F t).uses s=false
def DC(ops:Array Oper)(listed:Array Bool):Prop:=∀j a,ops[j]? = some a->listed.getD j false=true->∀k,cn a k=true->listed.getD k false=true
theorem FO{d e:Nat}{v:AV}(h:(kl d v).uses e=true):v.uses e=true/\v.uses d=false:=by
 rw[va]at h;cases a:v.uses d with
 | true=>rw[a]at h;cases h
 | false=>grind
theorem rX{α:Type}{p:α->Bool} : ∀{l:List α}{i j:Nat}{x y:α},(l.filter p).length<=1->l[i]? = some x->l[j]? = some y->p x=true->p y=true->i=j
 | [],_,_,_,_,_,h,_,_,_=>by simp at h
 | a::l,0,0,_,_,_,_,_,_,_=>rfl
 | a::l,i+1,j+1,x,y,h,b,c,d,e=>by
  rw[rX (l:=l) (O2 (List.Sublist.length_le ((List.sublist_cons_self a l).filter p)) h) b c d e]
 | a::l,0,j+1,x,y,h,b,c,d,e=>by
  simp only[List.getElem?_cons_zero,P0]at b;subst b;rw[List.filter_cons_of_pos d]at h;have:y∈l.filter p:=I2.2 ⟨X0 c,e⟩;have:=List.length_pos_of_mem this;rw[List.length_cons]at h;omega
 | a::l,i+1,0,x,y,h,b,c,d,e=>by
  simp only[List.getElem?_cons_zero,P0]at c;subst c;rw[List.filter_cons_of_pos e]at h;have:x∈l.filter p:=I2.2 ⟨X0 b,d⟩;have:=List.length_pos_of_mem this;rw[List.length_cons]at h;omega
theorem fx{listed:Array Bool}{j a:Nat}(b:(listed.setIfInBounds j true).getD a true=false):a≠j:=λe=>by simp_all
theorem gn{a:Option Nat}{d e t:Nat}{av:AV}(b:av.uses e=false)(c:(F t).uses e=false):(eff a d av F t).uses e=false:=by grind [F4,eff]
theorem uR.put{m j d:Nat}{o:Option Nat}{listed:Array Bool}{av:AV}(h:uR ops m F listed)(p:∀a b g,a<m->a≠j->ops[a]? = some b->listed.getD a true=false->b.dst=some g->av.uses g=false)(q:∀a b T s,a<m->a≠j->ops[a]? = some b->listed.getD a true=false->b.guard=none->jG b.op=some (T,s)->fR ops b s=true->av.uses s=false) :
  uR ops m (eff o d av F) (listed.setIfInBounds j true):=by
 refine⟨λa b g i c e k t=>?_,λa b T s i c e r l n t=>?_⟩
 ·have f:=fx e
  rw[getD_set_ne true (Ne.symm f)]at e;exact gn ψ (h.dst a b g i c e k t)
 have f:=fx e;rw[getD_set_ne true (Ne.symm f)]at e;exact gn ψ (h.mv a b T s i c e r l n t)
inductive kH(ops:Array Oper):Nat->Nat->Prop
 |one {j i:Nat} (h:cn (cD ops j) i=true):kH ops j i
 |step {j k i:Nat} (h:cn (cD ops j) k=true) (h2:kH ops k i):kH ops j i
def kH.trans{i j k:Nat}(h:kH ops j k)(a:kH ops k i):kH ops j i:=by
 induction h with
 | one h=>exact .step h a
 | step h _ b=>exact .step h (b a)
theorem yx{i:Nat} : ∀{a:List Nat},(yh a).testBit i=true->i∈a
 | [],h=>by simp[yh]at h
 | k::a,h=>by
  rw[yh,Nat.testBit_or,I3]at h;rcases h with h|h
  ·grind
  exact R2 _ (yx h)
theorem sg{o:Oper}{i:Nat}(h:(yh (ons o)).testBit i=true):cn o i=true:=by
 have:=yx h
 grind [bz,ons]
def oQ{j:Nat} : ∀(k S:Nat),(∀i,S.testBit i=true->kH ops j i)->∀i,(clo ops k S).testBit i=true->kH ops j i
 | 0,_,h,i,a=>h i a
 | k+1,S,h,i,a=>by
  rw[clo,F5]at a;cases c:S.testBit k with
  | false=>rw[c]at a;exact oQ k S h i a
  | true=>
   rw[c]at a;refine oQ k _ (λe b=>?_) i a;rw[Nat.testBit_or,I3]at b;rcases b with d|d
   ·exact h e d
   exact(h k c).trans (.one (sg d))
theorem jQ{listed:Array Bool}(d:DC ops listed)(b:∀j n,ops[j]? = some n->∀e∈n.after,Region.binds .any e=true->e.on<j){j i:Nat}(o:kH ops j i):j<ops.size->(∀k,cn (cD ops j) k=true->listed.getD k false=true)->listed.getD i false=true:=by
 induction o with
 | one h=>grind
 | @step j k i h h2 ih=>
  intro f p;have r:k<j:=by
   have c:=(show ops[j]? = some ops[j] from K3 f)
   rw[aU c]at h;obtain⟨e,g,l,rfl⟩:=bz.1 h;exact b j _ c e g l
  have a:k<ops.size:=ω
  have c:=(show ops[k]? = some ops[k] from K3 a)
  exact ih a λq a=>d k _ c (p k h) q (by rw[aU c]at a;exact a)
theorem DC.put{listed:Array Bool}(h:DC ops listed){j:Nat}(d:j∈Region.ready .any ops listed):DC ops (listed.setIfInBounds j true):=by
 obtain⟨l,n,f,b⟩:=mem_ready.1 d;intro k ok g c e i;by_cases a:k=j
 ·grind [bz,Go.getD_set_true]
 rw[getD_set_ne false (Ne.symm a)]at c;exact getD_set_true (h k ok g c e i)
theorem ed{o:Oper}{s:Nat}(h:fR ops o s=true):(∃k ok,cn o k=true/\ops[k]? = some ok/\ok.dst=some s)/\∀(i j:Nat)(a b:Oper),ops[i]? = some a->ops[j]? = some b->s∈a.looksAt ops->s∈b.looksAt ops->i=j:=by
 unfold fR at h;rw[I0]at h;obtain⟨q,c⟩:=h;constructor
 ·grind [aU,Z0]
 intro i j a b d e f g;have l:=R0 c;have n:ops.toList[i]? = some a:=by simpa using d
 have p:ops.toList[j]? = some b:=by simpa using e
 grind [Nat.beq_refl,rX]
structure Hy(ops:Array Oper)(m:Nat):Prop where
 back:∀j oj,ops[j]? = some oj->∀e∈oj.after,Region.binds .any e=true->e.on<j
 tail:∀j,m<=j->j<ops.size->∀i,i<j->kH ops j i
 apart:∀i j oi oj,i<m->j<m->i≠j->ops[i]? = some oi->ops[j]? = some oj->cn oj i=true\/cn oi j=true\/oi.apart ops oj=true
 look:∀i j oi oj d,i<m->j<m->i≠j->ops[i]? = some oi->ops[j]? = some oj->oi.dst=some d->d∈oj.looksAt ops->cn oj i=true
theorem y9{m:Nat}(h:vO ops m=true):Hy ops m:=by
 have o:∀j b,ops[j]? = some b->_:=λj b a=>ey h (R1.1 a).1
 refine⟨λj b a e t p=>?_,λj u a i f=>?_,λi j q b f a g r k=>?_,λi j q b d f a g r k w y=>?_⟩
 ·grind [aU,Nat.blt_eq]
 ·have l:=(show ops[j]? = some ops[j] from K3 a)
  have:=o j _ l;simp only[I0]at this;have c:=this.2;rw[show Nat.blt j m=false by rw[<-Bool.not_eq_true,Nat.blt_eq];omega]at c;simp only[cond_false,F5]at c;exact oQ j _ (λA n=>.one (sg n)) i (ey c f)
 ·grind [aU,Nat.blt_eq,ey,Nat.beq_eq]
 have:=o j b k;rw[aU k]at this;simp only[I0]at this;have c:=this.2;rw[show Nat.blt j m=true by simpa[Nat.blt_eq] using a]at c
 grind [ey,aU,Nat.beq_eq,pd]
theorem BS{m:Nat}(V:Hy ops m){i d:Nat}{c:Oper}{u:Option Nat}{av:AV}{K:(Nat->AV)->Prop}(R:ops[i]? = some c)(w:i<m) :
  ∀(fuel:Nat)(listed:Array Bool)(F:Nat->AV),i∈Region.ready .any ops listed->uR ops m F listed->DC ops listed->Yl P TE N ops c F u d av->yV P TE N ops m K fuel (listed.setIfInBounds i true) (eff u d av F)->yV P TE N ops m K (fuel+1) listed F:=by
 have self:∀(listed:Array Bool)(F:Nat->AV),i∈Region.ready .any ops listed->uR ops m F listed->Yl P TE N ops c F u d av->∀S:(Nat->AV)->Prop,S (eff u d av F)->iH P TE N ops c S F:=λlisted F W a g S hK=>by
  have b:=(mem_ready.1 W).1;refine g.at_ F (CO _ _) (a.dst i c d w R b g.dst) (λs X=>?_) S hK;obtain⟨A,⟨T,h2⟩,h3⟩:=g.mvl s X;exact a.mv i c T s w R b A h2 h3
 intro fuel
 induction fuel with
 | zero=>
  intro listed F W a E g H;refine⟨ψ,λj Y=>?_⟩;by_cases n:j=i
  ·grind [rR]
  have:=ready_mono Y n;rw[H.1]at this;cases this
 | succ fuel ih=>
  intro listed F W a E g H;refine⟨ψ,λj Y=>?_⟩;by_cases n:j=i
  ·grind [rR]
  have A:=H.2 j (ready_mono Y n);obtain⟨B,f,o,hall⟩:=mem_ready.1 Y;have b:=(mem_ready.1 W).1;have unl:∀k,listed.getD k true=false->listed.getD k false=true->False:=ψ
  have noedge:∀k ok,ops[k]? = some ok->listed.getD k true=false->cn f k=false:=λk ok hk Z=>by grind [bz]
  have noedge':∀k ok,ops[k]? = some ok->listed.getD k true=false->cn c k=false:=λk ok hk Z=>by grind [bz,Go.mem_ready]
  have G:j<m:=by
   rcases Nat.lt_or_ge j m with h|h
   ·exact h
   have C:=(R1.1 o).1;refine(unl i b (jQ E V.back (V.tail j h C i ω) C λk hk=>?_)).elim
   grind [aU,bz]
  have hap:c.apart ops f=true:=by grind [Hy.apart]
  obtain⟨ap1,ap2,ap3⟩:=Oper.apart_spec hap;unfold rR at A |-;rw[o]at A |-;simp only[CA G]at A |-;have hdl:d∉f.looksAt ops:=ap1 d g.dst;have cd:∀t,(F t).uses d=false:=a.dst i c d w R b g.dst
  have cdj':∀l,f.dst=some l->∀t,(F t).uses l=false:=λl J=>a.dst j f l G o B J
  have cmv:∀s,u=some s->(∀t,(F t).uses s=false)/\s∉f.looksAt ops/\s∈c.looksAt ops:=λs X=>by
   obtain⟨L,⟨T,q⟩,r⟩:=g.mvl s X;exact⟨a.mv i c T s w R b L q r,λhl=>n ((ed r).2 i j c f R o (bY q) hl).symm,bY q⟩
  have cmvj:∀T s,f.guard=none->jG f.op=some (T,s)->fR ops f s=true->(∀t,(F t).uses s=false)/\s∉c.looksAt ops/\s∈f.looksAt ops:=λT s L q r=>
   ⟨a.mv j f T s G o B L q r,λhl=>n ((ed r).2 i j c f R o hl (bY q)).symm,bY q⟩
  have avno:∀e,e∉c.looksAt ops->(∀t,(F t).uses e=false)->av.uses e=false:=λe A h2=>by
   cases hu:av.uses e with
   | false=>rfl
   | true=>
    rcases g.from_ e hu with h|⟨t,_,h⟩
    all_goals grind
  obtain⟨mvj,l,avj,p,hKj⟩:=m6 A (λl J t=>gn ψ (cdj' l J t)) (λT s L q r t=>by grind [gn]);have hdne:d≠l:=λe=>ap2 d g.dst (by rw[p.dst,e])
  have hdjl:l∉c.looksAt ops:=ap3 l p.dst;have cdj:∀t,(F t).uses l=false:=cdj' l p.dst
  have cmj:∀s,mvj=some s->(∀t,(F t).uses s=false)/\s∉c.looksAt ops/\s∈f.looksAt ops:=λs X=>by
   obtain⟨L,⟨T,q⟩,r⟩:=p.mvl s X
   grind
  have lookj:∀t,t∈f.looksAt ops->eff u d av F t=F t:=λt U=>by grind [eff]
  have looki:∀t,t∈c.looksAt ops->eff mvj l avj F t=F t:=λt U=>by grind [eff]
  have avjno:∀e,e∉f.looksAt ops->(∀t,(F t).uses e=false)->avj.uses e=false:=λe A h2=>by
   cases hu:avj.uses e with
   | false=>rfl
   | true=>
    rcases p.from_ e hu with h|⟨t,U,h⟩
    all_goals grind
  have agrj:eL (eff u d av F) F (f.looksAt ops):=λt U=>by grind [eff]
  refine p.at_ F agrj cdj ψ _ (ih (listed.setIfInBounds j true) (eff mvj l avj F) (ready_mono W (Ne.symm n)) (a.put (λj' o' d' M D y O Q=>?_) (λj' o' T s M D y O L q r=>?_)) (E.put Y) ?_ ?_)
  ·refine avjno d' (λh=>?_) (a.dst j' o' d' M y O Q)
   grind [Hy.look]
  ·exact avjno s (λh=>D ((ed r).2 j' j o' f y o (bY q) h)) (a.mv j' o' T s M y O L q r)
  ·refine⟨g.dst,g.lt,g.self,λe he=>?_,g.mvl,λF' hA Q hs' S hK=>g.at_ F' (λt U=>?_) Q hs' S hK⟩
   ·rcases g.from_ e he with h|⟨t,U,h⟩
    all_goals grind
   obtain⟨a1,a2⟩:=hA t U
   grind [eff]
  rw[Array.setIfInBounds_comm _ _ n];have:eff u d av (eff mvj l avj F)=eff mvj l avj (eff u d av F):=by grind [eff]
  grind
theorem eE{o:Op}{K a:AV->Prop}(h:cm P TE F o K)(b:∀av,K av->a av):cm P TE F o a:=by
 obtain⟨av,c,-,d⟩:=gq h
 grind [CO]
theorem aL{d:Nat}{av:AV}{K a:(Nat->AV)->Prop}(h:bh N F d av K)(b:∀F',K F'->a F'):bh N F d av a:=by grind [bh]
theorem dc{y:Operand}{K b:(Nat->AV)->Option Nat->List C->Prop}(h:ep F y K)(g:∀F' ag cs,K F' ag cs->b F' ag cs):ep F y b:=by
 cases y with
 | tmp t=>
  simp only[ep]at h |-;cases d:F t with
  | F k cs=>
   grind
  | w e f c ag=>
   rw[d]at h;cases c with
   | cons s c=>
    simp only at h |-;cases a:F e with
    | F k cs=>
     rw[a]at h;obtain⟨r,j,i,l,n,o⟩:=Lq.out h;exact .mk_ ψ
    | _=>grind
   | nil=>
    grind
  | _=>grind
 | _=>exact h.elim
theorem uz{x:Operand}{K a:AV->Prop}(h:aW F x K)(b:∀av,K av->a av):aW F x a:=by
 obtain⟨av,c,-,d⟩:=gx h
 grind [CO]
theorem yy{d:Nat}{x:Operand}{K a:(Nat->AV)->Prop}(h:ij N F d x K)(j:∀F',K F'->a F'):ij N F d x a:=by
 have i:∀y,aW F y (λb=>bh N F d b K)->aW F y (λb=>bh N F d b a):=λy h=>uz h λb h=>aL h j
 have k:∀y,ep F y (λF' c e=>bh N F' d (.F (iT c) e) K)->ep F y (λF' c e=>bh N F' d (.F (iT c) e) a):=λy h=>dc h λF' c e h=>aL h j
 cases x with
 | tmp t=>
  grind [ij]
 | const v=>exact i (.const v) h
 | global g=>exact i (.global g) h
 | func f=>exact i (.func f) h
theorem E2{d:Nat}{x:Operand}{K a:(Nat->AV)->Prop}(h:vS N F d x K)(b:∀F',K F'->a F'):vS N F d x a:=by grind [aL,yy,vS,Bi]
theorem uD{x:Operand}{cs:List C}{K b:(Nat->AV)->Prop}(h:nt F x cs K)(d:∀F',K F'->b F'):nt F x cs b:=by
 cases x with
 | tmp t=>
  simp only[nt]at h |-;cases e:F t with
  | F k f=>
   grind [cA]
  | ref g i c=>
   rw[e]at h;cases c with
   | cons s c=>
    simp only at h |-;cases a:F g with
    | F k f=>
     rw[a]at h;obtain⟨r,j,l,n,o,p⟩:=Pu.out h;exact Pu.mk l n o rfl (d _ p)
    | _=>grind
   | nil=>
    grind [cA]
  | _=>grind
 | _=>exact h.elim
theorem rP{T:Nat}{x y:Operand}{K a:(Nat->AV)->Prop}(h:jm TE F T x y K)(b:∀F',K F'->a F'):jm TE F T x y a:=by
 unfold jm at h |-;split at h
 all_goals grind [b9,CO,uD,dc]
theorem z6{g:Option (Nat × Bool)}{a b K1' K0':(Nat->AV)->Prop}(h:dN F ops g a b)(c:∀F,a F->K1' F)(d:∀F,b F->K0' F):dN F ops g K1' K0':=by
 unfold dN at h |-;split at h
 ·exact c _ h
 rename_i j want;split at h
 all_goals grind [Bf.out,Bf.in_]
theorem pH{x:Operand}{K a:(Nat->AV)->Option Nat->List C->Prop}(h:qh F x K)(c:∀F' ag cs,K F' ag cs->a F' ag cs):qh F x a:=by
 obtain⟨ag,cs,d,b⟩:=b9 h;refine b F (CO _ _) _ ?_
 grind [dc]
theorem fY{c:Nat->Option (Nat × Nat)} : ∀{parts:List (Nat × Operand)}{cs:List C}{K a:(Nat->AV)->List C->Prop}{F:Nat->AV},fillW c parts cs K F->(∀F' cs,K F' cs->a F' cs)->fillW c parts cs a F
 | [],cs,K,a,F,h,b=>b _ _ h
 | p::rest,cs,K,a,F,h,b=>by
  simp only[fillW]at h |-;split at h
  case h_2=>exact h.elim
  rename_i q e;refine pH h λF' f xs h=>?_
  cases d:(Nat.beq xs.length q.2&&Nat.ble (q.1+q.2) cs.length) with
  | false=>grind
  | true=>
   rw[d]at h;simp only[cond_true,cA]at h |-;exact fY h b
theorem wK{d T:Nat}{parts:List (Nat × Operand)}{K a:(Nat->AV)->Prop}(h:ic TE N F d T parts K)(b:∀F',K F'->a F'):ic TE N F d T parts a:=by grind [fY,aL,ic]
theorem wq{d T n:Nat}{parts:List (Nat × Operand)}{K a:(Nat->AV)->Prop}(h:dX TE N F d T n parts K)(c:∀F',K F'->a F'):dX TE N F d T n parts a:=by
 obtain⟨e,f,h,b⟩:=ek h;refine b _ ?_
 grind [aL,cA,fY,lJ]
theorem wU{y:Operand}{K a:Bool->(Nat->AV)->List (List C)->Prop}(h:vL F y K)(c:∀b F' xr,K b F' xr->a b F' xr):vL F y a:=by
 unfold vL at h |-;split at h
 all_goals grind [dc,b9,CO]
theorem uS{x:Operand}{K a:(Nat->AV)->List (List C)->Prop}(h:uK F x K)(c:∀F' xr,K F' xr->a F' xr):uK F x a:=by
 obtain⟨d,e,f,b⟩:=b9 h;refine b F (CO _ _) _ ?_
 grind [dc]
theorem BH{d T:Nat}{x y:Operand}{K a:(Nat->AV)->Prop}(h:uC TE N F d T x y K)(f:∀F',K F'->a F'):uC TE N F d T x y a:=by
 obtain⟨e,p,h,g⟩:=ek h;refine g _ (wU h λb F' q h=>uS h λF'' c h=>?_);obtain⟨i,j,k,l,n,o⟩:=h.out;exact CI i j k l n rfl (aL o f)
theorem yA{d T:Nat}{x:Operand}{K a:(Nat->AV)->Prop}(h:m0 TE N F d T x K)(b:∀F',K F'->a F'):m0 TE N F d T x a:=by
 unfold m0 at h |-;split at h
 all_goals grind [dc,aL]
theorem Ao{d:Nat}{x:Operand}{K b:(Nat->AV)->Prop}(h:fA N F d x K)(c:∀F',K F'->b F'):fA N F d x b:=by
 have std:∀{y:Operand},aW F y (λa=>bh N F d a K)->aW F y (λa=>bh N F d a b):=λh=>uz h λa h=>aL h c
 cases x with
 | tmp t=>
  simp only[fA]at h |-
  grind [aL]
 | const v=>grind [fA]
 | global g=>grind [fA]
 | func f=>grind [fA]
theorem yR{d:Nat}{x:Operand}{K a:(Nat->AV)->Prop}(h:pq N F d x K)(b:∀F',K F'->a F'):pq N F d x a:=by
 unfold pq at h |-;split at h
 case h_2=>exact h.elim
 split at h
 all_goals grind [Nt.out,Nt.mk,aL]
theorem xM{d:Nat}{x:Operand}{K a:(Nat->AV)->Prop}(h:my N F d x K)(b:∀F',K F'->a F'):my N F d x a:=by
 unfold my at h |-
 grind [aL]
theorem E3{d T:Nat}{x b:Operand}{K c:(Nat->AV)->Prop}(h:wR TE N F d T x b K)(f:∀F',K F'->c F'):wR TE N F d T x b c:=by
 unfold wR at h |-;obtain⟨e,q,h,a⟩:=ek h;refine a _ ?_;obtain⟨n,g,i⟩:=gZ h;refine i F (CO _ _) _ (dc g λF' r t h=>?_);split at h
 case h_2=>exact h.elim
 obtain⟨m,y,j,k,l,o,p,h⟩:=h.out;exact .mk_ ⟨m,y,j,k,l,o,p,_,rfl,aL h f⟩
theorem Et{d T:Nat}{x b:Operand}{K c:(Nat->AV)->Prop}(h:xD TE N F d T x b K)(f:∀F',K F'->c F'):xD TE N F d T x b c:=by
 unfold xD at h |-;obtain⟨e,q,h,a⟩:=ek h;refine a _ ?_;obtain⟨n,g,i⟩:=gZ h;refine i F (CO _ _) _ (dc g λF' r t h=>?_);split at h
 case h_2=>exact h.elim
 obtain⟨m,y,j,k,l,o,p,h⟩:=h.out;exact .mk_ ⟨m,y,j,k,l,o,p,_,rfl,aL h f⟩
theorem yI{d:Nat}{b:Op}{K f:(Nat->AV)->Prop}(h:fH P TE N d b K F)(a:∀F',K F'->f F'):fH P TE N d b f F:=by
 cases b with
 | assign x=>exact E2 h a
 | box T x=>grind [pH,aL,fH,Fo]
 | build T j=>exact wK h a
 | buildSlice T n j=>exact wq h a
 | range T x=>exact yA h a
 | move x=>exact Ao h a
 | next x str=>
  cases str with
  | true=>exact h.elim
  | false=>exact yR h a
 | entry x=>exact xM h a
 | call c=>
  grind [eE,aL,BH,fH]
 | slice T x g e i=>
  cases g with
  | some g=>
   cases e with
   | some _=>grind [eE,aL,fH]
   | none=>
    cases i with
    | some _=>grind [eE,aL,fH]
    | none=>grind [eE,aL,Et,fH]
  | none=>
   cases e with
   | none=>grind [eE,aL,fH]
   | some e=>
    cases i with
    | some _=>grind [eE,aL,fH]
    | none=>
     grind [eE,aL,E3,fH]
 | _=>grind [eE,aL,fH]
theorem d9{t off n:Nat}{st:bE}{K a:(Nat->AV)->List C->Prop}(h:lendAt F t off st n K)(b:∀F' cs,K F' cs->a F' cs):lendAt F t off st n a:=by
 unfold lendAt at h |-;split at h
 case h_2=>exact h.elim
 split at h
 ·grind [cA]
 obtain⟨r,j,c,d,e,f⟩:=Lq.out h;refine .mk_ ?_
 grind
theorem bv:∀{xs:List (Operand × Nat)}{K a:(Nat->AV)->List (MA × nz)->Prop}{F:Nat->AV},lendP xs K F->(∀F' l,K F' l->a F' l)->lendP xs a F
 | [],K,a,F,h,b=>b _ _ h
 | (x,0)::xs,K,a,F,h,b=>bv (xs:=xs) h ψ
 | (x,1)::xs,K,a,F,h,b=>by
  simp only[lendP]at h |-;split at h
  case h_2=>exact h.elim
  split at h
  ·exact d9 h λF' c h=>bv h ψ
  ·exact d9 h λF' c h=>bv h ψ
  ·exact d9 h λF' c h=>bv h ψ
  exact h.elim
 | (x,n+2)::xs,K,a,F,h,b=>by
  simp only[lendP]at h |-;split at h
  case h_2=>exact h.elim
  split at h
  ·split at h
   ·exact bv h ψ
   exact h.elim
  ·exact bv h ψ
  exact h.elim
theorem gc:∀{l:List (MA × nz)}{xs:List Operand}{K a:Bool->List MA->Prop},valsP F l xs K->(∀b A,K b A->a b A)->valsP F l xs a
 | [],[],K,a,h,c=>c _ _ h
 | (m,.no)::l,x::xs,K,a,h,c=>by
  obtain⟨f,g,d,e⟩:=b9 h;refine e F (CO _ _) _ (gc d λb A h=>?_)
  grind
 | (m,.at_ t off st)::l,x::xs,K,a,h,c=>gc (l:=l) (xs:=xs) h ψ
 | (m,.box t)::l,x::xs,K,a,h,c=>gc (l:=l) (xs:=xs) h ψ
 | [],_::_,K,a,h,c=>h.elim
 | (m,.no)::l,[],K,a,h,c=>h.elim
 | (m,.at_ t off st)::l,[],K,a,h,c=>h.elim
 | (m,.box t)::l,[],K,a,h,c=>h.elim
theorem cE{K b:(Nat->AV)->Prop}(a:∀F',K F'->b F'):∀{l:List (MA × nz)}{B:List MA}{F:Nat->AV},eK l B K F->eK l B b F
 | [],[],F,h=>a _ h
 | [],_::_,F,h=>h.elim
 | (m,.no)::l,[],F,h=>h.elim
 | (m,.at_ t off st)::l,[],F,h=>h.elim
 | (m,.box t)::l,[],F,h=>h.elim
 | (m,.no)::l,.val _ _::B,F,h=>cE a (l:=l) (B:=B) h
 | (m,.no)::l,.mut _ _::B,F,h=>cE a (l:=l) (B:=B) h
 | (m,.no)::l,.ptr _::B,F,h=>cE a (l:=l) (B:=B) h
 | (m,.at_ t off st)::l,.val _ _::B,F,h=>h.elim
 | (m,.at_ t off st)::l,.ptr _::B,F,h=>h.elim
 | (m,.box t)::l,.val _ _::B,F,h=>h.elim
 | (m,.box t)::l,.mut _ _::B,F,h=>h.elim
 | (m,.at_ t off st)::l,.mut ag out::B,F,h=>by
  simp only[eK]at h |-;split at h
  case h_2=>exact h.elim
  split at h
  ·rename_i k c _ _
   cases d:Nat.ble (off+out.length) c.length with
   | false=>grind
   | true=>
    rw[d]at h;simp only[cond_true,cA]at h |-;exact cE a h
  obtain⟨r,j,e,f,g,i⟩:=Pu.out h;exact Pu.mk e f g rfl (cE a i)
 | (m,.box t)::l,.ptr out::B,F,h=>by
  simp only[eK]at h |-;split at h
  ·exact cE a h
  exact h.elim
theorem yS{d:Option Nat}{f:Nat}{args:List Operand}{modes:List Nat}{K a:(Nat->AV)->Prop}(h:iE P N F d f args modes K)(j:∀F',K F'->a F'):iE P N F d f args modes a:=by
 unfold iE at h |-;refine bv h λF' l h=>?_
 cases c:(pY l&&Nat.beq args.length modes.length) with
 | false=>grind
 | true=>
  rw[c]at h;refine gc h λb A h=>?_
  obtain⟨n,B,k,rcs,e,g,i⟩:=gt.out h;refine CE e g (cE (λF'' h=>?_) i)
  grind [aL]
theorem io{F:Nat->AV}{x:Operand}{K a:Nat->Nat->Prop}(h:tW F x K)(b:∀t o,K t o->a t o):tW F x a:=by grind [o7,tW]
theorem Br{d:Option Nat}{t:Nat}{cs:List C}{c a e b:Nat}{K f:(Nat->AV)->Prop}{k:Kd}{rcs:List C}{B:List MA}(h:rb N F d t cs c a e b K k rcs B)(l:∀F',K F'->f F'):rb N F d t cs c a e b f k rcs B:=by
 unfold rb at h |-;split at h
 case h_2=>exact h.elim
 rename_i g i;cases j:(Nat.beq g.length a&&Nat.beq i.length b) with
 | false=>grind
 | true=>
  rw[j]at h;simp only[cond_true,cA]at h |-
  grind [aL]
theorem z4{d:Option Nat}{f:Nat}{args:List Operand}{a b:Nat}{K c:(Nat->AV)->Prop}(h:gF P N F d f args a b K)(e:∀F',K F'->c F'):gF P N F d f args a b c:=by
 unfold gF at h |-;split at h
 case h_2=>exact h.elim
 refine io h λt g h=>io h λi j h=>?_
 split at h
 all_goals grind [cA,gt.out,CE,Br]
theorem n9{d:Option Nat}{f:Nat}{args:List Operand}{modes:List Nat}{K a:(Nat->AV)->Prop}(h:gR P N F d f args modes K)(b:∀F',K F'->a F'):gR P N F d f args modes a:=by grind [z4,yS,gR]
theorem x5{t off:Nat}{z:Int}{v:Value}{K a:(Nat->AV)->Prop}(h:putMap F t off z v K)(f:∀F',K F'->a F'):putMap F t off z v a:=by
 unfold putMap at h |-;cases b:F t with
 | F k d=>
  rw[b]at h;simp only at h |-;cases e:d[off]? with
  | none=>grind
  | some c=>
   rw[e]at h;cases c with
   | m g=>
    simp only at h |-;have:=h.out;refine Mu.mk rfl ?_
    grind [cA]
   | _=>exact h.elim
 | _=>grind
theorem pW{T:Nat}{x y v:Operand}{K b:(Nat->AV)->Prop}(h:kb TE F T x y v K)(f:∀F',K F'->b F'):kb TE F T x y v b:=by
 unfold kb at h |-;split at h
 case h_2=>exact h.elim
 obtain⟨z,c,d⟩:=fK h;refine d F (CO F _) _ ?_;obtain⟨g,a,e⟩:=fK c;refine e F (CO F _) _ ?_;split at a
 case h_2=>exact a.elim
 split at a
 all_goals grind [x5]
theorem gu{o:Oper}{K a:(Nat->AV)->Prop}(h:fL P TE N ops o K F)(c:∀F',K F'->a F'):fL P TE N ops o a F:=by
 unfold fL at h |-;refine z6 h (λF h=>?_) (λF h=>?_)
 ·split at h
  ·rename_i p _
   have lt:nQ P N F o.dst p.1 p.2.1 p.2.2 K->nQ P N F o.dst p.1 p.2.1 p.2.2 a:=λh=>n9 h λF' h=>by grind [jY]
   cases b:DV N o.op with
   | false=>grind
   | true=>
    rw[b]at h;rcases h with h|h
    ·refine .pl ?_
     grind [rP,pW,yI,gJ]
    exact .lt (lt h)
  grind [rP,pW,yI]
 grind [aL]
theorem vN{m:Nat}(a:Hy ops m){K:(Nat->AV)->Prop}(hm:m<=ops.size):∀(l:List Oper)(k:Nat)(listed:Array Bool)(F:Nat->AV),(∀j,l[j]? = ops[k+j]?)->listed.size=ops.size->(∀j,j<ops.size->listed.getD j true=decide (j<k))->uR ops m F listed->DC ops listed->
  ER P TE N ops (m - k) l K F->yV P TE N ops m K l.length listed F
 | [],k,listed,F,C,L,b,_,_,i=>by
  have D:ops.size<=k:=by
   rcases Nat.lt_or_ge k ops.size with h|h
   ·have:=C 0;simp[h]at this
   exact h
  refine⟨?_,?_⟩
  ·apply List.eq_nil_iff_forall_not_mem.2
   grind [Go.mem_ready]
  cases M:m - k with
  | zero=>rw[M]at i;exact i
  | succ x=>omega
 | o::l,k,listed,F,C,L,b,c,n,i=>by
  have w:ops[k]? = some o:=by simpa using (C 0).symm
  have D:=(R1.1 w).1;have hready:k∈Region.ready .any ops listed:=mem_ready.2 ⟨by rw[b k D];simp,o,w,λe he hb=>by grind [Hy.back]⟩;have A:∀j,l[j]? = ops[k+1+j]?:=λj=>by have:=C (j+1);grind
  have r:∀j,j<ops.size->(listed.setIfInBounds k true).getD j true=decide (j<k+1):=λj O=>by
   by_cases y:j=k
   ·simp_all
   rw[getD_set_ne true (Ne.symm y),b j O]
   grind
  show yV P TE N ops m K (l.length+1) listed F;by_cases f:k<m
  ·have e1:m - k=(m - (k+1))+1:=ω
   rw[e1]at i;obtain⟨mv,d,av,Q,i⟩:=m6 (show iH P TE N ops o (ER P TE N ops (m - (k+1)) l K) F from i) (λd hd=>c.dst k o d f w (by rw[b k D];simp) hd) (λT s R S U=>c.mv k o T s f w (by rw[b k D];simp) R S U);refine BS a w f l.length listed F hready c n Q (vN a hm l (k+1) _ _ A (by simpa using L) r (c.put (λE G H p u q hl'' B=>?_) (λE G T s p u q hl'' R S U=>?_)) (n.put hready) i)
   ·cases V:av.uses H with
    | false=>rfl
    | true=>
     rcases Q.from_ H V with h|⟨t,_,h⟩
     ·have:=a.look E k G o H p f u q w B h
      grind [bz,Hy.back]
     rw[c.dst E G H p q hl'' B t]at h;cases h
   cases V:av.uses s with
   | false=>rfl
   | true=>
    rcases Q.from_ s V with h|⟨t,_,h⟩
    ·grind [ed,bY]
    rw[c.mv E G T s p q hl'' R S U t]at h;cases h
  refine⟨ψ,λj O=>?_⟩;have y:j=k:=by
   obtain⟨h1,oj,W,hall⟩:=mem_ready.1 O;have g:=(R1.1 W).1;rw[b j g]at h1;simp at h1;rcases Nat.lt_or_ge k j with X|hge
   ·exfalso
    have h2:=jQ n a.back (a.tail j ω g k X) g λk' hk'=>by grind [aU,bz]
    grind
   omega
  subst y;unfold rR;rw[w];simp only[C9 f];have e0:m - j=0:=ω
  rw[e0]at i;have hp':fL P TE N ops o (Du P TE N ops l K) F:=i;have Y:∀J,Du P TE N ops l K J->yV P TE N ops m K l.length (listed.setIfInBounds j true) J:=λJ Z=>
   vN a hm l (j+1) _ J A (by simpa using L) r ⟨ψ,ψ⟩ (n.put hready) (by rw[show m - (j+1)=0 by omega];cases l<;>exact Z)
  grind [gu]
theorem St.clr(h:St w0 M S0 N F a w)(ds:List Nat):St w0 M S0 N (Ab.clr ds F) a w:=by
 obtain⟨S,φ,h⟩:=h;refine⟨S,φ,λt=>?_,h.dis,h.disS,h.ex,h.sub,h.sup,h.old,h.size,h.defers,h.par⟩;rw[vG];cases b:ds.any (λd=>(F t).uses d) with
 | true=>trivial
 | false=>
  simp only[cond_false];refine(h.slot t).keep (φ:=φ) (λt _ _ _=>h.slot t) (λc _=>⟨λk e f=>?_,rfl,λ_ _ _=>⟨rfl,rfl⟩⟩) (λ_ _ _=>⟨rfl,rfl⟩) (λ_ _ _=>⟨rfl,rfl⟩) (λ_ _ h=>h) (λ_ _ h=>h)
  grind [vG,AV.uses]
theorem vK(g:∀t i,TE t=some i->eM P t i)(E:P.follows .mixedOrders=true){id m:Nat}{ds:List Nat}(b:((Nat.ble m ops.size&&below m λj=>match(cD ops j).dst with|some d=>ds.any (Nat.beq d)|none=>true)&&vO ops m)=true){K:(Nat->AV)->Prop}{Q:Exit->Act->World->Prop}(G:ER P TE N ops m ops.toList K (Ab.clr ds F))(H:St w0 M S0 N F a w)(J:∀F' u y,K F'->St w0 M S0 N F' u y->Q .normal u y):(Code.region id ops true).wp P Q a w:=by
 simp only[I0]at b;obtain⟨⟨A,L⟩,b⟩:=b;have c:m<=ops.size:=by simp_all
 refine wp_region_any E ?_;have l:St w0 M S0 N (Ab.clr ds F) a {w with drawn:=w.drawn+1}:=by
  have O:=H.clr ds;obtain⟨S,φ,h⟩:=O;exact⟨S,φ,h.more (w1:={w with drawn:=w.drawn+1}) (λ_ _ h=>h) ψ ⟨rfl,rfl,rfl,O1 _,λ_ _ _=>rfl,λ_ _ _ _=>rfl,λ_ _ _ _=>rfl⟩⟩
 refine uB g (m:=m) J ops.size (Array.replicate ops.size false) _ a _ ?_ l;have R:∀d,ds.any (Nat.beq d)=true->∀t,(Ab.clr ds F t).uses d=false:=λd U t=>by
  rw[vG];cases Z:ds.any (λd=>(F t).uses d) with
  | true=>rfl
  | false=>
   simp_all
 have B:∀j o d,j<m->ops[j]? = some o->o.dst=some d->ds.any (Nat.beq d)=true:=λj o d f C U=>by grind [ey,aU]
 have D:=y9 b;have:=vN (P:=P) (TE:=TE) (N:=N) D (K:=K) c ops.toList 0 (Array.replicate ops.size false) (Ab.clr ds F) (by simp) (by simp) (λj f=>by simp[f]) ⟨ψ,λj o T s f C _ _ _ V t=>by
   obtain⟨k,ok,n,W,X⟩:=(ed V).1;obtain⟨e,p,q,rfl⟩:=bz.1 n;have:=D.back j o C e p q
   grind⟩ (λj oj f Y=>by
   have r:=(R1.1 f).1;simp[r]at Y) G
 simpa using this
end
section
variable{P:Program}{w0 w w1:World}{M S0 S:aa}{N:d7}{φ:Nat->aa}{F:Nat->AV}{a:Act}{TE:Nat->Option TI}{ops:Array Oper}{ds:List Nat}{nm:Nat->Bool}
def H6(P:Program)(TE:Nat->Option TI)(ops:Array Oper)(p:Nat)(F:Nat->AV):Prop:=∃d,(cD ops p).dst=some d/\AC F (cD ops p)=none/\cm P TE F (cD ops p).op λa=>a=F d
def qk(P:Program)(TE:Nat->Option TI)(N:d7)(ops:Array Oper)(ds:List Nat)(listed:Array Bool)(i:Nat)(K:(Nat->AV)->Prop)(F:Nat->AV):Prop:=
 match ops[i]? with
 | none=>K F
 | some o=>if mB ds o=true then iH P TE N ops o K F else fL P TE N ops o (λa=>(∀p,listed.getD p false=true->mB ds (cD ops p)=true->qG ops i p=false->H6 P TE ops p a)/\K a) F
def yj(P:Program)(TE:Nat->Option TI)(N:d7)(ops:Array Oper)(ds:List Nat)(K:(Nat->AV)->Prop):Nat->Array Bool->(Nat->AV)->Prop
 | 0,listed,F=>Region.ready .any ops listed=[]/\K F
 | fuel+1,listed,F=>(Region.ready .any ops listed=[]->K F)/\∀i,i∈Region.ready .any ops listed->qk P TE N ops ds listed i (yj P TE N ops ds K fuel (listed.setIfInBounds i true)) F
theorem yC(c:∀t i,TE t=some i->eM P t i){listed:Array Bool}{i:Nat}{K:(Nat->AV)->Prop}(b:qk P TE N ops ds listed i K F)(g:St w0 M S0 N F a w){Kc:Act->World->Prop}{Q:Exit->Act->World->Prop}(d:∀F' e f,K F'->St w0 M S0 N F' e f->Kc e f):wpOp P ops Q i Kc a w:=by
 unfold qk at b;unfold wpOp;cases j:ops[i]? with
 | none=>grind
 | some o=>
  rw[j]at b;simp only at b |-;obtain⟨S,φ,h⟩:=g;have:if Region.wanted o (yielded ops a.tmps) then o.wp P a w Kc Q else Kc (a.put o.dst undef) w:=by
   split at b
   ·exact h.oneP c b d
   exact h.one c (gu b λF' h=>h.2) d
  grind
def nG(b:∀t i,TE t=some i->eM P t i){K:(Nat->AV)->Prop}{Q:Exit->Act->World->Prop}(g:∀F' d e,K F'->St w0 M S0 N F' d e->Q .normal d e) :
  ∀(fuel:Nat)(listed:Array Bool)(F:Nat->AV)(a:Act)(w:World),yj P TE N ops ds K fuel listed F->St w0 M S0 N F a w->wpAny P .any ops Q fuel listed a w
 | 0,_,F,a,w,c,f=>⟨c.1,g F a w c.2 f⟩
 | fuel+1,_,F,a,w,c,f=>⟨λj=>g F a w (c.1 j) f,λi k=>yC b (c.2 i k) f λF' d e l h=>nG b g fuel _ F' d e l h⟩
def bl(ts:List Nat)(F F1:Nat->AV):Prop:=∀t e,(F1 t).uses e=true->e∈ts\/∃a,(F a).uses e=true
theorem bl.refl(ts:List Nat)(F:Nat->AV):bl ts F F:=λt _ h=>.inr ⟨t,h⟩
theorem bl.trans{ts:List Nat}{F F1 a:Nat->AV}(b:bl ts F F1)(c:bl ts F1 a):bl ts F a:=λt e h=>by
 rcases c t e h with h|⟨d,h⟩
 ·exact .inl h
 exact b d e h
theorem bl.clean{ts:List Nat}{F1:Nat->AV}{d:Nat}(h:bl ts F F1)(b:d∉ts)(c:∀t,(F t).uses d=false):∀t,(F1 t).uses d=false:=λt=>by
 cases a:(F1 t).uses d with
 | false=>rfl
 | true=>
  rcases h t d a with h|⟨e,h⟩
  all_goals grind
theorem bl.put{ts:List Nat}{dj:Nat}{av:AV}(h:∀e,av.uses e=true->e∈ts\/∃b,(F b).uses e=true):bl ts F (put F dj av):=λt e a=>by
 by_cases c:t=dj
 ·grind [lM]
 rw[fy _ _ c]at a;exact .inr ⟨t,(FO a).1⟩
theorem Fr{t e:Nat}{v:AV}(h:(oo t v).uses e=true):v.uses e=true:=by
 cases v with
 | w a b d f=>simp only[oo]at h;cases c:Nat.beq a t<;>rw[c]at h<;>first|exact h|cases h
 | ref a b d=>cases d<;>simp only[oo]at h<;>first|exact h|(cases c:Nat.beq a t<;>rw[c]at h<;>first|exact h|cases h)
 | _=>exact h
theorem bl.updH{ts:List Nat}{t:Nat}{k:Kd}{cs:List C} : bl ts F (updH F t k cs):=λs e a=>by
 unfold Ab.updH at a;cases b:Nat.beq s t with
 | true=>rw[b]at a;cases a
 | false=>grind [Fr]
theorem Eo{t e:Nat}{v:AV}(h:(F6 t v).uses e=true):v.uses e=true:=by
 cases v with
 | w a b d f=>simp only[F6]at h;cases c:Nat.beq a t<;>rw[c]at h<;>first|exact h|cases h
 | ref a b d=>simp only[F6]at h;cases c:Nat.beq a t<;>rw[c]at h<;>first|exact h|cases h
 | _=>exact h
theorem bl.kill{ts:List Nat}{t:Nat} : bl ts F (kill F t):=λs e a=>by
 unfold Ab.kill at a;cases b:Nat.beq s t with
 | true=>rw[b]at a;cases a
 | false=>grind [Eo]
theorem br{d t:Nat}{av:AV}(h:t≠d):eff none d av F t=F t:=by grind [eff]
theorem jo{d:Nat}{a:Option Nat}{av:AV} : eff a d av F d=av:=by grind [eff]
theorem EV{d:Nat} : eff none d (F d) F=F:=by grind [jo,br]
theorem iK{d:Nat}{av:AV}{ts:List Nat}(a:d∉ts)(b:∀t,(F t).uses d=false):eL (eff none d av F) F ts:=λt c=>by grind [br]
theorem H3{d dj:Nat}{v av:AV}(a:dj≠d):put (eff none d v F) dj av=eff none d (kl dj v) (put F dj av):=by grind [lM,br,fy,jo]
theorem jR{d t:Nat}{b:Kd}{v:AV}{a:List C}(c:t≠d):updH (eff none d v F) t b a=eff none d (oo t v) (updH F t b a):=by grind [jo,Nat.beq_eq,br,updH]
theorem rV{d t:Nat}{b:Kd}{a:List C}(c:t≠d):updH F t b a d=oo t (F d):=by grind [Nat.beq_eq,updH]
theorem Az{d t:Nat}{b:Kd}{v:AV}{a:List C}(c:t≠d):updN (eff none d v F) t b a=eff none d (F8 t v) (updN F t b a):=by grind [jo,Nat.beq_eq,br,updN]
theorem x8{d t:Nat}{b:Kd}{a:List C}(c:t≠d):updN F t b a d=F8 t (F d):=by grind [Nat.beq_eq,updN]
theorem DT{t e:Nat}{v:AV}(h:(F8 t v).uses e=true):v.uses e=true:=by
 cases v with
 | w b c a f=>
  cases a with
  | nil=>exact h
  | cons s a=>simp only[F8]at h;cases d:Nat.beq b t<;>rw[d]at h<;>first|exact h|cases h
 | ref b c a=>
  cases a with
  | nil=>exact h
  | cons s a=>simp only[F8]at h;cases d:Nat.beq b t<;>rw[d]at h<;>first|exact h|cases h
 | _=>exact h
theorem bl.updN{ts:List Nat}{t:Nat}{k:Kd}{cs:List C} : bl ts F (updN F t k cs):=λs e a=>by
 unfold Ab.updN at a;cases b:Nat.beq s t with
 | true=>rw[b]at a;cases a
 | false=>grind [DT]
def Fq(d:Nat)(ts:List Nat)(v:AV)(F:Nat->AV)(K:(Nat->AV)->Prop)(F1:Nat->AV):Prop:=∃a,(v=F d->a=F1 d)/\K (eff none d a F1)/\bl ts F F1
def Ju(d:Nat)(ts:List Nat)(v:AV)(F:Nat->AV)(K:(Nat->AV)->Option Nat->List C->Prop)(F1:Nat->AV)(ag:Option Nat)(cs:List C):Prop:=∃a,(v=F d->a=F1 d)/\K (eff none d a F1) ag cs/\bl ts F F1
def Fq.trans{d:Nat}{ts:List Nat}{v v1:AV}{F1 a:Nat->AV}{K:(Nat->AV)->Prop}(b:v=F d->v1=F1 d)(c:bl ts F F1)(h:Fq d ts v1 F1 K a):Fq d ts v F K a:=by
 obtain⟨f,g,i,j⟩:=h;exact⟨f,λe=>g (b e),i,c.trans j⟩
theorem er{d dj:Nat}{ts:List Nat}{v av:AV}{K:(Nat->AV)->Prop}(h:bh N (eff none d v F) dj av K)(a:dj≠d)(b:∀e,av.uses e=true->e∈ts\/∃c,(F c).uses e=true):bh N F dj av (Fq d ts v F K):=by
 unfold bh at h |-;cases f:(N.free dj&&!av.uses dj) with
 | false=>grind
 | true=>
  rw[f]at h;simp only[cond_true]at h |-;rw[H3 a]at h;exact⟨kl dj v,λe=>by grind [fy],h,bl.put b⟩
def eZ{ts:List Nat}{k:Kd}{cs:List C} : ∀e,(AV.F k cs).uses e=true->e∈ts\/∃a,(F a).uses e=true:=λe h=>by cases h
theorem vU{p:(Nat->AV)->(AV->Prop)->Prop}{d dj:Nat}{v:AV}{ts0 ts:List Nat}{K:(Nat->AV)->Prop}(h:kQ p (eff none d v F) ts0 λav=>bh N (eff none d v F) dj av K)(a:dj≠d)(j:∀t,t∈ts0->t∈ts)(k:d∉ts)(b:∀t,(F t).uses d=false) :
  p F λav=>bh N F dj av (Fq d ts v F K):=by
 obtain⟨av,c,f,g⟩:=h;refine g F (iK ψ b) _ (er c a λe i=>?_);rcases f e i with h|⟨t,l,h⟩
 all_goals grind [br]
theorem kh{d:Nat}{ts:List Nat}{v:AV}{y:Operand}{K:(Nat->AV)->Option Nat->List C->Prop}(h:ep (eff none d v F) y K)(n:d∉tm y)(o:∀t,(F t).uses d=false):ep F y (Ju d ts v F K):=by
 have fin:∀{t:Nat}{k:Kd}{b:List C}{a:Option Nat}{xs:List C},t≠d->K (updH (eff none d v F) t k b) a xs->Ju d ts v F K (updH F t k b) a xs:=fun {t k b a xs} c h=>by
  rw[jR c]at h;exact⟨_,λe=>by rw[rV c,e],h,bl.updH⟩
 have tG:∀{t:Nat}{k:Kd}{b:List C}{a:Option Nat}{xs:List C},t≠d->K (updN (eff none d v F) t k b) a xs->Ju d ts v F K (updN F t k b) a xs:=fun {t k b a xs} c h=>by
  rw[Az c]at h;exact⟨_,λe=>by rw[x8 c,e],h,bl.updN⟩
 cases y with
 | tmp t=>
  have c:t≠d:=λe=>n (by simp[tm,e])
  simp only[ep]at h |-;rw[br c]at h;cases g:F t with
  | F p q=>
   grind
  | w i u l a=>
   rw[g]at h;have w:i≠d:=λe=>by have:=o t;rw[g,e]at this;simp[AV.uses]at this
   cases l with
   | cons s l=>
    simp only at h |-;rw[br w]at h;cases f:F i with
    | F p q=>
     rw[f]at h;obtain⟨r,j,A,B,D,E⟩:=Lq.out h;exact .mk_ ψ
    | _=>grind
   | nil=>
    grind [br]
  | _=>grind
 | _=>exact h.elim
theorem FJ{d:Nat}{ts:List Nat}{v:AV}{y:Operand}{K:(Nat->AV)->Option Nat->List C->Prop}(h:qh (eff none d v F) y K)(b:d∉tm y)(c:∀t,(F t).uses d=false):qh F y (Ju d ts v F K):=by
 obtain⟨i,xs,a,f⟩:=b9 h;refine f F (iK b c) _ ?_;cases g:aQ xs with
 | true=>rw[g]at a;exact⟨v,λe=>e,a,bl.refl _ _⟩
 | false=>grind [kh]
def JX(d:Nat)(ts:List Nat)(v:AV)(F:Nat->AV)(K:(Nat->AV)->List C->Prop)(F1:Nat->AV)(cs:List C):Prop:=∃a,(v=F d->a=F1 d)/\K (eff none d a F1) cs/\bl ts F F1
theorem sM{d:Nat}{ts:List Nat}{c:Nat->Option (Nat × Nat)}(a:d∉ts):∀{parts:List (Nat × Operand)}{cs:List C}{K:(Nat->AV)->List C->Prop}{F:Nat->AV}{v:AV},fillW c parts cs K (eff none d v F)->(∀p,p∈parts->d∉tm p.2)->(∀t,(F t).uses d=false)->
  fillW c parts cs (JX d ts v F K) F
 | [],cs,K,F,v,h,_,b=>⟨v,λe=>e,h,bl.refl _ _⟩
 | p::rest,cs,K,F,v,h,r,b=>by
  simp only[fillW]at h |-;split at h
  case h_2=>exact h.elim
  rename_i q u;refine pH (FJ (ts:=ts) h ψ b) λw y xs h=>?_
  obtain⟨A,g,h,f⟩:=h;cases i:(Nat.beq xs.length q.2&&Nat.ble (q.1+q.2) cs.length) with
  | false=>grind
  | true=>
   rw[i]at h;simp only[cond_true,cA]at h |-;refine fY (sM a h ψ (f.clean a b)) λB cs2 j=>?_
   obtain⟨k,l,n,o⟩:=j;exact⟨k,λe=>l (g e),n,f.trans o⟩
theorem Bx{d dj T:Nat}{ts:List Nat}{v:AV}{parts:List (Nat × Operand)}{K:(Nat->AV)->Prop}(h:ic TE N (eff none d v F) dj T parts K)(a:dj≠d)(b:d∉ts)(c:∀p,p∈parts->d∉tm p.2)(e:∀t,(F t).uses d=false) :
  ic TE N F dj T parts (Fq d ts v F K):=by
 unfold ic at h |-;split at h
 case h_2=>exact h.elim
 rename_i size bytes zero flds k;cases f:vj TE flds with
 | false=>grind
 | true=>
  rw[f]at h;refine fY (sM b h c e) λl n h=>?_
  obtain⟨o,g,h,i⟩:=h;exact aL (er (ts:=ts) h a eZ) λq j=>Fq.trans g i j
theorem An{d dj T n:Nat}{ts:List Nat}{v:AV}{parts:List (Nat × Operand)}{K:(Nat->AV)->Prop}(h:dX TE N (eff none d v F) dj T n parts K)(a:dj≠d)(c:d∉ts)(f:∀p,p∈parts->d∉tm p.2)(g:∀t,(F t).uses d=false) :
  dX TE N F dj T n parts (Fq d ts v F K):=by
 unfold dX at h |-;obtain⟨e,i,h,b⟩:=ek h;refine b _ ?_;cases j:Nat.ble (n*i.size) 16777216 with
 | false=>grind
 | true=>
  rw[j]at h;simp only[cond_true]at h |-;cases n with
  | zero=>
   cases parts with
   | nil=>exact er h a eZ
   | cons=>exact h.elim
  | succ n=>
   simp only[cA]at h |-;refine fY (sM c h f g) λq r h=>?_
   obtain⟨u,k,h,l⟩:=h;rw[lJ]at h |-;exact aL (er (ts:=ts) h a eZ) λw o=>Fq.trans k l o
theorem EG{d dj t:Nat}{ts:List Nat}{v:AV}{K:(Nat->AV)->Prop}(h:fA N (eff none d v F) dj (.tmp t) K)(a:dj≠d)(c:d∉ts)(l:t∈ts)(g:∀t,(F t).uses d=false):fA N F dj (.tmp t) (Fq d ts v F K):=by
 have b:t≠d:=ψ
 have std:aW (eff none d v F) (.tmp t) (λf=>bh N (eff none d v F) dj f K)->aW F (.tmp t) (λf=>bh N F dj f (Fq d ts v F K)):=λh=>
  vU (p:=λF K=>aW F (.tmp t) K) (gx h) a (λn o=>by grind [tm]) c g
 simp only[fA]at h |-;rw[br b]at h;split at h
 ·rename_i i xs q
  cases j:aQ xs with
  | true=>grind [er]
  | false=>
   rw[j]at h;simp only[cond_false]at h |-;rw[jR b]at h;exact aL (er (ts:=ts) h a eZ) λr k=>Fq.trans (F1:=updH F t (.tup i) _) (λe=>by grind [rV]) bl.updH k
 all_goals exact std h
theorem Hb{d dj T:Nat}{ts:List Nat}{v:AV}{x b:Operand}{K:(Nat->AV)->Prop}(h:wR TE N (eff none d v F) dj T x b K)(c:dj≠d)(f:d∉tm x)(g:d∉tm b)(j:∀t,(F t).uses d=false):wR TE N F dj T x b (Fq d ts v F K):=by
 unfold wR at h |-;obtain⟨e,A,h,a⟩:=ek h;refine a _ ?_;obtain⟨n,k,i⟩:=gZ h;refine i F (iK g j) _ ?_;refine dc (kh (ts:=ts) k f j) λB C D h=>?_
 obtain⟨E,l,h,o⟩:=h;split at h
 case h_2=>exact h.elim
 obtain⟨m,y,p,q,r,u,w,h⟩:=h.out;exact .mk_ ⟨m,y,p,q,r,u,w,_,rfl,aL (er (ts:=ts) h c eZ) λG i=>Fq.trans l o i⟩
theorem GT{d dj T:Nat}{ts:List Nat}{v:AV}{x b:Operand}{K:(Nat->AV)->Prop}(h:xD TE N (eff none d v F) dj T x b K)(c:dj≠d)(f:d∉tm x)(g:d∉tm b)(j:∀t,(F t).uses d=false):xD TE N F dj T x b (Fq d ts v F K):=by
 unfold xD at h |-;obtain⟨e,A,h,a⟩:=ek h;refine a _ ?_;obtain⟨n,k,i⟩:=gZ h;refine i F (iK g j) _ ?_;refine dc (kh (ts:=ts) k f j) λB C D h=>?_
 obtain⟨E,l,h,o⟩:=h;split at h
 case h_2=>exact h.elim
 obtain⟨m,y,p,q,r,u,w,h⟩:=h.out;exact .mk_ ⟨m,y,p,q,r,u,w,_,rfl,aL (er (ts:=ts) h c eZ) λG i=>Fq.trans l o i⟩
theorem BK{d dj:Nat}{ts:List Nat}{v:AV}{x:Operand}{K:(Nat->AV)->Prop}(h:ij N (eff none d v F) dj x K)(a:dj≠d)(j:d∉ts)(k:∀t,t∈tm x->t∈ts)(o:∀t,(F t).uses d=false):ij N F dj x (Fq d ts v F K):=by
 have l:∀y,(∀t,t∈tm y->t∈ts)->aW (eff none d v F) y (λn=>bh N (eff none d v F) dj n K)->aW F y (λn=>bh N F dj n (Fq d ts v F K)):=λy q h=>vU (p:=λF K=>aW F y K) (gx h) a q j o
 have A:∀y,(∀t,t∈tm y->t∈ts)->ep (eff none d v F) y (λb e i=>bh N b dj (.F (iT e) i) K)->ep F y (λb e i=>bh N b dj (.F (iT e) i) (Fq d ts v F K)):=λy q h=>
  dc (kh (ts:=ts) h ψ o) λb e i h=>by
   obtain⟨B,r,h,u⟩:=h;exact aL (er (ts:=ts) h a eZ) λC w=>Fq.trans r u w
 cases x with
 | tmp t=>
  grind [br,tm,ij]
 | const c=>exact l (.const c) k h
 | global g=>exact l (.global g) k h
 | func f=>exact l (.func f) k h
theorem vI{d t:Nat}{v:AV}(a:t≠d):kill (eff none d v F) t=eff none d (F6 t v) (kill F t):=by grind [jo,i7,br,m3]
theorem Hh{d dj:Nat}{ts:List Nat}{v:AV}{x:Operand}{K:(Nat->AV)->Prop}(h:vS N (eff none d v F) dj x K)(a:dj≠d)(c:d∉ts)(j:∀t,t∈tm x->t∈ts)(l:∀t,(F t).uses d=false):vS N F dj x (Fq d ts v F K):=by
 have f:x7 N (eff none d v F) dj x=x7 N F dj x:=by
  cases x with
  | tmp t=>
   grind [br,tm,x7]
  | _=>rfl
 unfold vS at h |-;cases b:D7 N dj x with
 | true=>
  rw[b]at h;simp only[cond_true]at h |-;exact er (ts:=ts) h a eZ
 | false=>
 rw[b]at h;simp only[cond_false]at h |-;unfold Bi at h |-;rw[f]at h;cases i:x7 N F dj x with
 | none=>grind [BK]
 | some p=>
  rw[i]at h;simp only at h |-;obtain⟨rfl,n⟩:=uE i;have g:p.1≠d:=λe=>c (e ▸ j p.1 (by simp[tm]))
  rw[vI g]at h;exact aL (er (ts:=ts) h a eZ) λo k=>Fq.trans (F1:=kill F p.1) (λe=>by grind [i7]) bl.kill k
theorem Bj{d:Nat}{ts:List Nat}{v:AV}{x:Operand}{cs:List C}{K:(Nat->AV)->Prop}(h:nt (eff none d v F) x cs K)(l:d∉tm x)(n:∀t,(F t).uses d=false):nt F x cs (Fq d ts v F K):=by
 have fin:∀{t:Nat}{k:Kd}{cs:List C},t≠d->K (updH (eff none d v F) t k cs)->Fq d ts v F K (updH F t k cs):=fun {t k cs} a h=>by
  rw[jR a]at h;exact⟨_,λe=>by rw[rV a,e],h,bl.updH⟩
 have tG:∀{t:Nat}{k:Kd}{cs:List C},t≠d->K (updN (eff none d v F) t k cs)->Fq d ts v F K (updN F t k cs):=fun {t k cs} a h=>by
  rw[Az a]at h;exact⟨_,λe=>by rw[x8 a,e],h,bl.updN⟩
 have finP:∀{t:Nat}{k:Kd}{cs:List C},t≠d->K (G3 (eff none d v F) t k cs)->Fq d ts v F K (G3 F t k cs):=fun {t k cs} a h=>by
  cases k with
  | box=>exact fin a h
  | _=>exact tG a h
 cases x with
 | tmp t=>
  have a:t≠d:=λe=>l (by simp[tm,e])
  simp only[nt]at h |-;rw[br a]at h;cases c:F t with
  | F k o=>
   grind [cA]
  | ref f p g=>
   rw[c]at h;have i:f≠d:=λe=>by have:=n t;rw[c,e]at this;simp[AV.uses]at this
   cases g with
   | cons s g=>
    simp only at h |-;rw[br i]at h;cases b:F f with
    | F k o=>
     rw[b]at h;obtain⟨r,j,q,u,w,y⟩:=Pu.out h;exact Pu.mk q u w rfl (finP i y)
    | _=>grind
   | nil=>
    grind [br,cA]
  | _=>grind
 | _=>exact h.elim
theorem D5{d T:Nat}{ts:List Nat}{v:AV}{x y:Operand}{K:(Nat->AV)->Prop}(h:jm TE (eff none d v F) T x y K)(b:d∉ts)(n:d∉tm x)(j:d∉tm y)(c:∀t,(F t).uses d=false):jm TE F T x y (Fq d ts v F K):=by
 unfold jm at h |-;split at h
 ·rename_i i r
  obtain⟨u,k,a,e⟩:=b9 h;refine e F (iK j c) _ ?_;cases o:Nat.beq k.length i.size with
  | false=>grind
  | true=>
   rw[o]at a;simp only[cond_true]at a |-;cases p:aQ k with
   | true=>grind [Bj]
   | false=>
    rw[p]at a;simp only[cond_false]at a |-;refine dc (kh (ts:=ts) a j c) λw q f h=>?_
    obtain⟨A,a,h,l⟩:=h;cases g:Nat.beq f.length i.size with
    | false=>grind
    | true=>rw[g]at h;exact uD (Bj (ts:=ts) h n (l.clean b c)) λB e=>Fq.trans a l e
 exact h.elim
def H0{d:Nat}{v:AV}{y:Operand}(a:d∉tm y):jD (eff none d v F) y=jD F y:=by
 cases y with
 | tmp t=>exact br λe=>a (by simp[tm,e])
 | _=>rfl
theorem H7{d:Nat}{ts:List Nat}{v:AV}{y:Operand}{K:Bool->(Nat->AV)->List (List C)->Prop}(h:vL (eff none d v F) y K)(b:d∉tm y)(c:∀t,(F t).uses d=false):vL F y λe F1 rows=>∃v1,(v=F d->v1=F1 d)/\K e (eff none d v1 F1) rows/\bl ts F F1:=by
 have a:=H0 (F:=F) (v:=v) b;unfold vL at h |-;rw[a]at h;split at h
 ·refine dc (kh (ts:=ts) h b c) λF1 f g h=>?_
  obtain⟨v1,i,h,j⟩:=h
  grind
 grind [b9,iK,bl.refl]
theorem FD{d:Nat}{ts:List Nat}{v:AV}{y:Operand}{K:(Nat->AV)->List (List C)->Prop}(h:uK (eff none d v F) y K)(b:d∉tm y)(c:∀t,(F t).uses d=false):uK F y λF1 rows=>∃v1,(v=F d->v1=F1 d)/\K (eff none d v1 F1) rows/\bl ts F F1:=by
 obtain⟨e,xs,a,f⟩:=b9 h;refine f F (iK b c) _ ?_;split at a
 ·grind [bl.refl]
 ·refine dc (kh (ts:=ts) a b c) λF1 e g h=>?_
  obtain⟨v1,a,h,i⟩:=h
  grind
 exact a.elim
theorem Gj{d dj T:Nat}{ts:List Nat}{v:AV}{x y:Operand}{K:(Nat->AV)->Prop}(h:uC TE N (eff none d v F) dj T x y K)(b:dj≠d)(c:d∉ts)(j:d∉tm x)(k:d∉tm y)(f:∀t,(F t).uses d=false):uC TE N F dj T x y (Fq d ts v F K):=by
 obtain⟨e,B,h,a⟩:=ek h;refine a _ (wU (H7 (ts:=ts) h k f) λC D E h=>?_);obtain⟨G,l,h,g⟩:=h;refine uS (FD (ts:=ts) h j (g.clean c f)) λH i h=>?_
 obtain⟨J,n,h,o⟩:=h;obtain⟨p,q,r,u,w,h⟩:=Ap.out h;refine CI p q r u w rfl (aL (er (ts:=ts) h b eZ) λL A=>?_);exact Fq.trans l g (Fq.trans n o A)
theorem Ed{f:Oper}{d:Nat}{v:AV}{K:(Nat->AV)->Prop}(E:f.guard=none)(g:GM f.op=true)(k:f.dst≠some d)(A:d∉f.looksAt ops)(B:∀t,(F t).uses d=false)(h:fL P TE N ops f K (eff none d v F)) :
  fL P TE N ops f (Fq d (f.looksAt ops) v F K) F:=by
 unfold fL dN at h |-;rw[E]at h |-;simp only at h |-;have j:∀t,t∈cI f.op->t∈f.looksAt ops:=λt l=>fw f t l
 have pur:∀b,b≠d->cm P TE (eff none d v F) f.op (λq=>bh N (eff none d v F) b q K)->cm P TE F f.op λq=>bh N F b q (Fq d (f.looksAt ops) v F K):=λb k h=>
  vU (p:=λF K=>cm P TE F f.op K) (gq h) k j A B
 have dne:∀b,f.dst=some b->b≠d:=ψ
 have tmI:∀x,x∈f.op.operands.toList->∀t,t∈tm x->t∈f.looksAt ops:=λx G t l=>j t (List.mem_flatMap.2 ⟨x,G,l⟩)
 cases e:f.op with
 | store T x y=>
  rw[e]at h tmI;simp only[tM]at h |-;cases a:f.dst with
  | some b=>rw[a]at h;simp only[fH]at h;exact h.elim
  | none=>
   grind [D5,Go.Op.operands]
 | move x=>
  rw[e]at h tmI;cases a:f.dst with
  | none=>rw[a]at h;exact h.elim
  | some b=>
   rw[a]at h;cases x with
   | tmp t=>
    simp only[tM,fH]at h |-;exact EG h (dne b a) A (tmI (.tmp t) (by simp[Op.operands]) t (by simp[tm])) B
   | _=>rw[e]at g;cases g
 | assign x=>
  rw[e]at h tmI
  grind [Hh,tM,fH,Go.Op.operands]
 | build T H=>
  rw[e]at h tmI
  grind [Bx,tM,fH,Go.Op.operands]
 | buildSlice T n H=>
  rw[e]at h tmI
  grind [An,tM,fH,Go.Op.operands]
 | extract x i=>rw[e]at h pur;cases a:f.dst with|none=>rw[a]at h;exact h.elim|some b=>rw[a]at h;exact pur b (dne b a) h
 | load T x=>rw[e]at h pur;cases a:f.dst with|none=>rw[a]at h;exact h.elim|some b=>rw[a]at h;exact pur b (dne b a) h
 | fieldAddr T x i=>rw[e]at h pur;cases a:f.dst with|none=>rw[a]at h;exact h.elim|some b=>rw[a]at h;exact pur b (dne b a) h
 | field T x i=>rw[e]at h pur;cases a:f.dst with|none=>rw[a]at h;exact h.elim|some b=>rw[a]at h;exact pur b (dne b a) h
 | binOp o T x y L=>rw[e]at h pur;cases a:f.dst with|none=>rw[a]at h;exact h.elim|some b=>rw[a]at h;exact pur b (dne b a) h
 | unOp o T x=>rw[e]at h pur;cases a:f.dst with|none=>rw[a]at h;exact h.elim|some b=>rw[a]at h;exact pur b (dne b a) h
 | call c=>
  rw[e]at g h tmI;cases J:mJ c with
  | none=>grind [GM]
  | some p=>
   have r:=rW J;subst r;cases a:f.dst with
   | none=>rw[a]at h;exact h.elim
   | some b=>
    grind [Gj,tM,fH,Go.Op.operands,Go.Call.operands]
 | slice T x C u D=>
  rw[e]at g h tmI pur;cases C with
  | some C=>
   cases u with
   | some _=>cases g
   | none=>
    cases D with
    | some _=>cases g
    | none=>
     cases a:f.dst with
     | none=>rw[a]at h;exact h.elim
     | some b=>
      rw[a]at h;simp only[tM,fH]at h |-;cases w:H9 N b with
      | false=>simp_all
      | true=>
       grind [GT,Go.Op.operands]
  | none=>
   cases u with
   | none=>cases g
   | some u=>
    cases D with
    | some _=>cases g
    | none=>
     cases a:f.dst with
     | none=>rw[a]at h;exact h.elim
     | some b=>
      rw[a]at h;simp only[tM,fH]at h |-;cases w:H9 N b with
      | false=>simp_all
      | true=>
       grind [Hb,Go.Op.operands]
 | _=>rw[e]at g;cases g
theorem Hu{a:Oper}{d:Nat}{K:(Nat->AV)->Prop}(c:a.guard=none)(f:GM a.op=true)(b:a.dst≠some d)(g:d∉a.looksAt ops)(i:∀t,(F t).uses d=false)(h:fL P TE N ops a K F) :
  fL P TE N ops a (λF1=>K F1/\bl (a.looksAt ops) F F1) F:=by
 refine gu (Ed (d:=d) (v:=F d) c f b g i (by rw[EV];exact h)) λF1 j=>?_
 obtain⟨k,e,l,u⟩:=j
 grind [EV]
theorem bl.setH{ts:List Nat}{t:Nat}{k:Kd}{cs:List C} : bl ts F (setH F t (.F k cs)):=λs e a=>by
 unfold Ab.setH at a;cases b:Nat.beq s t with
 | true=>rw[b]at a;cases a
 | false=>grind
theorem Ar{ts:List Nat}{d:Nat}{k:Kd}{rcs:List C}{K:(Nat->AV)->Prop}(h:bh N F d (.F k rcs) K):bh N F d (.F k rcs) λF1=>K F1/\bl ts F F1:=by
 unfold bh at h |-;cases a:(N.free d&&!(AV.F k rcs).uses d) with
 | false=>grind
 | true=>rw[a]at h;exact⟨h,bl.put λe b=>by cases b⟩
theorem pt{ts:List Nat}{t off n:Nat}{st:bE}{K:(Nat->AV)->List C->Prop}(h:lendAt F t off st n K):lendAt F t off st n λF1 cs=>K F1 cs/\bl ts F F1:=by
 unfold lendAt at h |-;split at h
 all_goals grind [cA,bl.updH]
def iO{ts:List Nat} : ∀{xs:List (Operand × Nat)}{K:(Nat->AV)->List (MA × nz)->Prop}{F:Nat->AV},lendP xs K F->lendP xs (λF1 l=>K F1 l/\bl ts F F1) F
 | [],K,F,h=>⟨h,bl.refl _ _⟩
 | (x,0)::xs,K,F,h=>iO (xs:=xs) h
 | (x,1)::xs,K,F,h=>by
  simp only[lendP]at h |-;split at h
  case h_2=>exact h.elim
  split at h
  ·exact d9 (pt (ts:=ts) h) λF1 c h=>bv (iO (ts:=ts) h.1) λb l a=>⟨a.1,h.2.trans a.2⟩
  ·exact d9 (pt (ts:=ts) h) λF1 c h=>bv (iO (ts:=ts) h.1) λb l a=>⟨a.1,h.2.trans a.2⟩
  ·exact d9 (pt (ts:=ts) h) λF1 c h=>bv (iO (ts:=ts) h.1) λb l a=>⟨a.1,h.2.trans a.2⟩
  exact h.elim
 | (x,n+2)::xs,K,F,h=>by
  simp only[lendP]at h |-;split at h
  case h_2=>exact h.elim
  split at h
  ·split at h
   ·exact bv (iO (ts:=ts) h) λb l a=>⟨a.1,bl.kill.trans a.2⟩
   exact h.elim
  ·exact bv (iO (ts:=ts) h) λb l a=>⟨a.1,bl.kill.trans a.2⟩
  exact h.elim
theorem iR{ts:List Nat}{K:(Nat->AV)->Prop} : ∀{l:List (MA × nz)}{B:List MA}{F:Nat->AV},eK l B K F->eK l B (λF1=>K F1/\bl ts F F1) F
 | [],[],F,h=>⟨h,bl.refl _ _⟩
 | [],_::_,F,h=>h.elim
 | (m,.no)::l,[],F,h=>h.elim
 | (m,.at_ t off st)::l,[],F,h=>h.elim
 | (m,.box t)::l,[],F,h=>h.elim
 | (m,.no)::l,.val _ _::B,F,h=>iR (l:=l) (B:=B) h
 | (m,.no)::l,.mut _ _::B,F,h=>iR (l:=l) (B:=B) h
 | (m,.no)::l,.ptr _::B,F,h=>iR (l:=l) (B:=B) h
 | (m,.at_ t off st)::l,.val _ _::B,F,h=>h.elim
 | (m,.at_ t off st)::l,.ptr _::B,F,h=>h.elim
 | (m,.box t)::l,.val _ _::B,F,h=>h.elim
 | (m,.box t)::l,.mut _ _::B,F,h=>h.elim
 | (m,.at_ t off st)::l,.mut ag out::B,F,h=>by
  simp only[eK]at h |-;split at h
  case h_2=>exact h.elim
  split at h
  ·rename_i k c _ _
   cases d:Nat.ble (off+out.length) c.length with
   | false=>grind
   | true=>
    rw[d]at h;simp only[cond_true,cA]at h |-;exact cE (λb a=>⟨a.1,bl.updH.trans a.2⟩) (iR (ts:=ts) h)
  obtain⟨r,j,e,f,g,i⟩:=Pu.out h;exact Pu.mk e f g rfl (cE (λb a=>⟨a.1,bl.updH.trans a.2⟩) (iR (ts:=ts) i))
 | (m,.box t)::l,.ptr out::B,F,h=>by
  simp only[eK]at h |-;split at h
  ·exact cE (λb a=>⟨a.1,bl.setH.trans a.2⟩) (iR (ts:=ts) h)
  exact h.elim
theorem E9{ts:List Nat}{d:Option Nat}{f:Nat}{args:List Operand}{modes:List Nat}{K:(Nat->AV)->Prop}(h:iE P N F d f args modes K):iE P N F d f args modes λF1=>K F1/\bl ts F F1:=by
 unfold iE at h |-;refine bv (iO (ts:=ts) h) λn l h=>?_
 obtain⟨h,c⟩:=h;cases e:(pY l&&Nat.beq args.length modes.length) with
 | false=>grind
 | true=>
  rw[e]at h;refine gc h λb A h=>?_
  obtain⟨o,B,k,rcs,g,a,i⟩:=gt.out h;refine CE g a (cE (λF'' h=>?_) (iR (ts:=ts) i));obtain⟨h,j⟩:=h;cases d with
  | none=>grind [bl.trans]
  | some d=>exact aL (Ar (ts:=ts) h) λp a=>⟨a.1,(c.trans j).trans a.2⟩
theorem Gz{ts:List Nat}{d:Option Nat}{t:Nat}{cs:List C}{c a e b:Nat}{K:(Nat->AV)->Prop}{k:Kd}{rcs:List C}{B:List MA}(h:rb N F d t cs c a e b K k rcs B):rb N F d t cs c a e b (λF1=>K F1/\bl ts F F1) k rcs B:=by
 unfold rb at h |-;split at h
 case h_2=>exact h.elim
 rename_i g i;cases j:(Nat.beq g.length a&&Nat.beq i.length b) with
 | false=>grind
 | true=>
  rw[j]at h;simp only[cond_true,cA]at h |-;cases d with
  | none=>exact⟨h,bl.kill.trans bl.setH⟩
  | some d=>exact aL (Ar (ts:=ts) h) λl f=>⟨f.1,(bl.kill.trans bl.setH).trans f.2⟩
theorem Fn{ts:List Nat}{d:Option Nat}{f:Nat}{args:List Operand}{a b:Nat}{K:(Nat->AV)->Prop}(h:gF P N F d f args a b K):gF P N F d f args a b λF1=>K F1/\bl ts F F1:=by
 unfold gF at h |-;split at h
 case h_2=>exact h.elim
 refine io h λt e h=>io h λg c h=>?_
 split at h
 case h_2=>exact h.elim
 rename_i i p;cases j:(Nat.beq g t&&Nat.ble (e+a) c&&Nat.ble (c+b) i.length) with
 | false=>grind
 | true=>
  rw[j]at h;simp only[cond_true,cA]at h |-;obtain⟨q,B,k,rcs,l,n,o⟩:=gt.out h;exact CE l n (Gz o)
def Ef{ts:List Nat}{d:Option Nat}{f:Nat}{args:List Operand}{modes:List Nat}{K:(Nat->AV)->Prop}(h:gR P N F d f args modes K):gR P N F d f args modes λF1=>K F1/\bl ts F F1:=by
 unfold gR at h |-;split
 ·rename_i p a;rw[a]at h;exact Fn h
 rename_i a;rw[a]at h;exact E9 h
theorem Hi{ts:List Nat}{dj:Option Nat}{s:Nat}{a:Nat->AV}(u:bl ts F a):bl ts F (rv1 F dj s a):=by
 unfold rv1;split
 case h_2=>exact u
 rename_i t c f;cases g:(dne dj s&&dne dj t) with
 | false=>exact u
 | true=>
  simp only[cond_true];split
  case h_2=>exact u
  split
  case h_2=>exact u
  intro q e b;by_cases d:q=s
  ·grind [ml]
  rw[dI _ _ d]at b;exact u q e b
theorem zR{ts:List Nat}{dj:Option Nat} : ∀{l:List Nat}{a:Nat->AV},bl ts F a->bl ts F (rvE F dj l a)
 | [],_,u=>u
 | _::l,_,u=>zR (l:=l) (Hi u)
theorem FU{a:Oper}{K:(Nat->AV)->Prop}(k:a.guard=none)(i:lg a.op=true)(h:fL P TE N ops a K F):fL P TE N ops a (λF1=>K F1/\bl (a.looksAt ops) F F1) F:=by
 have pur:∀d,a.dst=some d->cm P TE F a.op (λg=>bh N F d g K)->cm P TE F a.op λg=>bh N F d g λF1=>K F1/\bl (a.looksAt ops) F F1:=λd l h=>by
  have n:eA P TE N ops a K F:=by grind [eA,dN]
  obtain⟨y,g,j,o⟩:=sY n;have b:=j.dst;rw[l]at b;simp only[P0]at b;subst b;have A:=j.at_ F (CO _ _) (λF1=>K F1/\bl (a.looksAt ops) F F1) ⟨o,bl.put λe q=>(j.from_ e q).imp id ψ⟩
  grind [eA,dN]
 unfold fL dN at h |-;rw[k]at h |-;simp only at h |-;cases f:a.op with
 | call c=>
  rw[f]at h i;have r:mJ c=none:=by grind [lg,mJ]
  have pl:gJ P TE N a K F->gJ P TE N a (λF1=>K F1/\bl (a.looksAt ops) F F1) F:=λh=>by grind [gJ,fH]
  cases t:tM N F (.call c) with
  | some p=>
   rw[t]at h;simp only at h |-;have lt:nQ P N F a.dst p.1 p.2.1 p.2.2 K->nQ P N F a.dst p.1 p.2.1 p.2.2 λF1=>K F1/\bl (a.looksAt ops) F F1:=λh=>n9 (Ef (ts:=a.looksAt ops) h) λF1 ⟨h,u⟩=>by grind [jY,zR]
   cases w:DV N (.call c) with
   | false=>grind
   | true=>
    rw[w]at h;rcases h with h|h
    ·exact .pl (pl h)
    exact .lt (lt h)
  | none=>
   grind [gJ]
 | _=>rw[f]at i;cases i
theorem FH{a:Oper}{d:Nat}{K:(Nat->AV)->Prop}(c:a.guard=none)(e:(GM a.op || lg a.op)=true)(b:a.dst≠some d)(f:d∉a.looksAt ops)(g:∀t,(F t).uses d=false)(h:fL P TE N ops a K F) :
  fL P TE N ops a (λF1=>K F1/\bl (a.looksAt ops) F F1) F:=by grind [Hu,FU]
def Gq(d:Nat)(ts:List Nat)(F:Nat->AV)(K:(Nat->AV)->Prop)(F1:Nat->AV):Prop:=∃a,K (eff none d a F1)/\bl ts F F1
def Gq.trans{d:Nat}{ts:List Nat}{F1 a:Nat->AV}{K:(Nat->AV)->Prop}(b:bl ts F F1)(h:Gq d ts F1 K a):Gq d ts F K a:=by
 obtain⟨c,e,f⟩:=h;exact⟨c,e,b.trans f⟩
theorem v7{d t:Nat}{v av:AV}(a:t≠d):setH (eff none d v F) t av=eff none d v (setH F t av):=by grind [jo,dI,br,setH]
theorem pS{ts:List Nat}{d t off n:Nat}{v:AV}{st:bE}{K:(Nat->AV)->List C->Prop}(h:lendAt (eff none d v F) t off st n K)(a:t≠d):lendAt F t off st n λF1 cs=>∃v1,K (eff none d v1 F1) cs/\bl ts F F1:=by
 unfold lendAt at h |-;rw[br a]at h;split at h
 case h_2=>exact h.elim
 split at h
 ·grind [cA,jR,bl.updH]
 obtain⟨r,j,b,c,e,f⟩:=Lq.out h;refine .mk_ ?_
 grind [jR,bl.updH]
theorem jq{ts:List Nat}{d:Nat}(a:d∉ts):∀{xs:List (Operand × Nat)}{K:(Nat->AV)->List (MA × nz)->Prop}{F:Nat->AV}{v:AV},lendP xs K (eff none d v F)->(∀x,x∈xs->d∉tm x.1)->(∀t,(F t).uses d=false)->
  lendP xs (λF1 l=>(∃v1,K (eff none d v1 F1) l/\bl ts F F1)/\∀q,q∈l->d∉q.2.slot) F
 | [],K,F,v,h,_,_=>⟨⟨v,h,bl.refl _ _⟩,ψ⟩
 | (x,0)::xs,K,F,v,h,w,c=>by
  simp only[lendP]at h |-;refine bv (jq a h ψ c) λF1 l h=>⟨h.1,λq b=>?_⟩
  rcases List.mem_cons.1 b with rfl|b
  ·exact λu=>by cases u
  exact h.2 q b
 | (x,1)::xs,K,F,v,h,w,c=>by
  simp only[lendP]at h |-;split at h
  case h_2=>exact h.elim
  rename_i s;have j:s≠d:=λe=>w _ W0 (by simp[tm,e])
  rw[br j]at h;have y:∀{t:Nat}{F1:Nat->AV}{l:List (MA × nz)}{m:MA}{f:Nat}{A:bE}{K2:(Nat->AV)->List (MA × nz)->Prop},t≠d->((∃v1,K2 (eff none d v1 F1) ((m,.at_ t f A)::l)/\bl ts F F1)/\∀q,q∈l->d∉q.2.slot)->(∃v1,K2 (eff none d v1 F1) ((m,.at_ t f A)::l)/\bl ts F F1)/\∀q,q∈(m,nz.at_ t f A)::l->d∉q.2.slot:=λg h=>⟨h.1,λq b=>by
    rcases List.mem_cons.1 b with rfl|b
    · exact λu=>g (T0.1 u).symm
    exact h.2 q b⟩
  split at h
  ·exact d9 (pS (ts:=ts) h j) λF1 k h=>by
    obtain⟨v1,h,i⟩:=h;exact bv (jq a h ψ (i.clean a c)) λB l h=>by
     obtain⟨⟨o,h,p⟩,r⟩:=h;exact y (K2:=K) j ⟨⟨o,h,i.trans p⟩,r⟩
  ·exact d9 (pS (ts:=ts) h j) λF1 k h=>by
    obtain⟨v1,h,i⟩:=h;exact bv (jq a h ψ (i.clean a c)) λB l h=>by
     obtain⟨⟨o,h,p⟩,r⟩:=h;exact y (K2:=K) j ⟨⟨o,h,i.trans p⟩,r⟩
  ·rename_i t f A G D
   have g:t≠d:=λe=>by have:=c s;rw[D,e]at this;simp[AV.uses]at this
   exact d9 (pS (ts:=ts) h g) λF1 k h=>by
    obtain⟨v1,h,i⟩:=h;exact bv (jq a h ψ (i.clean a c)) λB l h=>by
     obtain⟨⟨o,h,p⟩,r⟩:=h;exact y (K2:=K) g ⟨⟨o,h,i.trans p⟩,r⟩
  exact h.elim
 | (x,n+2)::xs,K,F,v,h,w,c=>by
  simp only[lendP]at h |-;split at h
  case h_2=>exact h.elim
  rename_i s;have j:s≠d:=λe=>w _ W0 (by simp[tm,e])
  rw[br j]at h;have y:∀{t:Nat}{k:List C},t≠d->lendP xs (λE l=>K E ((.ptr k,.box t)::l)) (kill (eff none d v F) t)->lendP xs (λF1 l=>(∃v1,K (eff none d v1 F1) ((.ptr k,.box t)::l)/\bl ts F F1)/\∀q,q∈(MA.ptr k,nz.box t)::l->d∉q.2.slot) (kill F t):=fun {t k} g h=>by
   rw[vI g]at h;refine bv (jq a h ψ ((bl.kill (ts:=ts)).clean a c)) λB l h=>?_
   obtain⟨⟨o,h,p⟩,r⟩:=h;refine⟨⟨o,h,bl.kill.trans p⟩,λq b=>?_⟩;rcases List.mem_cons.1 b with rfl|b
   ·exact λu=>g (T0.1 u).symm
   exact r q b
  split at h
  ·rename_i t D
   have g:t≠d:=λe=>by have:=c s;rw[D,e]at this;simp[AV.uses]at this
   rw[br g]at h;split at h
   all_goals simp_all
  all_goals simp_all
theorem nX{d:Nat}{v:AV}(a:∀t,(F t).uses d=false):∀{l:List (MA × nz)}{xs:List Operand}{K:Bool->List MA->Prop},valsP (eff none d v F) l xs K->(∀x,x∈xs->d∉tm x)->valsP F l xs K
 | [],[],K,h,_=>h
 | (m,.no)::l,x::xs,K,h,b=>by
  obtain⟨f,g,c,e⟩:=b9 h;exact e F (iK ψ a) _ (nX a c ψ)
 | (m,.at_ t off st)::l,x::xs,K,h,b=>nX (l:=l) (xs:=xs) a h ψ
 | (m,.box t)::l,x::xs,K,h,b=>nX (l:=l) (xs:=xs) a h ψ
 | [],_::_,K,h,_=>h.elim
 | (m,.no)::l,[],K,h,_=>h.elim
 | (m,.at_ t off st)::l,[],K,h,_=>h.elim
 | (m,.box t)::l,[],K,h,_=>h.elim
theorem iA{ts:List Nat}{d:Nat}{K:(Nat->AV)->Prop} : ∀{l:List (MA × nz)}{B:List MA}{F:Nat->AV}{v:AV},eK l B K (eff none d v F)->(∀q,q∈l->d∉q.2.slot)->eK l B (Gq d ts F K) F
 | [],[],F,v,h,_=>⟨v,h,bl.refl _ _⟩
 | [],_::_,F,v,h,_=>h.elim
 | (m,.no)::l,[],F,v,h,_=>h.elim
 | (m,.at_ t off st)::l,[],F,v,h,_=>h.elim
 | (m,.box t)::l,[],F,v,h,_=>h.elim
 | (m,.no)::l,.val _ _::B,F,v,h,b=>iA (l:=l) (B:=B) h ψ
 | (m,.no)::l,.mut _ _::B,F,v,h,b=>iA (l:=l) (B:=B) h ψ
 | (m,.no)::l,.ptr _::B,F,v,h,b=>iA (l:=l) (B:=B) h ψ
 | (m,.at_ t off st)::l,.val _ _::B,F,v,h,_=>h.elim
 | (m,.at_ t off st)::l,.ptr _::B,F,v,h,_=>h.elim
 | (m,.box t)::l,.val _ _::B,F,v,h,_=>h.elim
 | (m,.box t)::l,.mut _ _::B,F,v,h,_=>h.elim
 | (m,.at_ t off st)::l,.mut ag out::B,F,v,h,b=>by
  have c:t≠d:=λe=>b _ W0 (by simp[nz.slot,e])
  have a:∀q,q∈l->d∉q.2.slot:=ψ
  simp only[eK]at h |-;rw[br c]at h;split at h
  case h_2=>exact h.elim
  split at h
  ·rename_i k n _ _
   cases o:Nat.ble (off+out.length) n.length with
   | false=>grind
   | true=>
    rw[o]at h;simp only[cond_true,cA]at h |-;rw[jR c]at h;exact cE (λg f=>Gq.trans bl.updH f) (iA (ts:=ts) h a)
  obtain⟨r,j,p,u,w,i⟩:=Pu.out h;rw[jR c]at i;exact Pu.mk p u w rfl (cE (λg f=>Gq.trans bl.updH f) (iA (ts:=ts) i a))
 | (m,.box t)::l,.ptr out::B,F,v,h,b=>by
  have c:t≠d:=λe=>b _ W0 (by simp[nz.slot,e])
  have a:∀q,q∈l->d∉q.2.slot:=ψ
  simp only[eK]at h |-;rw[br c]at h;split at h
  ·rw[v7 c]at h
   exact cE (λg f=>Gq.trans bl.setH f) (iA (ts:=ts) h a)
  exact h.elim
theorem DQ{ts:List Nat}{d:Nat}{dj:Option Nat}{v:AV}{f:Nat}{args:List Operand}{modes:List Nat}{K:(Nat->AV)->Prop}(h:iE P N (eff none d v F) dj f args modes K)(n:dj≠some d)(a:d∉ts)(g:∀x,x∈args->d∉tm x)(i:∀t,(F t).uses d=false) :
  iE P N F dj f args modes (Gq d ts F K):=by
 unfold iE at h |-;refine bv (jq a h (λx o=>g _ (List.of_mem_zip o).1) i) λE l h=>?_
 obtain⟨⟨G,h,c⟩,p⟩:=h;cases q:(pY l&&Nat.beq args.length modes.length) with
 | false=>grind
 | true=>
  rw[q]at h;refine gc (nX (c.clean a i) h g) λb A h=>?_
  obtain⟨H,B,k,rcs,r,e,u⟩:=gt.out h;refine CE r e (cE (λF'' h=>?_) (iA (ts:=ts) u p));obtain⟨w,h,j⟩:=h;cases dj with
  | none=>exact⟨w,h,c.trans j⟩
  | some dj=>
   refine aL (er (ts:=ts) h ψ eZ) λJ e=>?_
   obtain⟨y,-,C,D⟩:=e;exact⟨y,C,(c.trans j).trans D⟩
theorem FY{ts:List Nat}{d:Nat}{dj:Option Nat}{v:AV}{t:Nat}{cs:List C}{c a e b:Nat}{K:(Nat->AV)->Prop}{k:Kd}{rcs:List C}{B:List MA}(f:t≠d)(g:dj≠some d)(h:rb N (eff none d v F) dj t cs c a e b K k rcs B):rb N F dj t cs c a e b (Gq d ts F K) k rcs B:=by
 unfold rb at h |-;split at h
 case h_2=>exact h.elim
 rename_i i j;cases l:(Nat.beq i.length a&&Nat.beq j.length b) with
 | false=>grind
 | true=>
  rw[l]at h;simp only[cond_true,cA]at h |-;rw[vI f,v7 f]at h;cases dj with
  | none=>exact⟨_,h,bl.kill.trans bl.setH⟩
  | some dj=>
   refine aL (er (ts:=ts) h ψ eZ) λr n=>?_
   obtain⟨o,-,p,q⟩:=n;exact⟨o,p,(bl.kill.trans bl.setH).trans q⟩
theorem AL{d:Nat}{v:AV}{x:Operand}{K:Nat->Nat->Prop}(b:d∉tm x)(c:∀t,(F t).uses d=false)(h:tW (eff none d v F) x K):tW F x λt o=>t≠d/\K t o:=by
 obtain⟨s,t,f,rfl,a,i⟩:=o7 h;have g:s≠d:=λe=>b (by simp[tm,e])
 rw[br g]at a;have j:t≠d:=λe=>by have:=c s;rw[a,e]at this;simp[AV.uses]at this
 grind [tW]
theorem D9{ts:List Nat}{d:Nat}{dj:Option Nat}{v:AV}{f:Nat}{args:List Operand}{a b:Nat}{K:(Nat->AV)->Prop}(h:gF P N (eff none d v F) dj f args a b K)(g:dj≠some d)(c:∀x,x∈args->d∉tm x)(e:∀t,(F t).uses d=false) :
  gF P N F dj f args a b (Gq d ts F K):=by
 unfold gF at h |-;split at h
 case h_2=>exact h.elim
 refine io (AL (c _ (by simp)) e h) λt j h=>?_
 obtain⟨i,h⟩:=h;refine io (AL (c _ (by simp)) e h) λk l h=>?_
 replace h:=h.2;rw[br i]at h;split at h
 all_goals grind [cA,gt.out,CE,FY]
theorem Eb{ts:List Nat}{d:Nat}{dj:Option Nat}{v:AV}{f:Nat}{args:List Operand}{modes:List Nat}{K:(Nat->AV)->Prop}(h:gR P N (eff none d v F) dj f args modes K)(a:dj≠some d)(b:d∉ts)(c:∀x,x∈args->d∉tm x)(e:∀t,(F t).uses d=false) :
  gR P N F dj f args modes (Gq d ts F K):=by grind [D9,DQ,gR]
theorem GF{dj:Option Nat}{s q:Nat}{F1:Nat->AV}(c:q≠s):rv1 F dj s F1 q=F1 q:=by
 unfold rv1;cases F s with
 | ref t a b=>
  cases b with
  | cons=>rfl
  | nil=>
   simp only;cases(dne dj s&&dne dj t) with
   | false=>rfl
   | true=>
    simp only[cond_true];cases F1 t with
    | F k d=>
     cases k with
     | box=>
      simp only;cases F1 s with
      | dead=>grind [dI]
      | _=>rfl
     | _=>rfl
    | _=>rfl
 | _=>rfl
theorem GY{d:Nat}{dj:Option Nat}{v v1:AV}{s:Nat}{F1:Nat->AV}(c:∀t,(F t).uses d=false):∃a,rv1 (eff none d v F) dj s (eff none d v1 F1)=eff none d a (rv1 F dj s F1):=by
 by_cases b:s=d
 ·subst b
  have f:∃a,rv1 (eff none s v F) dj s (eff none s v1 F1)=eff none s a F1:=by
   unfold rv1;rw[jo];have set:∀x:AV,setH (eff none s v1 F1) s x=eff none s x F1:=λx=>by grind [ml,jo,dI,br]
   grind
  obtain⟨a,g⟩:=f;refine⟨a,g.trans ?_⟩
  grind [jo,br,GF]
 refine⟨v1,?_⟩;unfold rv1;rw[br b];cases h:F s with
 | ref t i j=>
  cases j with
  | cons=>rfl
  | nil=>
   have k:t≠d:=λe=>by have:=c s;rw[h,e]at this;simp[AV.uses]at this
   grind [br,v7]
 | _=>rfl
def EH{d:Nat}{dj:Option Nat}{v:AV}(a:∀t,(F t).uses d=false):∀{l:List Nat}{v1:AV}{F1:Nat->AV},∃b,rvE (eff none d v F) dj l (eff none d v1 F1)=eff none d b (rvE F dj l F1)
 | [],v1,_=>⟨v1,rfl⟩
 | s::l,v1,F1=>by
  simp only[rvE];obtain⟨b,e⟩:=GY (dj:=dj) (v:=v) (v1:=v1) (s:=s) (F1:=F1) a;rw[e];exact EH a
theorem FB{a:Oper}{d:Nat}{v:AV}{K:(Nat->AV)->Prop}(B:a.guard=none)(k:lg a.op=true)(g:a.dst≠some d)(w:d∉a.looksAt ops)(n:∀t,(F t).uses d=false)(h:fL P TE N ops a K (eff none d v F)) :
  fL P TE N ops a (Gq d (a.looksAt ops) F K) F:=by
 have f:∀t,t∈cI a.op->t∈a.looksAt ops:=λt o=>fw a t o
 have tmI:∀x,x∈a.op.operands.toList->∀t,t∈tm x->t∈a.looksAt ops:=λx y t o=>f t (List.mem_flatMap.2 ⟨x,y,o⟩)
 have pur:∀dj,dj≠d->cm P TE (eff none d v F) a.op (λj=>bh N (eff none d v F) dj j K)->cm P TE F a.op λj=>bh N F dj j (Fq d (a.looksAt ops) v F K):=λdj g h=>
  vU (p:=λF K=>cm P TE F a.op K) (gq h) g f w n
 unfold fL dN at h |-;rw[B]at h |-;simp only at h |-;cases b:a.op with
 | call c=>
  rw[b]at h k tmI;have q:mJ c=none:=by grind [lg,mJ]
  have r:tM N (eff none d v F) (.call c)=tM N F (.call c):=by grind [lg,tM]
  rw[r]at h;have pl:gJ P TE N a K (eff none d v F)->gJ P TE N a (Gq d (a.looksAt ops) F K) F:=λh=>by
   unfold gJ at h |-;rw[b]at h |-;cases C:a.dst with
   | none=>grind
   | some dj=>
    rw[C]at h;simp only[fH,q]at h |-;have A:=pur dj ψ;rw[b]at A;obtain⟨j,D,-,E⟩:=gq (A h);exact E F (CO _ _) _ (aL D λQ G=>by
      obtain⟨v1,-,H,u⟩:=G;exact⟨v1,H,u⟩)
  cases J:tM N F (.call c) with
  | some p=>
   rw[J]at h;simp only at h |-;have i:∀x,x∈p.2.1->d∉tm x:=λx y L=>by grind [lg,tM,Go.Op.operands,Go.Call.operands]
   have lt:nQ P N (eff none d v F) a.dst p.1 p.2.1 p.2.2 K->nQ P N F a.dst p.1 p.2.1 p.2.2 (Gq d (a.looksAt ops) F K):=λh=>n9 (Eb (ts:=a.looksAt ops) h g w i n) λF1 h=>by
    obtain⟨v1,h,u⟩:=h;rw[jY]at h |-;obtain⟨M,e⟩:=EH (dj:=a.dst) (v:=v) (l:=Jx N.mo) (v1:=v1) (F1:=F1) n;rw[e]at h;exact⟨M,h,zR u⟩
   cases O:DV N (.call c) with
   | false=>grind
   | true=>
    rw[O]at h;rcases h with h|h
    ·exact .pl (pl h)
    exact .lt (lt h)
  | none=>
   grind [gJ]
 | _=>rw[b]at k;cases k
theorem G8{a:Oper}{d:Nat}{v:AV}{K:(Nat->AV)->Prop}(e:a.guard=none)(b:(GM a.op || lg a.op)=true)(c:a.dst≠some d)(f:d∉a.looksAt ops)(g:∀t,(F t).uses d=false)(h:fL P TE N ops a K (eff none d v F)) :
  fL P TE N ops a (Gq d (a.looksAt ops) F K) F:=by
 rw[I3]at b;rcases b with b|b
 ·refine gu (Ed e b c f g h) λl i=>?_
  obtain⟨j,-,k,u⟩:=i;exact⟨j,k,u⟩
 grind [FB]
structure jg(ops:Array Oper)(ds:List Nat)(F:Nat->AV)(listed:Array Bool):Prop where
 dst:∀(j:Nat)(o:Oper)(d:Nat),mB ds o=true->ops[j]? = some o->listed.getD j true=false->o.dst=some d->∀t,(F t).uses d=false
 mv:∀(j:Nat)(o:Oper)(T:Option Nat)(s:Nat),mB ds o=true->ops[j]? = some o->listed.getD j true=false->o.guard=none->jG o.op=some (T,s)->fR ops o s=true->∀t,(F t).uses s=false
theorem jg.put{j d:Nat}{o:Option Nat}{listed:Array Bool}{av:AV}(h:jg ops ds F listed)(p:∀b a g,mB ds a=true->b≠j->ops[b]? = some a->listed.getD b true=false->a.dst=some g->av.uses g=false)(q:∀b a T s,mB ds a=true->b≠j->ops[b]? = some a->listed.getD b true=false->a.guard=none->jG a.op=some (T,s)->fR ops a s=true->av.uses s=false) :
  jg ops ds (eff o d av F) (listed.setIfInBounds j true):=by
 refine⟨λb a g i c e k t=>?_,λb a T s i c e r l n t=>?_⟩
 ·have f:=fx e
  rw[getD_set_ne true (Ne.symm f)]at e;exact gn ψ (h.dst b a g i c e k t)
 have f:=fx e;rw[getD_set_ne true (Ne.symm f)]at e;exact gn ψ (h.mv b a T s i c e r l n t)
theorem rU{o:Oper}(h:HP o=true):o.guard=none:=by grind [HP]
theorem DL{ts:List Nat}{d:Nat}(h:(!ts.any (Nat.beq d))=true):d∉ts:=λa=>by grind [Nat.beq_refl]
theorem EP{a b:Oper}{d:Nat}{c:Bool}(h:Jg ops a b c=true)(f:b.dst=some d):a.guard=none/\(GM a.op || lg a.op)=true/\a.dst≠some d/\d∉a.looksAt ops/\b.guard=none/\d∉b.looksAt ops/\(c=true\/∀T s,jG b.op=some (T,s)->fR ops b s=false):=by
 unfold Jg at h;rw[f]at h;simp only[I0]at h;obtain⟨⟨⟨⟨⟨⟨g,i⟩,n⟩,j⟩,k⟩,l⟩,o⟩:=h;refine⟨rU g,i,λe=>?_,DL j,rU k,DL l,?_⟩
 ·simp_all
 grind
def Fh{j i:Nat}(h:qG ops j i=true):kH ops j i:=oQ j _ (λ_ a=>.one (sg a)) i h
theorem AZ{o:Oper}(h:mB ds o=true):∃d,o.dst=some d/\ds.any (Nat.beq d)=true:=by grind [mB]
structure GR(ops:Array Oper)(ds:List Nat)(nm:Nat->Bool):Prop where
 back:∀(j:Nat)(oj:Oper),ops[j]? = some oj->∀e∈oj.after,Region.binds .any e=true->e.on<j
 apart:∀(i j:Nat)(oi oj:Oper),mB ds oi=true->mB ds oj=true->i≠j->ops[i]? = some oi->ops[j]? = some oj->cn oj i=true\/cn oi j=true\/oi.apart ops oj=true
 look:∀(i j:Nat)(oi oj:Oper)(d:Nat),mB ds oi=true->i≠j->ops[i]? = some oi->ops[j]? = some oj->oi.dst=some d->d∈oj.looksAt ops->cn oj i=true
 differ:∀(i j:Nat)(oi oj:Oper)(d:Nat),mB ds oi=true->mB ds oj=true->i≠j->ops[i]? = some oi->ops[j]? = some oj->oi.dst=some d->oj.dst≠some d
 nf:∀(i j:Nat)(oi oj:Oper),mB ds oi=true->mB ds oj=false->i≠j->ops[i]? = some oi->ops[j]? = some oj->qG ops j i=true\/qG ops i j=true\/Jg ops oj oi (nm i)=true
 mvs:∀(j:Nat)(oj:Oper)(T:Option Nat)(s:Nat),mB ds oj=true->ops[j]? = some oj->jG oj.op=some (T,s)->fR ops oj s=true->ds.any (Nat.beq s)=true
theorem lH{listed:Array Bool}{j i:Nat}{d:Oper}(a:GR ops ds nm)(b:DC ops listed)(c:ops[j]? = some d)(f:∀e∈d.after,Region.binds .any e=true->listed.getD e.on false=true)(g:qG ops j i=true):listed.getD i false=true:=
 jQ b a.back (Fh g) (R1.1 c).1 λk h=>by grind [aU,bz]
theorem unl{listed:Array Bool}{k:Nat}(a:listed.getD k true=false)(b:listed.getD k false=true):False:=ψ
theorem eL.trans{F1 a:Nat->AV}{ts:List Nat}(c:eL F F1 ts)(d:eL F1 a ts):eL F a ts:=λt b=>by
 obtain⟨e,f⟩:=c t b;obtain⟨g,h⟩:=d t b
 grind
theorem jg.us{j:Nat}{g:Oper}{F1:Nat->AV}{listed:Array Bool}(n:GR ops ds nm)(h:jg ops ds F listed)(o:ops[j]? = some g)(r:∀e∈g.after,Region.binds .any e=true->listed.getD e.on false=true)(u:bl (g.looksAt ops) F F1):jg ops ds F1 (listed.setIfInBounds j true):=by
 refine⟨λi k t l b c d=>u.clean (λf=>?_) (h.dst i k t l b ?_ d),λi k T s l b c w p q=>u.clean (λf=>?_) (h.mv i k T s l b ?_ w p q)⟩
 ·have a:=fx c
  rw[getD_set_ne true (Ne.symm a)]at c;have:=n.look i j k g t l a b o d f
  grind [bz]
 ·have a:=fx c
  rwa [getD_set_ne true (Ne.symm a)]at c
 ·grind [fx,ed,bY]
 have a:=fx c
 rwa [getD_set_ne true (Ne.symm a)]at c
theorem GU{p d:Nat}{v:AV}{F1:Nat->AV}{b:Oper}(a:ops[p]? = some b)(j:d∉b.looksAt ops)(k:∀t,(F1 t).uses d=false)(e:b.dst≠some d)(h:H6 P TE ops p (eff none d v F1)):H6 P TE ops p F1:=by
 obtain⟨f,g,i,c⟩:=h;rw[aU a]at g i c;refine⟨f,by grind [aU],?_,?_⟩
 ·grind [aU,qY,iK]
 rw[aU a];obtain⟨l,n,-,o⟩:=gq c
 grind [br,iK,fw]
theorem zk(W:GR ops ds nm){i d:Nat}{b:Oper}{K:(Nat->AV)->Prop}(D:ops[i]? = some b)(w:mB ds b=true) :
  ∀(fuel:Nat)(listed:Array Bool)(F:Nat->AV)(l:Option Nat)(av:AV),i∈Region.ready .any ops listed->jg ops ds F listed->DC ops listed->Yl P TE N ops b F l d av->(nm i=true->l=none)->yj P TE N ops ds K fuel (listed.setIfInBounds i true) (eff l d av F)->yj P TE N ops ds K (fuel+1) listed F:=by
 have self:∀(listed:Array Bool)(F:Nat->AV)(l:Option Nat)(av:AV),i∈Region.ready .any ops listed->jg ops ds F listed->Yl P TE N ops b F l d av->∀X:(Nat->AV)->Prop,X (eff l d av F)->iH P TE N ops b X F:=λlisted F l av hr a c X hK=>by
  have f:=(mem_ready.1 hr).1;refine c.at_ F (CO _ _) (a.dst i b d w D f c.dst) (λs hs=>?_) X hK;obtain⟨B,⟨T,h2⟩,h3⟩:=c.mvl s hs;exact a.mv i b T s w D f B h2 h3
 intro fuel
 induction fuel with
 | zero=>
  intro listed F l av hr a E c hnm H;refine⟨ψ,λj hj=>?_⟩;by_cases n:j=i
  ·grind [qk]
  have:=ready_mono hj n;rw[H.1]at this;cases this
 | succ fuel ih=>
  intro listed F l av hr a E c hnm H;refine⟨ψ,λj hj=>?_⟩;by_cases n:j=i
  ·grind [qk]
  have B:=H.2 j (ready_mono hj n);obtain⟨R,g,q,hall⟩:=mem_ready.1 hj;obtain⟨f,oi',C,halli⟩:=mem_ready.1 hr;rw[D]at C;simp only[P0]at C;subst C;have noedge:∀k ok,ops[k]? = some ok->listed.getD k true=false->cn g k=false:=λk ok hk hkun=>by grind [bz]
  have noedge':∀k ok,ops[k]? = some ok->listed.getD k true=false->cn b k=false:=λk ok hk hkun=>by grind [bz]
  have cd:∀t,(F t).uses d=false:=a.dst i b d w D f c.dst
  unfold qk at B |-;rw[q]at B |-;simp only at B |-;by_cases G:mB ds g=true
  case neg=>
   rw[C9 G]at B |-;have hji1:qG ops j i=false:=by grind [lH]
   have hij1:qG ops i j=false:=by grind [lH]
   have hfb:Jg ops g b (nm i)=true:=by grind [GR.nf]
   obtain⟨J,r,A,g4,g5,g6,g7⟩:=EP hfb c.dst;have hmv:l=none:=by
    cases l with
    | none=>rfl
    | some s=>
     obtain⟨-,⟨T,q1⟩,q2⟩:=c.mvl s rfl
     grind
   subst hmv;refine gu (G8 J r A g4 cd B) λF1 hF1=>?_
   obtain⟨v,⟨S,hrun⟩,u⟩:=hF1;have cd1:∀t,(F1 t).uses d=false:=u.clean g4 cd
   have hisz:i<listed.size:=ψ
   have hrd:H6 P TE ops i (eff none d v F1):=S i (by simp[hisz]) (by grind [aU]) hji1;refine⟨λp hp1 L hp3=>?_,ih (listed.setIfInBounds j true) F1 none v (ready_mono hr (Ne.symm n)) (a.us W q hall u) (E.put hj) ?_ (λ_=>rfl) (by grind [Array.setIfInBounds_comm])⟩
   ·have hpi:p≠i:=ψ
    have hpl:p<ops.size:=by
     rcases Nat.lt_or_ge p ops.size with h|h
     ·exact h
     rw[show cD ops p=default by simp[cD,M3,Array.getElem?_eq_none h]]at L;cases L
    have h0:ops[p]? = some ops[p]:=ψ
    have U:=L;rw[aU h0]at U;refine GU h0 (λhlk=>?_) cd1 (W.differ i p b _ d w U (Ne.symm hpi) D h0 c.dst) (S p (getD_set_true hp1) L hp3);have:=W.look i p b _ d w (Ne.symm hpi) D h0 c.dst hlk;exact unl f (E p _ h0 hp1 i this)
   obtain⟨dp,q1,q2,q3⟩:=hrd;rw[aU D]at q1 q2 q3;have hdp:dp=d:=by grind [Yl.dst]
   subst hdp;rw[jo]at q3;obtain⟨M,e1,e2,e3⟩:=gq q3;subst e1;have agr1:eL (eff none dp M F1) F1 (b.looksAt ops):=iK g6 cd1;have fromv:df F1 (b.looksAt ops) M:=λe he=>by
    rcases e2 e he with h|⟨t,Y,h⟩
    all_goals grind [fw,br]
   have Z:M.uses dp=false:=by
    cases hu:M.uses dp with
    | false=>rfl
    | true=>
     rcases fromv dp hu with h|⟨t,_,h⟩
     all_goals grind
   refine⟨c.dst,c.lt,Z,fromv,ψ,λF' hA O _ X hK=>?_⟩;have agr2:=agr1.trans hA;unfold iH;rw[qY agr2,q2];simp only;unfold eA dN
   grind [eL.mono,fw,Yl.lt,wa,bh]
  rw[CA G]at B |-;have hap:b.apart ops g=true:=by grind [GR.apart]
  obtain⟨ap1,ap2,ap3⟩:=Oper.apart_spec hap;have hdl:d∉g.looksAt ops:=ap1 d c.dst;have cdj':∀o,g.dst=some o->∀t,(F t).uses o=false:=λo hdj=>a.dst j g o G q R hdj
  have cmv:∀s,l=some s->(∀t,(F t).uses s=false)/\s∉g.looksAt ops/\s∈b.looksAt ops:=λs hs=>by
   obtain⟨J,⟨T,r⟩,A⟩:=c.mvl s hs;exact⟨a.mv i b T s w D f J r A,λhl=>n ((ed A).2 i j b g D q (bY r) hl).symm,bY r⟩
  have cmvj:∀T s,g.guard=none->jG g.op=some (T,s)->fR ops g s=true->(∀t,(F t).uses s=false)/\s∉b.looksAt ops/\s∈g.looksAt ops:=λT s J r A=>
   ⟨a.mv j g T s G q R J r A,λhl=>n ((ed A).2 i j b g D q hl (bY r)).symm,bY r⟩
  have avno:∀e,e∉b.looksAt ops->(∀t,(F t).uses e=false)->av.uses e=false:=λe B h2=>by
   cases hu:av.uses e with
   | false=>rfl
   | true=>
    rcases c.from_ e hu with h|⟨t,_,h⟩
    all_goals grind
  obtain⟨mvj,o,avj,y,hKj⟩:=m6 B (λo hdj t=>gn ψ (cdj' o hdj t)) (λT s J r A t=>by grind [gn]);have hdne:d≠o:=λe=>ap2 d c.dst (by rw[y.dst,e])
  have hdjl:o∉b.looksAt ops:=ap3 o y.dst;have cdj:∀t,(F t).uses o=false:=cdj' o y.dst
  have cmj:∀s,mvj=some s->(∀t,(F t).uses s=false)/\s∉b.looksAt ops/\s∈g.looksAt ops:=λs hs=>by
   obtain⟨J,⟨T,r⟩,A⟩:=y.mvl s hs
   grind
  have lookj:∀t,t∈g.looksAt ops->eff l d av F t=F t:=λt Y=>by grind [eff]
  have looki:∀t,t∈b.looksAt ops->eff mvj o avj F t=F t:=λt Y=>by grind [eff]
  have avjno:∀e,e∉g.looksAt ops->(∀t,(F t).uses e=false)->avj.uses e=false:=λe B h2=>by
   cases hu:avj.uses e with
   | false=>rfl
   | true=>
    rcases y.from_ e hu with h|⟨t,Y,h⟩
    all_goals grind
  have agrj:eL (eff l d av F) F (g.looksAt ops):=λt Y=>by grind [eff]
  refine y.at_ F agrj cdj ψ _ (ih (listed.setIfInBounds j true) (eff mvj o avj F) l av (ready_mono hr (Ne.symm n)) (a.put (λj' o' d' hm' V Q hl' O=>?_) (λj' o' T s hm' V Q hl' J r A=>?_)) (E.put hj) ?_ hnm ?_)
  ·refine avjno d' (λh=>?_) (a.dst j' o' d' hm' Q hl' O)
   grind [GR.look]
  ·exact avjno s (λh=>V ((ed A).2 j' j o' g Q q (bY r) h)) (a.mv j' o' T s hm' Q hl' J r A)
  ·refine⟨c.dst,c.lt,c.self,λe he=>?_,c.mvl,λF' hA O hs' X hK=>c.at_ F' (λt Y=>?_) O hs' X hK⟩
   ·rcases c.from_ e he with h|⟨t,Y,h⟩
    all_goals grind
   obtain⟨a1,a2⟩:=hA t Y
   grind [eff]
  rw[Array.setIfInBounds_comm _ _ n];have:eff l d av (eff mvj o avj F)=eff mvj o avj (eff l d av F):=by grind [eff]
  grind
theorem um:∀{b:List Nat}{X:Prop}{F:Nat->AV},Fd P TE ops b X F->X/\∀p,p∈b->H6 P TE ops p F
 | [],X,F,h=>⟨h,ψ⟩
 | p::l,X,F,h=>by
  simp only[Fd]at h;unfold Ji at h;cases c:(cD ops p).dst with
  | none=>grind
  | some d=>
   rw[c]at h;simp only at h;cases f:AC F (cD ops p) with
   | some q=>grind
   | none=>
    rw[f]at h;simp only at h;obtain⟨g,i,-,-⟩:=gq h;obtain⟨e,k,j⟩:=(show g=F d/\X/\∀p,p∈l->H6 P TE ops p F from⟨i.out.1,um i.out.2⟩)
    refine⟨k,λn a=>?_⟩;rcases List.mem_cons.1 a with rfl|a
    ·exact⟨d,c,f,eE h λg h=>h.out.1⟩
    grind
theorem pQ{l:List (Nat × List Nat)}{i:Nat} : sx l i=true↔∃p,p∈l/\p.1=i:=by grind [Z0,Nat.beq_refl,sx]
theorem mr{k:Nat × List Nat}{l:List (Nat × List Nat)}{i:Nat} : sx (k::l) i=(Nat.beq k.1 i || sx l i):=rfl
theorem vn(b:GR ops ds nm){K:(Nat->AV)->Prop} : ∀(l:List (Nat × List Nat))(listed:Array Bool)(F:Nat->AV),yE ops ds l=true->listed.size=ops.size->(∀j,j<ops.size->listed.getD j true = !sx l j)->jg ops ds F listed->DC ops listed->
  Dp P TE N ops ds nm l K F->yj P TE N ops ds K l.length listed F
 | [],listed,F,_,hs,E,_,_,c=>by
  refine⟨?_,c⟩;apply List.eq_nil_iff_forall_not_mem.2;intro j R;obtain⟨S,o,ho,-⟩:=mem_ready.1 R;have G:=(R1.1 ho).1;rw[E j G]at S;cases S
 | k::l,listed,F,A,hs,E,a,H,c=>by
  simp only[yE,I0]at A;obtain⟨⟨⟨⟨q1,q2⟩,q3⟩,Z⟩,q5⟩:=A;have hk:k.1<ops.size:=by simp_all
  have r:ops[k.1]? = some ops[k.1]:=ψ
  have hrf:∀i,i<ops.size->listed.getD i true=true->listed.getD i false=true:=ψ
  have hready:k.1∈Region.ready .any ops listed:=mem_ready.2 ⟨by grind [mr,Nat.beq_refl],_,r,λe he hb=>by
    have G:=b.back k.1 _ r e he hb
    grind [aU,mr]⟩
  have B:∀j,j<ops.size->(listed.setIfInBounds k.1 true).getD j true = !sx l j:=λj R=>by
   by_cases w:j=k.1
   ·simp_all
   rw[getD_set_ne true (Ne.symm w),E j R,mr,show Nat.beq k.1 j=false by rw[<-Bool.not_eq_true,Nat.beq_eq];exact Ne.symm w];rfl
  show yj P TE N ops ds K (l.length+1) listed F;simp only[Dp]at c;rw[aU r]at c Z;have U:listed.getD k.1 true=false:=(mem_ready.1 hready).1;cases f:mB ds ops[k.1] with
  | true=>
   rw[f]at c;simp only[cond_true]at c;obtain⟨mv,d,av,hy,c,hnm⟩:=Db c (λd hd=>a.dst k.1 _ d f r U hd) (λT s g1 g2 g3=>a.mv k.1 _ T s f r U g1 g2 g3);have C:∀e∈ops[k.1].after,Region.binds .any e=true->listed.getD e.on false=true:=by grind [Go.mem_ready]
   refine zk b r f l.length listed F mv av hready a H hy hnm (vn b l _ _ q5 (by simpa using hs) B (a.put (λO Q V g D n hl'' J=>?_) (λO Q T s g D n hl'' g1 g2 g3=>?_)) (H.put hready) c)
   ·cases hu:av.uses V with
    | false=>rfl
    | true=>
     rcases hy.from_ V hu with h|⟨t,_,h⟩
     ·have:=b.look O k.1 Q _ V g D n r J h
      grind [bz]
     rw[a.dst O Q V g n hl'' J t]at h;cases h
   cases hu:av.uses s with
   | false=>rfl
   | true=>
    rcases hy.from_ s hu with h|⟨t,_,h⟩
    ·grind [ed,bY]
    rw[a.mv O Q T s g n hl'' g1 g2 g3 t]at h;cases h
  | false=>
   rw[f]at c Z;simp only[cond_false]at c;simp only[Bool.false_or,I0]at Z;obtain⟨⟨r1,r2⟩,r3⟩:=Z;refine⟨ψ,λj R=>?_⟩;obtain⟨hjun,oj,y,C⟩:=mem_ready.1 R;have hjlt:=(R1.1 y).1;have w:j=k.1:=by grind [pQ,lH]
   subst w;rw[r]at y;simp only[P0]at y;subst y;unfold qk;rw[r];simp only[f,C9 (show ¬false=true by decide)];have post:∀u,Fd P TE ops k.2 (Dp P TE N ops ds nm l K u) u->jg ops ds u (listed.setIfInBounds k.1 true)->(∀p,listed.getD p false=true->mB ds (cD ops p)=true->qG ops k.1 p=false->H6 P TE ops p u)/\yj P TE N ops ds K l.length (listed.setIfInBounds k.1 true) u:=λu L W=>by
    obtain⟨X,hrd⟩:=um L;refine⟨λp hp1 hp2 hp3=>hrd p ?_,vn b l _ _ q5 (by simpa using hs) B W (H.put hready) X⟩;have hpl:p<ops.size:=ψ
    grind [ey,mr,Z0]
   cases hlater:l.any (λj=>mB ds (cD ops j.1)) with
   | false=>
    refine gu c λu L=>post u L ⟨λO Q V g n hl'' J=>?_,λO Q T s g n hl''=>?_⟩
    all_goals grind [pQ,aU]
   | true=>
    rw[hlater]at r3;simp only[Bool.not_true,Bool.false_or,I0]at r3;obtain⟨x,hx1,q⟩:=V1.1 hlater;have Y:listed.getD x.1 true=false/\x.1<ops.size:=by
     have G:x.1<ops.size:=by
      rcases Nat.lt_or_ge x.1 ops.size with h|h
      ·exact h
      rw[show cD ops x.1=default by simp[cD,M3,Array.getElem?_eq_none h]]at q;cases q
     grind [pQ]
    have M:ops[x.1]? = some ops[x.1]:=ψ
    rw[aU M]at q;obtain⟨d,hd,hdd⟩:=AZ q;have hxk:x.1≠k.1:=ψ
    refine gu (FH (d:=d) (rU r3.1) r3.2 (λe=>?_) (λhlk=>?_) (a.dst x.1 _ d q M Y.1 hd) c) λu S=>post u S.1 (a.us b r C S.2)
    ·grind [mB]
    have:=b.look x.1 k.1 _ _ d q hxk M r hd hlk
    grind [bz]
theorem wc{sch:List (Nat × List Nat)}(h:vu ops ds sch=true):GR ops ds (Js sch)/\yE ops ds sch=true/\sch.length=ops.size/\∀j,j<ops.size->sx sch j=true:=by
 unfold vu at h;simp only[I0]at h;obtain⟨⟨p,k⟩,l⟩:=h;have C:=λj (o:j<ops.size)=>ey p o
 have r:∀(i j:Nat)(c b:Oper),i≠j->ops[i]? = some c->ops[j]? = some b->uT ops ds (Js sch) i j=true:=λi j c b a f g=>by grind [ey,Nat.beq_eq]
 refine⟨⟨λj b o e t u=>?_,λi j c b n q a f g=>?_,λi j c b d n a f g w D=>?_,λi j c b d n q a f g w t=>?_,λi j c b n q a f g=>?_,λj b T s n o y A=>?_⟩,l,Z0 k,λj o=>?_⟩
 ·grind [aU,Nat.blt_eq]
 ·grind [aU,uT]
 ·have:=r i j c b a f g
  unfold uT at this;rw[aU f,aU g,n]at this;have B:pd ops i j=true:=by grind [aU,Nat.beq_refl,pd]
  grind
 ·grind [aU,Nat.beq_refl,uT]
 all_goals grind [aU,uT]
theorem pv{l:List Nat}{j:Nat} : vm l j=true↔j∈l:=by grind [Z0,Nat.beq_refl,vm]
def x4{p:Nat->Prop} : ∀{l:List Nat}{i:Nat},Jz p i l->∀j,j∈i::l->p j
 | [],i,h,j,a=>by rw[T0.1 a];exact h
 | k::l,i,h,j,a=>by
  rcases List.mem_cons.1 a with rfl|a
  ·exact h.1
  exact x4 h.2 j a
theorem ye{l:List Nat}{K:Prop}{p:Nat->Prop}(h:J7 l K p):(l=[]->K)/\∀j∈l,p j:=by
 cases l with
 | nil=>exact⟨λ_=>h,ψ⟩
 | cons i l=>exact⟨ψ,x4 h⟩
theorem n5{listed:Array Bool}{done:List Nat}(h:listed.size=ops.size)(b:∀j,j<ops.size->listed.getD j true=vm done j)(l:∀k∈done,k<ops.size){j:Nat} : j∈Region.ready .any ops listed↔j∈Fz ops done:=by
 have c:∀i,listed.getD i false=vm done i:=λi=>by grind [pv]
 rw[mem_ready];unfold Fz;rw[I2,List.mem_range,I0];constructor
 ·grind [aU]
 rintro⟨a,n,d⟩
 refine⟨ψ,ops[j],K3 a,λe f g=>?_⟩;have:=W1.1 d e (by rw[aU (K3 a)];simpa using f)
 grind
theorem GK{K:(Nat->AV)->Prop} : ∀(n:Nat)(done:List Nat)(listed:Array Bool)(F:Nat->AV),listed.size=ops.size->(∀j,j<ops.size->listed.getD j true=vm done j)->(∀k∈done,k<ops.size)->H4 P TE N ops K n done F->yj P TE N ops [] K n listed F
 | 0,done,listed,F,c,a,f,h=>by
  obtain⟨g,l⟩:=ye h;have o:Fz ops done=[]:=List.eq_nil_iff_forall_not_mem.2 λj b=>l j b
  exact⟨List.eq_nil_iff_forall_not_mem.2 λj b=>(by grind [n5]),g o⟩
 | n+1,done,listed,F,c,a,f,h=>by
  obtain⟨g,l⟩:=ye h;refine⟨λo=>g (List.eq_nil_iff_forall_not_mem.2 λj b=>(by rw[<-n5 c a f,o]at b;cases b)),λi t=>?_⟩;have d:=(n5 c a f).1 t;have q:=l i d;have u:i<ops.size:=List.mem_range.1 (I2.1 d).1;have r:ops[i]? = some ops[i]:=ψ
  unfold qk;rw[r];simp only;rw[aU r]at q;have w:mB [] ops[i]=false:=by grind [mB]
  rw[C9 (by rw[w];decide)];refine gu q λy A=>⟨λp _ B=>?_,GK n (i::done) _ y (by simpa using c) (λj b=>?_) (λk C=>?_) A⟩
  ·grind [mB]
  ·by_cases e:j=i
   ·subst e
    rw[show vm (j::done) j=true from pv.2 ψ];simp[c,b]
   rw[getD_set_ne true (Ne.symm e),a j b]
   grind [pv]
  grind
theorem sR(g:∀t i,TE t=some i->eM P t i)(A:P.follows .mixedOrders=true){id:Nat}{q:List (Nat × Nat × List Nat)}(b:ma q id ops=true){K:(Nat->AV)->Prop}{Q:Exit->Act->World->Prop}(c:DD P TE N q id ops K F)(B:St w0 M S0 N F a w)(C:∀F' D E,K F'->St w0 M S0 N F' D E->Q .normal D E):(Code.region id ops true).wp P Q a w:=by
 unfold ma at b;unfold DD at c;cases r:sF q id with
 | none=>grind
 | some p=>
  obtain⟨m,L⟩:=p;rw[r]at b c;simp only at b c;cases k:Nat.ble 65536 m with
  | true=>
   rw[k]at c;refine wp_region_any A ?_;have f:St w0 M S0 N F a {w with drawn:=w.drawn+1}:=by
    obtain⟨S,φ,h⟩:=B;exact⟨S,φ,h.more (w1:={w with drawn:=w.drawn+1}) (λ_ _ h=>h) ψ ⟨rfl,rfl,rfl,O1 _,λ_ _ _=>rfl,λ_ _ _ _=>rfl,λ_ _ _ _=>rfl⟩⟩
   refine nG g (ds:=[]) C ops.size (Array.replicate ops.size false) _ a _ ?_ f;exact GK ops.size [] _ F (by simp) (λj n=>by simp[n,vm]) ψ c
  | false=>
  rw[k]at b c;simp only[cond_false]at b c;cases u:Nat.ble 256 m with
  | false=>
   grind [vK]
  | true=>
   rw[u]at b c;simp only[cond_true,Bk]at b c;generalize L.take (m - 256)=ds at b c;generalize dec (L.drop (m - 256))=sch at b c;obtain⟨G,l,e,H⟩:=wc b;refine wp_region_any A ?_;have f:St w0 M S0 N (Ab.clr ds F) a {w with drawn:=w.drawn+1}:=by
    have R:=B.clr ds;obtain⟨S,φ,h⟩:=R;exact⟨S,φ,h.more (w1:={w with drawn:=w.drawn+1}) (λ_ _ h=>h) ψ ⟨rfl,rfl,rfl,O1 _,λ_ _ _=>rfl,λ_ _ _ _=>rfl,λ_ _ _ _=>rfl⟩⟩
   refine nG g (ds:=ds) C ops.size (Array.replicate ops.size false) _ a _ ?_ f;have y:∀d,ds.any (Nat.beq d)=true->∀t,(Ab.clr ds F t).uses d=false:=λd U t=>by
    rw[vG];cases Y:ds.any (λd=>(F t).uses d) with
    | true=>rfl
    | false=>
     simp_all
   rw[<-e];refine vn G sch _ _ l (by simp[e]) (λj n=>by simp_all) ⟨λj o d J O _ U t=>?_,λj o T s J O _ _ V W t=>y s (G.mvs j o T s J O V W) t⟩ (λj Z n hl=>by
     have X:=(R1.1 n).1
     simp_all) c
   grind [AZ]
end
def gM:List (Option Nat)->Kd
 | [ag]=>iT ag
 | a=>.tup a
def n8:ResultVar->Nat
 | .tmp t=>t
 | .cell t _=>t
def xP(tmps:Array Value):ResultVar->Sem Value
 | .tmp t=>pure (tmps.getD t undef)
 | .cell a t=>do loadVar t (<-asAddr (tmps.getD a undef))
def resOne(TE:Nat->Option TI)(F:Nat->AV)(r:ResultVar)(K:Option Nat->List C->Prop):Prop:=
 match r with
 | .tmp t=>(match F t with
   | .F .one cs=>K none cs
   | .F .agg cs=>K (some cs.length) cs
   | _=>False)
 | .cell t T=>match TE T with
  | some i=>bif i.agg || Nat.beq i.size 1 then(match F t with
    | .F .box cs=>bif Nat.beq cs.length i.size then K (m9 i) cs else False
    | _=>False) else False
  | none=>False
def resA(TE:Nat->Option TI)(F:Nat->AV):List ResultVar->List Nat->(List (Option Nat)->List C->Prop)->Prop
 | [],_,K=>K [] []
 | r::rs,seen,K=>bif seen.any (Nat.beq (n8 r)) then False else resOne TE F r λb c=>resA TE F rs (n8 r::seen) λd a=>K (b::d) (c++a)
def J0:RA->AV
 | .val a cs=>.F (iT a) cs
 | .ptr cs=>.iref cs 0
 | .fn Ok=>.fv Ok
def vJ:Nat->List RA->List (Nat × AV)
 | _,[]=>[]
 | i,A::As=>(i,J0 A)::vJ (i+1) As
inductive HD:C->C->Prop
 |rfl_ (c:C):HD c c
 |z_:HD .z (.s .own [])
 |own_ (rows rows':List (List C)) (hl:rows.length=rows'.length) (hk:∀(i:Nat)(r r':List C),rows[i]? = some r->rows'[i]? = some r'->r.length=r'.length)
   (hr:∀(i j:Nat)(r r':List C)(c c':C),rows[i]? = some r->rows'[i]? = some r'->r[j]? = some c->r'[j]? = some c'->HD c c'):HD (.s .own rows) (.s .own rows')
def JT(cs a:List C):Prop:=cs.length=a.length/\∀(j:Nat)(c b:C),cs[j]? = some c->a[j]? = some b->HD c b
theorem G2{w:World}{S Y:aa}{c:C}{v:Value}(h:cF w S Y c v):∀t,HD c t->cF w S Y t v:=by
 induction h with
 | z F a=>
  intro t l;cases l with
  | rfl_=>exact .z _ _
  | z_=>exact .nil _ _ _ trivial
 | nil F o a J=>
  intro t l;cases l with
  | rfl_=>exact .nil _ _ _ J
  | own_ d j L=>obtain rfl:j=[]:=T3 (by simpa using L.symm);exact .nil _ _ _ trivial
 | suf F o g D k n q d u f J K M e A O P l E U=>
  intro t G;cases G with
  | rfl_=>exact .suf _ o g D k n q d u f J K M e A O P l E
  | own_=>exact J.elim
 | own F o g k n q d u f J K M e B A O P l E U=>
  intro t G;cases G with
  | rfl_=>exact .own _ o g k n q d u f J K M e B A O P l E
  | own_ d j L Z V=>
   have W:∀(i:Nat)(X:List C),j[i]? = some X->∃r,d[i]? = some r:=ψ
   refine .own _ .own g k n q j u f trivial (L.symm.trans K) (λX hr'=>?_) e B A O P l ψ
   all_goals grind [List.mem_iff_getElem?]
 | v F x Q=>intro t l;cases l;exact .v _ _ Q
 | x F u Q=>intro t l;cases l;exact .x _ _ Q
 | H F g D k n q d u K M e hS E U=>intro t l;cases l;exact .H _ g D k n q d u K M e hS E
 | m F b p es y A R he T H=>intro t l;cases l;exact .m _ b p es y A R he T H
 | it F r b since c0 p seen y cur left A V R H E T L N=>intro t l;cases l;exact .it _ r b since c0 p seen y cur left A V R H E T L N
def WK(cs a:List C):Prop:=GS cs a\/JT cs a
inductive nR(k k':Kd)(cs cs':List C):Prop
 |mk_ (h:k=k'/\WK cs cs')
def lx:∀(cs:List C),GS cs cs
 | []=>trivial
 | c::cs=>by
  refine⟨?_,lx cs⟩;cases c with
  | s o a=>cases o<;>rfl
  | x=>trivial
  | _=>rfl
def nR.mk{k b:Kd}{cs a:List C}(c:k=b)(d:cs=a):nR k b cs a:=by refine .mk_ ?_;exact⟨c,.inl (d ▸ lx cs)⟩
def nR.wk{k b:Kd}{cs a:List C}(c:k=b)(d:GS cs a):nR k b cs a:=.mk_ ⟨c,.inl d⟩
def nR.out{k b:Kd}{cs a:List C}(h:nR k b cs a):k=b/\WK cs a:=by obtain⟨h⟩:=h;exact h
theorem WK.len{cs a:List C}(h:WK cs a):cs.length=a.length:=h.elim (λh=>(qZ h).1) (λh=>h.1)
theorem WK.row{w:World}{S Y:aa}{cs c:List C}{u:Nat->Value}(a:WK cs c)(h:bH w S Y cs u):bH w S Y c u:=by
 rcases a with a|a
 ·exact Ay a h
 obtain⟨f,k,l,n⟩:=h;refine⟨f,λj i b=>?_,λj b=>l j (by rw[a.1];exact b),λj o b e=>n j o (by rw[a.1];exact b) (by rw[a.1];exact e)⟩;have g:=(I1.1 b).1;have d:cs[j]? = some (cs[j]'(by rw[a.1];exact g)):=ψ
 exact G2 (k j _ d) i (a.2 j _ i d b)
def GD(TE:Nat->Option TI)(c:List ResultVar)(k:Kd)(rcs:List C):Exit->(Nat->AV)->Prop:=λe F=>
 match e with
 | .normal=>resA TE F c [] λa b=>nR (gM a) k b rcs
 | .ret=>resA TE F c [] λa b=>nR (gM a) k b rcs
 | _=>False
section
variable{P:Program}{w0 w w1:World}{M S0 S:aa}{N:d7}{φ:Nat->aa}{F:Nat->AV}{a:Act}{TE:Nat->Option TI}
theorem aJ.resOne(h:aJ w0 M S0 N S φ F a w)(n:∀t i,TE t=some i->eM P t i){r:ResultVar}{K:Option Nat->List C->Prop}(b:resOne TE F r K) :
  ∃ag cs v,K ag cs/\aX w S (φ (n8 r)) ag cs v/\(xP a.tmps r).run P w=.ok v w:=by
 cases r with
 | tmp t=>
  have e:=h.slot t;simp only[Ab.resOne]at b;cases p:F t with
  | F k cs=>
   rw[p]at b e;obtain⟨E,Y,G,j,H,A,l⟩:=e;cases k with
   | one=>exact⟨none,cs,tvs a t,b,⟨A,_,rfl,l.mono (λ_ _ h=>h) j⟩,rfl⟩
   | agg=>
    obtain⟨arr,q,u⟩:=A;refine⟨some cs.length,cs,tvs a t,b,⟨rfl,bx w .agg (tvs a t),?_,l.mono (λ_ _ h=>h) j⟩,rfl⟩;rw[q];have:=jS arr;rw[u]at this;exact this
   | _=>exact b.elim
  | _=>grind
 | cell t T=>
  have e:=h.slot t;simp only[Ab.resOne]at b;split at b
  case h_2=>exact b.elim
  rename_i i J;have L:=n _ _ J;cases B:(i.agg || Nat.beq i.size 1) with
  | false=>grind
  | true=>
   rw[B]at b;simp only[cond_true]at b;cases p:F t with
   | F k cs=>
    rw[p]at b e;cases k with
    | box=>
     simp only at b;cases D:Nat.beq cs.length i.size with
     | false=>grind
     | true=>
      rw[D]at b;have O:=Z0 D;obtain⟨E,Y,G,j,H,⟨g,o,q,Q⟩,l⟩:=e;have c:∀d,d<i.size->cel w g (o+d)=some (bx w .box (tvs a t) d):=λd R=>by grind [bx]
      have f:=sa (w:=w) L B c;refine⟨_,cs,_,b,⟨by grind [ll],_,rfl,l.mono (λ_ _ h=>h) j⟩,?_⟩;have y:a.tmps.getD t undef=.pointer (some ⟨g,o,none⟩):=q;simp only[xP,y,asAddr];exact f
    | _=>exact b.elim
   | _=>grind
def zF{ag:Option Nat}{cs:List C}{v:Value}{Y:aa}(h:aX w S Y ag cs v):∃u,v.cells.toList=(List.range cs.length).map u/\bH w S Y cs u/\v=mkv ag u:=by
 obtain⟨a,u,rfl,b⟩:=h;refine⟨u,?_,b,rfl⟩;rw[mq (λe=>by subst e;exact b.one (by simp at a;omega)),a]
theorem rm{d e:aa}{cs a:List C}{u g:Nat->Value}(h:bH w S d cs u)(i:bH w S e a g)(q:∀b o,d b o->¬e b o) :
  bH w S (λb o=>d b o\/e b o) (cs++a) (λj=>if j<cs.length then u j else g (j - cs.length)):=by
 obtain⟨f,r,t,y⟩:=h;obtain⟨k,l,n,p⟩:=i;refine⟨λj=>if j<cs.length then f j else k (j - cs.length),λj c A=>?_,ψ,ψ⟩
 all_goals grind
theorem aJ.resA(h:aJ w0 M S0 N S φ F a w)(f:∀t i,TE t=some i->eM P t i):∀{q:List ResultVar}{seen:List Nat}{K:List (Option Nat)->List C->Prop},resA TE F q seen K->
  ∃sh cs d u,K sh cs/\(q.mapM (xP a.tmps)).run P w=.ok d w/\th sh d/\sh.length=q.length/\sH sh=cs.length/\
   (d.flatMap λv=>v.cells.toList)=(List.range cs.length).map u/\(∀ag,sh=[ag]->∃v,d=[v]/\aX w S (λb o=>∃t,t∉seen/\φ t b o) ag cs v)/\bH w S (λb o=>∃t,t∉seen/\φ t b o) cs u
 | [],seen,K,c=>⟨[],[],[],λ_=>undef,c,rfl,trivial,rfl,rfl,rfl,ψ,bH.nil _ _ _ _⟩
 | r::q,seen,K,c=>by
  simp only[Ab.resA]at c;cases e:seen.any (Nat.beq (n8 r)) with
  | true=>grind
  | false=>
   rw[e]at c;simp only[cond_false]at c;have O:n8 r∉seen:=λZ=>by grind [Nat.beq_refl]
   obtain⟨ag,cs,v,c,y,H⟩:=h.resOne f c;obtain⟨sh,g,d,Q,R,A,B,D,T,hcells,-,k⟩:=aJ.resA h f c;obtain⟨u,E,J,l⟩:=zF y;have U:∀b o,φ (n8 r) b o->¬∃t,t∉n8 r::seen/\φ t b o:=λb o V ⟨t,ht,G⟩=>h.dis _ _ ψ b o V G
   refine⟨ag::sh,cs++g,v::d,λj=>if j<cs.length then u j else Q (j - cs.length),R,?_,?_,by simp[D],?_,?_,?_,?_⟩
   ·simp_all
   ·obtain⟨W,-⟩:=y
    cases ag with
    | none=>
     refine⟨?_,B⟩;rw[l];have L:(u 0).oneCell'=true:=J.one (by simp at W;omega);show(u 0).cells = #[u 0];cases X:u 0<;>first|(rw[X]at L;cases L;done)|rfl
    | some n=>exact⟨⟨_,by rw[l];rfl,by simp⟩,B⟩
   ·rw[nB,Q1,T,y.1]
   ·simp only[List.flatMap_cons,E,hcells,Q1]
    apply List.ext_getElem?
    grind
   ·intro Y p
    simp only[List.cons.injEq]at p;obtain⟨rfl,rfl⟩:=p;cases d with
    | cons _ _=>exact B.elim
    | nil=>
     have:g=[]:=T3 (by simp_all);subst this;exact⟨v,rfl,by rw[List.append_nil];exact y.mono (λ_ _ h=>h) ψ⟩
   exact(rm J k U).mono (λ_ _ h=>h) ψ
theorem ve:∀{A:List RA}{b:List Value}(i:Nat),rE w S A b->∀t,(lay (vJ i A) t=.dead)\/(∃a v,i<=t/\b[t - i]? = some v/\lay (vJ i A) t=J0 a/\kS w S a v)
 | [],_,i,_,t=>.inl rfl
 | a::A,[],i,h,t=>h.elim
 | a::A,v::b,i,h,t=>by
  simp only[vJ,lay];cases c:Nat.beq t i with
  | true=>
   have:=Z0 c;subst this;exact .inr ⟨a,v,O1 _,by simp,rfl,h.1⟩
  | false=>
   have d:t≠i:=λe=>by simp_all
   rcases ve (i+1) h.2 t with f|⟨g,j,f,k,l⟩
   all_goals grind
theorem kS.slot{A:RA}{v:Value}(h:kS w S A v){tv:Nat->Value} : bI w S F tv NO (J0 A) v:=by
 cases A with
 | val f a=>exact aX.slot h
 | ptr a=>obtain⟨g,b,u,c,d,e⟩:=h;exact⟨g,b,u,by rw[c,Nat.add_zero],d,e⟩
 | fn Ok=>exact h
def Bo:∀{A:List RA}{a:List Value},rE w S A a->A.length=a.length
 | [],[],_=>rfl
 | _::_,_::_,h=>by simp[Bo h.2]
 | [],_::_,h=>h.elim
 | _::_,[],h=>h.elim
theorem BW{D : Nat -> Array Oper -> ((Nat -> AV) -> Prop) -> (Nat -> AV) -> Prop}{f : Nat}{d : Func}{c : Code}{sh : Bool}{A : List RA}{k : Kd}{rcs : List C}(K : ∀t i, TE t = some i -> eM P t i)(hf : P.funcs[f]? = some d)(hn : (d.name == "runtime.NumGoroutine") = false)(p:d.body=some c){ck:Nat->Array Oper->Bool}(hD:vA P N ck D)(hc:eN ck c=true)(hN:A.length+(d.ntmps - A.length)=N.n)(hkp:N.kp=[])(U:sh=true\/g9 rcs)(hp:aw P TE N D c (GD TE d.results.toList k rcs) (lay (vJ 0 A))):af P f sh A k rcs:=by
 refine⟨⟨d,hf,hn,by rw[p];rfl⟩,λw S r hS hA=>?_⟩;have hlen:=Bo hA;refine calls_of_wp hf p ?_;have V:St w NO S N (lay (vJ 0 A)) {tmps:=r.toArray++Array.replicate (d.ntmps - r.toArray.size) undef,defers:=[]} w:=by
  refine⟨S,λ_=>NO,λt=>?_,λ_ _ _ _ _ h=>h.elim,λ_ _ _ h=>h.elim,λ_ _ _ h=>h.elim,λ_ _ h=>h,ψ,CN _ _,by simp;omega,rfl,ψ⟩;rcases ve 0 hA t with y|⟨A0,v,-,B,G,h4⟩
  ·rw[y];trivial
  rw[G];have hv:tvs {tmps:=r.toArray++Array.replicate (d.ntmps - r.toArray.size) undef,defers:=[]} t=v:=by
   have hlt:=(I1.1 B).1;simp only[tvs,M3]
   grind
  grind [kS.slot]
 refine gy K hD c hc _ _ _ _ w hp V λe F' J g W Z=>?_
 obtain⟨S',φ',h⟩:=Z;have fin:resA TE F' d.results.toList [] (λsh L=>nR (gM sh) k L rcs)->J.defers=[]/\∃v,(results d J.tmps).run P g=.ok v g/\(∃v',Ending.returned v=.returned v'/\bk NO w g/\∃X S1:aa,(∀b o,X b o->b<g.heap.size/\w.heap.size<=b)/\
     (∀b o,S1 b o->(sh=true/\S b o)\/(b<g.heap.size/\w.heap.size<=b))/\(∀b o,X b o->¬S1 b o)/\ef g NO k rcs.length v'/\bH g S1 X rcs (bx g k v')):=by
  intro hr;obtain⟨shs,L,a,u,M,hrun,q,hln,R,hcells,l,O⟩:=h.resA K hr;obtain⟨rfl,hwk⟩:=M.out;refine⟨h.defers,?_⟩;have H:(results d J.tmps).run P g=.ok (if h:a.toArray.size=1 then a.toArray[0] else .tuple a.toArray) g:=by
   have e:results d J.tmps=(do let r <-d.results.mapM (xP J.tmps);pure (if h:r.size=1 then r[0] else .tuple r)):=by
    unfold results
    congr 1
   rw[e,<-Array.toArray_toList (xs:=d.results),List.mapM_toArray]
   simp_all
  refine⟨_,H,_,rfl,h.old,λb o=>∃t,φ' t b o,λb o=>(sh=true/\S' b o)\/(S' b o/\w.heap.size<=b),λb o ⟨t,p⟩=>⟨(h.ex t b o p).1,(h.ex t b o p).2.resolve_right (λh=>h)⟩,λb o p=>?_,λb o ⟨t,p⟩ hb'=>h.disS t b o p ψ,?_⟩
  ·rcases p with⟨y,B⟩|⟨y,B⟩
   ·rcases(h.sup b o B).2 with G|G|G
    ·grind
    ·exact .inr ⟨(h.sup b o B).1,G⟩
    exact G.elim
   exact .inr ⟨(h.sup b o y).1,B⟩
  have Q:ef g NO (gM shs) L.length (if h:a.toArray.size=1 then a.toArray[0] else .tuple a.toArray)/\bH g S' (λb o=>∃t,φ' t b o) L (bx g (gM shs) (if h:a.toArray.size=1 then a.toArray[0] else .tuple a.toArray)):=by
   have E:∀b o,(∃t,t∉([]:List Nat)/\φ' t b o)->∃t,φ' t b o:=ψ
   match shs,q,l,R with
   | [],q,_,R=>
    cases a with
    | cons _ _=>exact q.elim
    | nil=>
     have:L=[]:=ψ
     subst this;exact⟨⟨_,rfl,trivial,rfl⟩,bH.nil _ _ _ _⟩
   | [T],_,l,_=>
    obtain⟨v,rfl,hv⟩:=l T rfl;have:=(hv.mono (λ_ _ h=>h) E).slot (F:=F') (tv:=tvs J);obtain⟨X1,Y,y,B,G,h4,h5⟩:=this;refine⟨?_,h5.mono (λ_ _ h=>h) B⟩;cases T<;>exact h4
   | T::ag2::sh,q,_,R=>
    have hsz:¬a.toArray.size=1:=by
     match a,q with
     | [],q=>simp
     | [v],q=>cases T<;>cases ag2<;>exact q.2.elim
     | _::_::_,_=>simp
    rw[dif_neg hsz];refine⟨⟨_,rfl,q,R⟩,(O.mono (λ_ _ h=>h) E).congr λj hj=>?_⟩;simp only[bx,gM,ju,hcells];simp[List.getD,hj]
  replace Q:=C5 Q.1 (hwk.row Q.2);refine⟨by grind [WK.len],?_⟩;rcases U with y|y
  ·exact Q.2.mono ψ (λ_ _ h=>h)
  exact(Q.2.fresh y).mono (λ_ _ h=>h.elim) (λ_ _ h=>h)
 cases e with
 | normal=>exact fin W
 | ret=>exact fin W
 | _=>exact W.elim
end
def DF(P:Program)(TE:Nat->Option TI)(N:d7)(a:List (Nat × Nat × List Nat))(id:Nat)(ops:Array Oper)(K:(Nat->AV)->Prop)(F:Nat->AV):Prop:=
 match sF a (id+1048576) with
 | some (t,offs)=>oT t offs (DD P TE N a id ops K) F
 | none=>DD P TE N a id ops K F
def rl{P:Program}{TE:Nat->Option TI}(a:∀t i,TE t=some i->eM P t i)(e:P.follows .mixedOrders=true)(N:d7)(f:List (Nat × Nat × List Nat)):vA P N (ma f) (DF P TE N f):=
 λ_ _ b _ _ _ _ _ _ _ _ c g h=>by
  unfold DF at c;split at c
  ·obtain⟨k,j,d⟩:=sI c g
   exact sR a e b j d h
  exact sR a e b c g h
def zI:C:=.v (.int .i64 0)
def AH:List (Nat × Nat × TI)->Nat->Option TI
 | [],_=>none
 | p::l,t=>bif Nat.beq t p.1 || Nat.beq t p.2.1 then some p.2.2 else AH l t
def GW(P:Program):List (Nat × Nat × TI)->Prop
 | []=>True
 | p::l=>(eM P p.1 p.2.2/\eM P p.2.1 p.2.2)/\GW P l
def x6{P:Program} : ∀{l:List (Nat × Nat × TI)},GW P l->∀t i,AH l t=some i->eM P t i
 | [],_,t,i,h=>by cases h
 | p::l,b,t,i,h=>by
  simp only[AH]at h;cases a:(Nat.beq t p.1 || Nat.beq t p.2.1) with
  | true=>
   rw[a]at h;simp only[cond_true,P0]at h;subst h;simp only[I3]at a;rcases a with e|e
   ·rw[Z0 e];exact b.1.1
   rw[Z0 e];exact b.1.2
  | false=>rw[a]at h;exact x6 b.2 t i h
def J6:TypeDesc->Prop
 | .struct _=>False
 | .array _ _=>False
 | _=>True
def JU:TypeDesc->Option (List (Nat × Nat))
 | .struct fs=>some (fs.toList.map (λf=>(f.offset,f.type)))
 | _=>none
section
variable{P:Program}{t e:Nat}{i:TI}
def JW{d:TypeDesc}(k:i.kind=.sc d:=by rfl)(h:P.underlying t=some d:=by kernel_rfl)(a:(P.info? t).map (λx=>(x.zero.map (·.cells.toList),x.size,x.bytes))=some (some (i.zero.map cval),i.size,i.bytes):=by kernel_rfl)(z:gH i.zero:=by repeat' first|exact trivial|refine C5 rfl ?_)(n:J6 d:=by trivial):eM P t i:=⟨a,z,by rw[k];refine⟨h,?_⟩;revert n;cases d<;>exact id⟩
def JN(k:i.kind=.sl e:=by rfl)(h:P.underlying t=some (.slice e):=by kernel_rfl)(a:(P.info? t).map (λx=>(x.zero.map (·.cells.toList),x.size,x.bytes))=some (some (i.zero.map cval),i.size,i.bytes):=by kernel_rfl)(z:gH i.zero:=by repeat' first|exact trivial|refine C5 rfl ?_):eM P t i:=⟨a,z,by rw[k];exact h⟩
def JS{f:List (Nat × Nat)}(k:i.kind=.st f:=by rfl)(h:(P.underlying t).bind JU=some f:=by kernel_rfl)(a:(P.info? t).map (λx=>(x.zero.map (·.cells.toList),x.size,x.bytes))=some (some (i.zero.map cval),i.size,i.bytes):=by kernel_rfl)(z:gH i.zero:=by repeat' first|exact trivial|refine C5 rfl ?_):eM P t i:=⟨a,z,by
  rw[k];obtain⟨d,b,c⟩:=Option.bind_eq_some_iff.1 h;cases d<;>cases c
  exact⟨_,b,rfl⟩⟩
def Kf{v:Value}(k:i.kind=.mp 3 e v:=by rfl)(h:P.underlying t=some (.map 3 e):=by kernel_rfl)(d:P.underlying 3=some (.int .i64):=by kernel_rfl)(a:(P.info? t).map (λx=>(x.zero.map (·.cells.toList),x.size,x.bytes))=some (some (i.zero.map cval),i.size,i.bytes):=by kernel_rfl)(z:gH i.zero:=by repeat' first|exact trivial|refine C5 rfl ?_)(b:(P.info? e).bind (·.zero)=some v:=by kernel_rfl)(c:v.oneCell'=true:=by rfl):eM P t i:=⟨a,z,by rw[k];exact⟨h,d,b,c⟩⟩
end
def tab:List (Nat × Nat × TI):=[(3,2,⟨1,8,[zI],.sc (.int .i64)⟩),(4,4,⟨1,1,[.v (.bool false)],.sc .bool⟩),(5,6,⟨1,1,[.v (.int .u8 0)],.sc (.int .u8)⟩),(7,8,⟨4,24,[zI,zI,.v (.bool false),.v (.int .u8 0)],.st [(0,2),(1,3),(2,4),(3,6)]⟩),(9,10,⟨1,16,[.v (.string ⟨#[]⟩)],.sc .string⟩),(11,11,⟨1,16,[.v (.string ⟨#[]⟩)],.sc .string⟩),(12,259,⟨1,8,[.v (.int .u64 0)],.sc (.int .u64)⟩),(13,14,⟨2,24,[.v (.string ⟨#[]⟩),.v (.int .u64 0)],.st [(0,9),(1,12)]⟩),(21,460,⟨1,4,[.v (.int .i32 0)],.sc (.int .i32)⟩),(22,22,⟨1,24,[.z],.sl 31⟩),(23,23,⟨1,24,[.z],.sl 4⟩),(24,25,⟨2,48,[.z,.z],.st [(0,22),(1,23)]⟩),(26,26,⟨1,24,[.z],.sl 327⟩),(27,28,⟨1,24,[.z],.st [(0,26)]⟩),(29,30,⟨3,72,[.z,.z,.z],.st [(0,25),(2,28)]⟩),(31,31,⟨1,24,[.z],.sl 3⟩),(32,33,⟨5,104,[.z,.z,.z,zI,.z],.st [(0,30),(3,3),(4,31)]⟩),(34,34,⟨1,24,[.z],.sl 189⟩),(35,35,⟨1,24,[.z],.sl 191⟩),(36,36,⟨1,24,[.z],.sl 193⟩),(37,37,⟨1,24,[.z],.sl 195⟩),(38,38,⟨1,24,[.z],.sl 164⟩),(39,39,⟨1,24,[.z],.sl 248⟩),(40,41,⟨2,48,[.z,.z],.st [(0,39),(1,22)]⟩),(42,42,⟨1,24,[.z],.sl 264⟩),(43,44,⟨2,32,[zI,.z],.st [(0,3),(1,42)]⟩),(45,46,⟨3,40,[zI,zI,.z],.st [(0,3),(1,3),(2,31)]⟩),(47,48,⟨5,56,[zI,zI,.z,zI,zI],.st [(0,46),(3,3),(4,3)]⟩),(49,50,⟨24,400,[.z,.z,.z,zI,.z,.z,.z,.z,.z,.z,.z,.z,zI,.z,zI,zI,zI,zI,.v (.bool false),zI,zI,.z,zI,zI],.st [(0,33),(5,34),(6,35),(7,36),(8,37),(9,38),(10,41),(12,44),(14,3),(15,3),(16,3),(17,3),(18,4),(19,48)]⟩),(52,52,⟨1,24,[.z],.sl 9⟩),(54,54,⟨2,48,[.z,.z],.st [(0,22),(1,23)]⟩),(55,55,⟨1,24,[.z],.sl 180⟩),(56,57,⟨1,24,[.z],.st [(0,55)]⟩),(58,59,⟨3,72,[.z,.z,.z],.st [(0,54),(2,57)]⟩),(60,61,⟨5,104,[.z,.z,.z,zI,.z],.st [(0,59),(3,3),(4,31)]⟩),(62,62,⟨1,24,[.z],.sl 187⟩),(63,63,⟨1,24,[.z],.sl 98⟩),(64,64,⟨1,24,[.z],.sl 112⟩),(65,65,⟨1,24,[.z],.sl 150⟩),(66,66,⟨1,24,[.z],.sl 153⟩),(67,67,⟨1,24,[.z],.sl 237⟩),(68,69,⟨2,48,[.z,.z],.st [(0,67),(1,22)]⟩),(70,70,⟨1,24,[.z],.sl 175⟩),(71,72,⟨2,32,[zI,.z],.st [(0,3),(1,70)]⟩),(73,73,⟨3,40,[zI,zI,.z],.st [(0,3),(1,3),(2,31)]⟩),(74,75,⟨5,56,[zI,zI,.z,zI,zI],.st [(0,73),(3,3),(4,3)]⟩),(76,77,⟨24,400,[.z,.z,.z,zI,.z,.z,.z,.z,.z,.z,.z,.z,zI,.z,zI,zI,zI,zI,.v (.bool false),zI,zI,.z,zI,zI],.st [(0,61),(5,62),(6,63),(7,64),(8,65),(9,66),(10,69),(12,72),(14,3),(15,3),(16,3),(17,3),(18,4),(19,75)]⟩),(84,84,⟨1,24,[.z],.sl 5⟩),(86,86,⟨1,24,[.z],.sl 348⟩),(87,88,⟨2,32,[zI,.z],.st [(0,3),(1,86)]⟩),(89,90,⟨26,432,[.z,.z,.z,zI,.z,.z,.z,.z,.z,.z,.z,.z,zI,.z,zI,zI,zI,zI,.v (.bool false),zI,zI,.z,zI,zI,zI,.z],.st [(0,77),(24,88)]⟩),(93,94,⟨8,64,[zI,zI,zI,zI,zI,zI,zI,zI],.st [(0,3),(1,3),(2,3),(3,3),(4,3),(5,3),(6,3),(7,3)]⟩),(97,98,⟨3,24,[zI,zI,zI],.st [(0,3),(1,3),(2,3)]⟩),(111,112,⟨3,24,[zI,zI,zI],.st [(0,3),(1,3),(2,3)]⟩),(149,150,⟨4,32,[zI,zI,zI,zI],.st [(0,3),(1,3),(2,3),(3,3)]⟩),(152,153,⟨1,24,[.z],.st [(0,22)]⟩),(156,157,⟨4,32,[zI,zI,zI,zI],.st [(0,3),(1,3),(2,3),(3,3)]⟩),(164,164,⟨1,24,[.z],.st [(0,22)]⟩),(174,175,⟨3,24,[zI,zI,zI],.st [(0,3),(1,3),(2,3)]⟩),(179,180,⟨2,16,[zI,zI],.st [(0,3),(1,3)]⟩),(186,187,⟨2,16,[zI,zI],.st [(0,3),(1,3)]⟩),(189,238,⟨2,16,[zI,zI],.st [(0,3),(1,3)]⟩),(191,193,⟨3,24,[zI,zI,zI],.st [(0,3),(1,3),(2,3)]⟩),(195,195,⟨4,32,[zI,zI,zI,zI],.st [(0,3),(1,3),(2,3),(3,3)]⟩),(228,229,⟨5,56,[zI,zI,zI,zI,.z],.st [(0,3),(1,3),(2,3),(3,3),(4,31)]⟩),(231,231,⟨1,24,[.z],.sl 285⟩),(233,234,⟨3,40,[.z,zI,zI],.st [(0,84),(1,3),(2,3)]⟩),(237,237,⟨1,24,[.z],.sl 239⟩),(239,296,⟨2,16,[zI,zI],.st [(0,3),(1,3)]⟩),(248,248,⟨1,24,[.z],.sl 296⟩),(264,264,⟨3,24,[zI,zI,zI],.st [(0,3),(1,3),(2,3)]⟩),(265,265,⟨1,8,[.v (.map none)],.mp 3 4 (.bool false)⟩),(270,270,⟨1,8,[.v (.map none)],.mp 3 3 (.int .i64 0)⟩),(284,285,⟨5,40,[zI,zI,zI,zI,zI],.st [(0,3),(1,3),(2,3),(3,3),(4,3)]⟩),(327,364,⟨2,16,[zI,zI],.st [(0,3),(1,3)]⟩),(333,418,⟨1,8,[.v (.int .u64 0)],.sc (.int .u64)⟩),(347,348,⟨2,32,[zI,.z],.st [(0,3),(1,31)]⟩),(359,359,⟨1,24,[.z],.sl 365⟩),(365,365,⟨2,16,[zI,zI],.st [(0,3),(1,3)]⟩),(375,375,⟨1,8,[zI],.sc (.int .i64)⟩),(383,383,⟨1,4,[.v (.int .u32 0)],.sc (.int .u32)⟩),(454,455,⟨0,0,[],.st [(0,453)]⟩),(457,458,⟨1,1,[.v (.int .u8 0)],.sc (.int .u8)⟩),(461,461,⟨1,4,[.v (.int .i32 0)],.sc (.int .i32)⟩)]
set_option maxRecDepth 100000 in
def Ho:GW Tryz.prog tab:=by repeat' first|exact trivial|refine C5 (C5 ?_ ?_) ?_|exact JN|exact JS|exact JW|exact Kf
def TE:Nat->Option TI:=AH tab
def A8:∀t i,TE t=some i->eM Tryz.prog t i:=x6 Ho
def Hq:C->Value->C
 | .s .own rows,v=>.s (.tag v) rows
 | .s .suf rows,v=>.s (.tagS v) rows
 | c,_=>c
def ul(u:Nat->Value):Nat->List C->List C
 | _,[]=>[]
 | j,c::cs=>Hq c (u j)::ul u (j+1) cs
def rC(u:Nat->Nat->Value):Nat->List MA->List (Nat × AV)
 | _,[]=>[]
 | i,.val a cs::A=>(i,.F (iT a) cs)::rC u (i+1) A
 | i,.mut a cs::A=>(i,.F (iT a) (ul (u i) 0 cs))::rC u (i+1) A
 | i,.ptr cs::A=>(i,.F .box cs)::rC u (i+1) A
def Bm(p:Nat->Value):Nat->List MA->List (Nat × Value)
 | _,[]=>[]
 | i,.ptr _::A=>(i,p i)::Bm p (i+1) A
 | i,_::A=>Bm p (i+1) A
def xN:Nat->List MA->List (Nat × Nat)->List (Option Nat)
 | i,.val _ _::A,_::pl=>none::xN (i+1) A pl
 | i,.mut _ _::A,p::pl=>some p.1::xN (i+1) A pl
 | i,.ptr _::A,_::pl=>some i::xN (i+1) A pl
 | _,_,_=>[]
def yU:List (Option Nat)->Bool
 | []=>true
 | none::l=>yU l
 | some t::l=>l.all (λx=>match x with|some a=>!Nat.beq t a|none=>true)&&yU l
def sles:List (Option Nat)->List Nat
 | []=>[]
 | none::l=>sles l
 | some t::l=>t::sles l
def Jt(v:Value)(c y o:C):Prop:=
 match c with
 | .s .own _=>(match y with|.s (.tag v') rows=>v'=v/\o=.s .own rows|_=>False)
 | .s (.tag _) _=>False
 | .s .suf _=>(match y with|.s (.tagS v') rows=>v'=v/\o=.s .suf rows|_=>False)
 | .s (.tagS _) _=>False
 | .m _=>False
 | .it _ _=>False
 | c=>o=c
def GI(u:Nat->Value):Nat->List C->List C->List C->Prop
 | _,[],_,o=>o=[]
 | j,c::cs,y::xs,o::os=>Jt (u j) c y o/\GI u (j+1) cs xs os
 | _,_,_,_=>False
def f9(u:Nat->Nat->Value)(F:Nat->AV):Nat->List MA->List (Nat × Nat)->List MA->Prop
 | _,[],_,[]=>True
 | i,.val _ _::A,_::pl,.val _ _::B=>f9 u F (i+1) A pl B
 | i,.mut ag cs::A,p::pl,.mut a out::B=>(a=ag/\match F p.1 with|.F _ xs=>GI (u i) 0 cs (xs.drop p.2) out|_=>False)/\f9 u F (i+1) A pl B
 | i,.ptr _::A,_::pl,.ptr out::B=>(match F i with|.F .box xs=>xs=out|_=>False)/\f9 u F (i+1) A pl B
 | _,_,_,_=>False
inductive fj(k k':Kd)(cs cs':List C)(Q:Prop):Prop
 |mk_ (h:k=k'/\cs=cs'/\Q)
theorem fj.mk{k b:Kd}{cs a:List C}{Q:Prop}(c:k=b)(d:cs=a)(e:Q):fj k b cs a Q:=by refine .mk_ ?_;grind
def CL:type_of% @fj.mk:=@fj.mk
def fj.out{k b:Kd}{cs a:List C}{Q:Prop}(h:fj k b cs a Q):k=b/\cs=a/\Q:=by obtain⟨h⟩:=h;exact h
def H1(TE:Nat->Option TI)(d:List ResultVar)(k:Kd)(rcs:List C)(u:Nat->Nat->Value)(A B:List MA)(a:List (Nat × Nat)):Exit->(Nat->AV)->Prop:=λe F=>
 match e with
 | .normal=>resA TE F d (sles (xN 0 A a)) λb c=>fj (gM b) k c rcs (f9 u F 0 A a B)
 | .ret=>resA TE F d (sles (xN 0 A a)) λb c=>fj (gM b) k c rcs (f9 u F 0 A a B)
 | _=>False
section
variable{P:Program}{w0 w w1:World}{M S0 S:aa}{N:d7}{φ:Nat->aa}{F:Nat->AV}{a:Act}{TE:Nat->Option TI}
theorem cF.tag{Y:aa}{c:C}{v:Value}(h:cF w S Y c v):cF w S Y (Hq c v) v:=by
 cases h with
 | nil _ o a l=>cases o with
  | own=>exact .nil _ _ _ rfl
  | suf=>exact .nil _ _ _ rfl
  | _=>exact .nil _ _ _ l
 | own _ o g k n i d u f l B D e A q F G H t=>cases o with
  | own=>exact .own _ _ g k n i d u f rfl B D e A q F G H t
  | H=>exact l.elim
  | tag z=>exact .own _ _ g k n i d u f l B D e A q F G H t
  | suf=>exact l.elim
  | tagS z=>exact l.elim
 | suf _ o g y k n i d u f l B D e q F G H t=>cases o with
  | suf=>exact .suf _ _ g y k n i d u f rfl B D e q F G H t
  | tagS z=>exact .suf _ _ g y k n i d u f l B D e q F G H t
  | own=>exact l.elim
  | H=>exact l.elim
  | tag z=>exact l.elim
 | v _ x K=>exact .v _ _ K
 | x _ u K=>exact .x _ _ K
 | z _ a=>exact .z _ _
 | H _ g y k n i d u B D e N t=>exact .H _ g y k n i d u B D e N t
 | m _ b j O p q L P M E=>exact .m _ b j O p q L P M E
 | it _ r b since Q j seen p cur left q R L E t M T J=>exact .it _ r b since Q j seen p cur left q R L E t M T J
def cF.untag{Y:aa}{z v:Value}{rows:List (List C)}(h:cF w S Y (.s (.tag z) rows) v):v=z/\cF w S Y (.s .own rows) v:=by
 cases h with
 | nil _ o a b=>exact⟨Eq.symm b,.nil _ _ _ trivial⟩
 | own _ o g k n c rows u f b i j d e l p q r t=>exact⟨Eq.symm b,.own _ _ g k n c rows u f trivial i j d e l p q r t⟩
 | suf _ o g y k n c rows u f b=>exact b.elim
def cF.untagS{Y:aa}{z v:Value}{rows:List (List C)}(h:cF w S Y (.s (.tagS z) rows) v):v=z/\cF w S Y (.s .suf rows) v:=by
 cases h with
 | nil _ o a b=>exact⟨Eq.symm b,.nil _ _ _ trivial⟩
 | own _ o g k n c rows u f b=>exact b.elim
 | suf _ o g e k n c rows u f b i j d l p q r t=>exact⟨Eq.symm b,.suf _ _ g e k n c rows u f trivial i j d l p q r t⟩
theorem lm(u:Nat->Value):∀(j:Nat)(cs:List C),(ul u j cs).length=cs.length
 | _,[]=>rfl
 | j,c::cs=>by simp[ul,lm u (j+1) cs]
theorem xE(u:Nat->Value):∀(a:Nat)(cs:List C)(j:Nat),(ul u a cs)[j]? = (cs[j]?).map λc=>Hq c (u (a+j))
 | _,[],j=>by simp[ul]
 | a,c::cs,0=>by simp[ul]
 | a,c::cs,j+1=>by simp only[ul,List.getElem?_cons_succ];rw[xE u (a+1) cs j,show a+1+j=a+(j+1) by omega]
theorem bH.tag{Y:aa}{cs:List C}{u:Nat->Value}(h:bH w S Y cs u):bH w S Y (ul u 0 cs) u:=by
 obtain⟨f,i,b,d⟩:=h;refine⟨f,λj c a=>?_,λj a=>b j (by grind [lm]),λj e a g=>d j e (by grind [lm]) (by grind [lm])⟩
 grind [xE,cF.tag]
def celF(v:Value)(j:Nat):Value:=v.cells.toList.getD j undef
def aX.celF{Y:aa}{ag:Option Nat}{cs:List C}{v:Value}(h:aX w S Y ag cs v):cs.length=ag.getD 1/\v=mkv ag (celF v)/\bH w S Y cs (celF v):=by
 obtain⟨b,u,c,d⟩:=h;have g:=mq (ag:=ag) (u:=u) (λe=>by subst e;exact d.one (by simp at b;omega));have f:∀j,j<ag.getD 1->Ab.celF v j=u j:=λj a=>by
  unfold Ab.celF;rw[c,g];simp[List.getD,a]
 exact⟨b,c.trans (fZ λj a=>(f j a).symm),d.congr λj a=>f j ω⟩
def GH(u:Nat->Nat->Value)(i:Nat):MA->AV
 | .val a cs=>.F (iT a) cs
 | .mut a cs=>.F (iT a) (ul (u i) 0 cs)
 | .ptr cs=>.F .box cs
theorem u7{u:Nat->Nat->Value} : ∀{A:List MA}{a:List Value}{V:Nat->aa}(i:Nat),F9 w S V A a->∀t,(lay (rC u i A) t=.dead)\/(∃m v,i<=t/\a[t - i]? = some v/\A[t - i]? = some m/\lay (rC u i A) t=GH u t m/\mA w S (V (t - i)) m v)
 | [],_,_,i,_,t=>.inl rfl
 | m::A,[],_,i,h,t=>h.elim
 | m::A,v::a,V,i,h,t=>by
  have c:lay (rC u i (m::A)) t=bif Nat.beq t i then GH u i m else lay (rC u (i+1) A) t:=by cases m<;>rfl
  rw[c];cases d:Nat.beq t i with
  | true=>
   have:=Z0 d;subst this;exact .inr ⟨m,v,O1 _,by simp,by simp,rfl,by rw[Nat.sub_self];exact h.1⟩
  | false=>
   have f:t≠i:=λe=>by simp_all
   rcases u7 (i+1) h.2 t with b|⟨g,j,b,k,l,n,o⟩
   ·exact .inl b
   grind
def AT:∀{A:List MA}{a:List Value}{V:Nat->aa},F9 w S V A a->A.length=a.length
 | [],[],_,_=>rfl
 | _::_,_::_,_,h=>by simp[AT h.2]
 | [],_::_,_,h=>h.elim
 | _::_,[],_,h=>h.elim
theorem AF{p:Nat->Value} : ∀{A:List MA}{i:Nat}{q:Nat × Value},q∈Bm p i A->i<=q.1/\q.1<i+A.length/\q.2=p q.1
 | [],_,_,h=>by simp[Bm]at h
 | m::A,i,q,h=>by
  have a:q∈Bm p (i+1) A->i<=q.1/\q.1<i+(m::A).length/\q.2=p q.1:=λh=>by
   obtain⟨b,c,d⟩:=AF h
   grind
  cases m with
  | ptr e=>
   rcases List.mem_cons.1 h with rfl|h
   all_goals grind
  | val=>exact a h
  | «mut»=>exact a h
theorem Bh{p:Nat->Value} : ∀{A:List MA}{i n:Nat}{cs:List C},A[n]? = some (.ptr cs)->(i+n,p (i+n))∈Bm p i A
 | [],_,n,_,h=>by simp at h
 | m::A,i,0,cs,h=>by grind [Bm]
 | m::A,i,n+1,cs,h=>by
  have a:=Bh (p:=p) (i:=i+1) (show A[n]? = some (.ptr cs) by simpa using h);rw[show i+1+n=i+(n+1) by omega]at a;cases m with
  | ptr cs=>exact R2 _ a
  | val=>exact a
  | «mut»=>exact a
def H5(φ:Nat->aa):Option (Option Nat)->aa
 | some (some t)=>φ t
 | _=>NO
theorem vR{u:Nat->Value} : ∀{a:Nat}{cs xs os:List C},GI u a cs xs os->cs.length=os.length/\∀(j:Nat)(c o:C),cs[j]? = some c->os[j]? = some o->∃y,(cW c=true->xs[j]? = some y)/\Jt (u (a+j)) c y o
 | _,[],xs,os,h=>by grind [GI]
 | _,_::_,[],_,h=>by grind [GI]
 | _,_::_,_::_,[],h=>by grind [GI]
 | a,b::cs,d::xs,e::os,h=>by
  simp only[GI]at h;obtain⟨f,g⟩:=vR h.2
  grind
theorem EY{S' Y t:aa}{u E:Nat->Value}{cs xs os:List C}{off:Nat}(i:aO S w w1)(n:∀b o,S b o->S' b o)(h:bH w S Y cs u)(F:bH w1 S' t xs E)(G:GI u 0 cs (xs.drop off) os):bH w1 S' t os u:=by
 obtain⟨f,H,R,T⟩:=h;obtain⟨A,p,J,K⟩:=F;obtain⟨U,L⟩:=vR G;refine⟨λj b o=>off+j<xs.length/\A (off+j) b o,λj c B=>?_,ψ,ψ⟩;have M:=(I1.1 B).1;have k:cs[j]? = some cs[j]:=ψ
 obtain⟨y,d,a⟩:=L j _ c k B;rw[O3]at a;have g:=H j _ k;generalize cs[j]=q at k a g d;have keep:cW q=false->c=q->cF w1 S' (λb o=>off+j<xs.length/\A (off+j) b o) c (u j):=λN e=>by
  subst e;exact((g.bare (F':=NO) N).keep i (λ_ _ h=>h.elim)).mono n (λ_ _ h=>h.elim)
 cases q with
 | v V=>exact keep rfl a
 | x=>exact keep rfl a
 | z=>exact keep rfl a
 | m W=>exact a.elim
 | it=>exact a.elim
 | s o D=>
  cases o with
  | H=>exact keep rfl a
  | tag z=>exact a.elim
  | tagS z=>exact a.elim
  | suf=>
   have d:=d rfl;rw[List.getElem?_drop]at d;have r:=(I1.1 d).1;simp only[Jt]at a;split at a
   case h_2=>exact a.elim
   rename_i O l;obtain⟨rfl,rfl⟩:=a;obtain⟨P,Q⟩:=(p _ _ d).untagS
   simp_all
  | own=>
   have d:=d rfl;rw[List.getElem?_drop]at d;have r:=(I1.1 d).1;simp only[Jt]at a;split at a
   case h_2=>exact a.elim
   rename_i O l;obtain⟨rfl,rfl⟩:=a;obtain⟨P,Q⟩:=(p _ _ d).untag
   simp_all
theorem aJ.backs{D:World}{S':aa}{u:Nat->Nat->Value}(h:aJ w0 M S0 N S' φ F a D)(d:aO S w D)(g:∀b o,S b o->S' b o):∀{A:List MA}{l:List (Nat × Nat)}{B:List MA}{e:List Value}{V:Nat->aa}{i:Nat},F9 w S V A e->
  (∀j v,e[j]? = some v->u (i+j)=celF v)->(∀j v cs,e[j]? = some v->A[j]? = some (.ptr cs)->tvs a (i+j)=v)->f9 u F i A l B->wD D S' (λn=>H5 φ (xN i A l)[n]?) B e
 | [],l,B,e,V,i,q,t,y,c=>by
  cases e with
  | cons _ _=>exact q.elim
  | nil=>cases B with
   | nil=>trivial
   | cons _ _=>grind [f9]
 | m::A,[],B,e,V,i,q,t,y,c=>by grind [f9]
 | m::A,p::l,[],e,V,i,q,t,y,c=>by grind [f9]
 | m::A,p::l,E::B,[],V,i,q,t,y,c=>q.elim
 | m::A,p::l,E::B,v::e,V,i,q,t,y,c=>by
  have next:f9 u F (i+1) A l B->wD D S' (λn=>H5 φ (xN (i+1) A l)[n]?) B e:=λc=>
   aJ.backs h d g q.2 (λj v U=>by rw[show i+1+j=i+(j+1) by omega];simp_all)
    (λj v cs U Z=>by rw[show i+1+j=i+(j+1) by omega];simp_all) c
  cases m with
  | val W cs=>
   cases E with
   | val C X=>simp only[f9]at c;exact⟨trivial,next c⟩
   | ptr=>grind [f9]
   | «mut»=>grind [f9]
  | «mut» W cs=>
   cases E with
   | val=>grind [f9]
   | ptr=>grind [f9]
   | «mut» C out=>
    simp only[f9]at c;obtain⟨⟨rfl,f⟩,H⟩:=c;refine⟨?_,next H⟩;have G:=aX.celF (show aX w S (V 0) C cs v from q.1);have J:u i=celF v:=t 0 v (by simp);have r:=h.slot p.1;cases K:F p.1 with
    | F k xs=>
     rw[K]at f r;simp only at f;rw[J]at f;obtain⟨P,Y,Q,L,R,T,O⟩:=r;refine⟨by grind [vR],celF v,G.2.1,?_⟩;exact(EY d g G.2.2 O f).mono (λ_ _ h=>h) (λb o c=>by simpa[xN,H5] using L b o c)
    | _=>grind
  | ptr cs=>
   cases E with
   | val=>grind [f9]
   | «mut»=>grind [f9]
   | ptr out=>
    simp only[f9]at c;refine⟨?_,next c.2⟩;have G:tvs a i=v:=y 0 v cs (by simp) (by simp);have r:=h.slot i;cases K:F i with
    | F k xs=>
     cases k with
     | box=>
      rw[K]at c r;have:=c.1;simp only at this;subst this;rw[G]at r;obtain⟨P,Y,Q,L,R,T,O⟩:=r;exact⟨P,Y,λb o c=>by simpa[xN,H5] using Q b o c,λb o c=>by simpa[xN,H5] using L b o c,R,T,O⟩
     | _=>grind
    | _=>grind
theorem pO:∀{l:List (Option Nat)},yU l=true->∀(i a t c:Nat),i≠a->l[i]? = some (some t)->l[a]? = some (some c)->t≠c
 | [],_,i,a,t,c,_,h,_=>by simp at h
 | none::l,b,i,a,t,c,f,h,d=>by
  cases i with
  | zero=>simp at h
  | succ i=>cases a with
   | zero=>simp at d
   | succ a=>exact pO (l:=l) b i a t c ω (by simpa using h) (by simpa using d)
 | some g::l,b,i,a,t,c,f,h,d=>by
  simp only[yU,I0]at b;have k:∀(n s:Nat),l[n]? = some (some s)->g≠s:=λn s j e=>by
   have:=W1.1 b.1 _ (X0 j)
   simp_all
  cases i with
  | zero=>
   grind
  | succ i=>cases a with
   | zero=>grind
   | succ a=>exact pO b.2 i a t c ω (by simpa using h) (by simpa using d)
theorem sA:∀{l:List (Option Nat)}{i t:Nat},l[i]? = some (some t)->t∈sles l
 | [],i,t,h=>by simp at h
 | none::l,i,t,h=>by
  cases i with
  | zero=>simp at h
  | succ i=>exact sA (l:=l) (i:=i) (by simpa using h)
 | some a::l,i,t,h=>by
  cases i with
  | zero=>grind [sles]
  | succ i=>exact R2 _ (sA (l:=l) (i:=i) (by simpa using h))
theorem sO{φ:Nat->aa}{x:Option (Option Nat)}{b o:Nat}(h:H5 φ x b o):∃t,x=some (some t)/\φ t b o:=by
 match x,h with
 | some (some t),h=>exact⟨t,rfl,h⟩
 | some none,h=>exact h.elim
 | none,h=>exact h.elim
theorem Dh{f : Nat}{y : Func}{c : Code}{sh : Bool}{A B : List MA}{k : Kd}{rcs : List C}{mo : List (Nat × List Nat)}{n : Nat}(O : List (Nat × Nat))(hTE : ∀t i, TE t = some i -> eM P t i)(hf : P.funcs[f]? = some y)(hn : (y.name == "runtime.NumGoroutine") = false)(d:y.body=some c){ck:Nat->Array Oper->Bool}{D:d7->Nat->Array Oper->((Nat->AV)->Prop)->(Nat->AV)->Prop}(hD:∀N,vA P N ck (D N))(hc:eN ck c=true)(hN:A.length+(y.ntmps - A.length)=n)(hok:yU (xN 0 A O)=true)(hsh:sh=true\/g9 rcs)(hp:∀(u:Nat->Nat->Value)(p:Nat->Value),aw P TE ⟨n,Bm p 0 A,mo⟩ (D ⟨n,Bm p 0 A,mo⟩) c (H1 TE y.results.toList k rcs u A B O) (lay (rC u 0 A))):bR P f sh A B k rcs:=by
 refine⟨⟨y,hf,hn,by rw[d];rfl⟩,λw S V E hS hV hVd hA=>?_⟩;have hlen:=AT hA;refine calls_of_wp hf d ?_
 let u:Nat->Nat->Value:=λi=>celF (E.getD i undef)
 let p:Nat->Value:=λi=>E.getD i undef
 have htv:∀t v,E[t]? = some v->tvs {tmps:=E.toArray++Array.replicate (y.ntmps - E.toArray.size) undef,defers:=[]} t=v:=λt v r=>by
  have Q:=(I1.1 r).1;simp only[tvs,M3]
  grind
 have hst:St w (λb o=>∃i,V i b o) S ⟨n,Bm p 0 A,mo⟩ (lay (rC u 0 A)) {tmps:=E.toArray++Array.replicate (y.ntmps - E.toArray.size) undef,defers:=[]} w:=by
  refine⟨S,V,λt=>?_,hVd,ψ,ψ,λ_ _ h=>h,ψ,CN _ _,by simp;omega,rfl,⟨λq hq=>?_,hS.2⟩⟩
  ·rcases u7 (u:=u) 0 hA t with J|⟨m,v,-,r,h2',K,U⟩
   ·rw[J];trivial
   rw[K];rw[Nat.sub_zero]at r U;rw[htv t v r];have hu:u t=celF v:=ψ
   cases m with
   | val M G=>exact(aX.mono (show aX w S NO M G v from U) (λ_ _ h=>h) (λ_ _ h=>h.elim)).slot
   | «mut» M G=>
    obtain⟨e1,e2,e3⟩:=aX.celF (show aX w S (V t) M G v from U);refine aX.slot ⟨by grind [lm],celF v,e2,?_⟩
    grind [bH.tag]
   | ptr G=>exact U
  obtain⟨-,J,r⟩:=AF hq
  grind
 refine gy hTE (hD _) c hc _ _ _ _ w (hp u p) hst λe F' W l he hs'=>?_
 obtain⟨S',φ',h⟩:=hs';have fin:resA TE F' y.results.toList (sles (xN 0 A O)) (λsh G=>fj (gM sh) k G rcs (f9 u F' 0 A O B))->W.defers=[]/\∃v,(results y W.tmps).run P l=.ok v l/\(∃v',Ending.returned v=.returned v'/\bk (λb o=>∃i,V i b o) w l/\∃(X:aa)(Z:Nat->aa)(S1:aa),
     (∀b o,X b o->(∃i,V i b o)\/(b<l.heap.size/\w.heap.size<=b))/\(∀i b o,Z i b o->(∃i,V i b o)\/(b<l.heap.size/\w.heap.size<=b))/\
     (∀b o,S1 b o->(sh=true/\S b o)\/(∃i,V i b o)\/(b<l.heap.size/\w.heap.size<=b))/\
     (∀i i',i≠i'->∀b o,Z i b o->¬Z i' b o)/\(∀i b o,X b o->¬Z i b o)/\(∀b o,X b o->¬S1 b o)/\(∀i b o,Z i b o->¬S1 b o)/\
     ef l NO k rcs.length v'/\bH l S1 X rcs (bx l k v')/\wD l (λb o=>S b o\/S1 b o) Z B E):=by
  intro hr;obtain⟨shs,G,a,u',hfin,hrun,L,hln,hL,hcells,H,hrow⟩:=h.resA hTE hr;obtain⟨rfl,rfl,R⟩:=hfin.out;refine⟨h.defers,?_⟩;have T:(results y W.tmps).run P l=.ok (if h:a.toArray.size=1 then a.toArray[0] else .tuple a.toArray) l:=by
   have e:results y W.tmps=(do let E <-y.results.mapM (xP W.tmps);pure (if h:E.size=1 then E[0] else .tuple E)):=by
    unfold results
    congr 1
   rw[e,<-Array.toArray_toList (xs:=y.results),List.mapM_toArray]
   simp_all
  have hex:∀t b o,φ' t b o->(∃i,V i b o)\/(b<l.heap.size/\w.heap.size<=b):=λt b o d=>(h.ex t b o d).2.elim (λh'=>.inr ⟨(h.ex t b o d).1,h'⟩) .inl
  have hsameS:aO S w l:=λb o d=>by
   have Q:=hS.1 b o d;exact⟨h.old.cel b o Q ψ,h.old.fro b o Q ψ⟩
  have hm:=h.backs (u:=u) hsameS h.sub hA ψ (λj v G hj hc=>by
    have:=h.par.1 _ (Bh (p:=p) (i:=0) hc)
    grind) R
  refine⟨_,T,_,rfl,h.old,λb o=>∃t,t∉sles (xN 0 A O)/\φ' t b o,λi=>H5 φ' (xN 0 A O)[i]?,λb o=>(sh=true/\S' b o)\/(S' b o/\((∃i,V i b o)\/w.heap.size<=b)),ψ,λi b o d=>?_,λb o d=>?_,λi i' hne b o d g=>?_,λi b o ⟨t,ht,d⟩ g=>?_,λb o ⟨t,_,d⟩ g=>h.disS t b o d ψ,λi b o d g=>?_,?_⟩
  ·grind [sO]
  ·rcases d with⟨J,r⟩|⟨J,r⟩
   ·rcases(h.sup b o r).2 with K|K|K
    ·grind
    ·exact .inr (.inr ⟨(h.sup b o r).1,K⟩)
    grind
   rcases r with r|r
   ·grind
   exact .inr (.inr ⟨(h.sup b o J).1,r⟩)
  ·obtain⟨t,e1,d⟩:=sO d
   obtain⟨t',e2,g⟩:=sO g;exact h.dis t t' (pO hok i i' t t' hne e1 e2) b o d g
  ·obtain⟨t',e2,g⟩:=sO g
   exact h.dis t t' (λe=>ht (by grind [sA])) b o d g
  ·obtain⟨t,-,d⟩:=sO d
   exact h.disS t b o d ψ
  have hk:ef l NO (gM shs) G.length (if h:a.toArray.size=1 then a.toArray[0] else .tuple a.toArray)/\bH l S' (λb o=>∃t,t∉sles (xN 0 A O)/\φ' t b o) G (bx l (gM shs) (if h:a.toArray.size=1 then a.toArray[0] else .tuple a.toArray)):=by
   match shs,L,H,hL with
   | [],L,_,hL=>
    cases a with
    | cons _ _=>exact L.elim
    | nil=>
     have:G=[]:=ψ
     subst this;exact⟨⟨_,rfl,trivial,rfl⟩,bH.nil _ _ _ _⟩
   | [M],_,H,_=>
    obtain⟨v,rfl,hv⟩:=H M rfl;have:=hv.slot (F:=F') (tv:=tvs W);obtain⟨X1,Y,J,r,K,U,h5⟩:=this;refine⟨?_,h5.mono (λ_ _ h=>h) r⟩;cases M<;>exact U
   | M::ag2::sh,L,_,hL=>
    have hsz:¬a.toArray.size=1:=by
     match a,L with
     | [],L=>simp
     | [v],L=>cases M<;>cases ag2<;>exact L.2.elim
     | _::_::_,_=>simp
    rw[dif_neg hsz];refine⟨⟨_,rfl,L,hL⟩,hrow.congr λj hj=>?_⟩;simp only[bx,gM,ju,hcells];simp[List.getD,hj]
  refine⟨hk.1,?_,hm.mono λb o d=>?_⟩
  ·rcases hsh with J|J
   ·exact hk.2.mono ψ (λ_ _ h=>h)
   exact(hk.2.fresh J).mono (λ_ _ h=>h.elim) (λ_ _ h=>h)
  rcases(h.sup b o d).2 with K|K|K
  all_goals grind
 cases e with
 | normal=>exact fin he
 | ret=>exact fin he
 | _=>exact he.elim
end
abbrev I(z:Int):C:=.v (.int .i64 z)
abbrev B(b:Bool):C:=.v (.bool b)
def rI(_:dm)(z:Int):List C:=[I z]
def rB(_:dm)(b:Bool):List C:=[B b]
def uQ(z:Int):g9 (rI .own z):=⟨trivial,trivial⟩
def wZ(b:Bool):g9 (rB .own b):=⟨trivial,trivial⟩
def gS(z:Int):Prop:=-9223372036854775808<=z/\z<=9223372036854775807
def Jw(_:Bool):Prop:=True
def gC(s:Nat)(left:Int):Int:=if(s:Int)<=left then left - s else -1
def ry : Tryz.prog.follows .mixedOrders=true:=by kernel_rfl
def Jl{n f : Nat}{b : List (Nat × List Nat)}{a : Func}{c : Code}{sh : Bool}{A : List RA}{k : Kd}{rcs : List C}(g : Tryz.prog.funcs[f]? = some a)(h : (a.name == "runtime.NumGoroutine") = false)(i : a.body = some c){d : List (Nat × Nat × List Nat)}(j : eN (ma d) c = true)(l:A.length+(a.ntmps - A.length)=n)(e:sh=true\/g9 rcs)(o:aw Tryz.prog TE ⟨n,[],b⟩ (DF Tryz.prog TE ⟨n,[],b⟩ d) c (GD TE a.results.toList k rcs) (lay (vJ 0 A))):af Tryz.prog f sh A k rcs:=
 BW A8 g h i (rl A8 ry ⟨n,[],b⟩ d) j l rfl e o
def Jo{n f : Nat}{h : List (Nat × List Nat)}{a : Func}{c : Code}{sh : Bool}{A B : List MA}{k : Kd}{rcs : List C}(b : List (Nat × Nat))(i : Tryz.prog.funcs[f]? = some a)(j : (a.name == "runtime.NumGoroutine") = false)(l : a.body = some c){d : List (Nat × Nat × List Nat)}(o : eN (ma d) c = true)(q:A.length+(a.ntmps - A.length)=n)(e:yU (xN 0 A b)=true)(g:sh=true\/g9 rcs)(r:∀(u:Nat->Nat->Value)(p:Nat->Value),aw Tryz.prog TE ⟨n,Bm p 0 A,h⟩ (DF Tryz.prog TE ⟨n,Bm p 0 A,h⟩ d) c (H1 TE a.results.toList k rcs u A B b) (lay (rC u 0 A))):bR Tryz.prog f sh A B k rcs:=
 Dh b A8 i j l (λN=>rl A8 ry N d) o q e g r
theorem iy{x:Int}(a : -9223372036854775808<=x)(b:x<=9223372036854775807):IntKind.i64.wrap x=x:=IntWalk.i64_in x ω
def DR:RA->RA->Prop
 | .val ag cs,.val ag' cs'=>ag=ag'/\cs=cs'
 | .ptr cs,.ptr cs'=>cs=cs'
 | A,a=>A=a
theorem DR.eq{A a:RA}(h:DR A a):A=a:=by
 unfold DR at h
 grind
def uq:List RA->List RA->Prop
 | [],[]=>True
 | A::As,B::Bs=>DR A B/\uq As Bs
 | _,_=>False
theorem uq.eq:∀{A a:List RA},uq A a->A=a
 | [],[],_=>rfl
 | A::As,B::Bs,h=>by rw[DR.eq h.1,uq.eq h.2]
 | [],_::_,h=>h.elim
 | _::_,[],h=>h.elim
theorem Cl.eq{P:Program}{f:Nat}{b:Bool}{A a:List RA}{K:AV->Prop}{k:Kd}{rcs:List C}(h:af P f false a k rcs)(c:uq A a)(d:K (.F k rcs)):Cl P f b A K:=by grind [uq.eq,C4]
def tp{n b:Nat}(h:n<=1048576)(a:b<=1000):n*b<=140737488355328:=O2 (Nat.mul_le_mul h a) (by decide)
theorem Cl.sz{P:Program}{f:Nat}{b:Bool}{A:List RA}{K:AV->Prop}{s:Nat}{L:Int}(h:af P f false A .one [I (gC s L)])(a:L<s->K (.F .one [I (-1)]))(c:(s:Int)<=L->K (.F .one [I (L - s)])):Cl P f b A K:=by grind [C4,gC]
def CK:type_of% @Cl.sz:=@Cl.sz
theorem Bf.NB{a b:Bool}{X Y:Prop}(c:a≠b->X)(d:a=b->Y):Bf (a != b) X Y:=by grind [Bf.P]
theorem Rw.one{a:List C}{off i k j:Nat}{K:List C->Nat->Prop}{o:dm}{rows:List (List C)}{r:List C}(c:a[off]? = some (.s o rows))(d:rows[i]? = some r)(e:r.length=k)(b:K r j):Rw a off [(i,k,j)] K:=
 Rw.mk (r:=r) (j:=j) (by grind [b7]) b
def CM:type_of% @Rw.one:=@Rw.one
theorem aV{α:Type}{l:List α}{i:Nat}{r a:α}(h:l[i]? = some r):(l.set i a)[i]? = some a:=ψ
def ew{α:Type}(A B:List α)(i:Nat):List α:=A.take i++B.drop i
section
variable{α:Type}{A B:List α}
def b8:ew A B 0=B:=by simp[ew]
theorem cw(i:Nat)(h:A.length=B.length)(a:i=B.length):ew A B i=A:=by grind [ew]
def eH(h:A.length=B.length)(i:Nat):(ew A B i).length=B.length:=by simp[ew];omega
theorem cy(h:A.length=B.length)(i:Nat)(a:i<=B.length):(ew A B i)[i]? = B[i]?:=by grind [ew]
theorem bj(h:A.length=B.length){i:Nat}{a:α}(b:A[i]? = some a):(ew A B i).set i a=ew A B (i+1):=by
 have c:=(I1.1 b).1;unfold ew
 grind [List.set_append_right,U2,List.drop_eq_getElem_cons]
end
def ab{α β:Type}{f:α->β}{l:List α}{k:Nat}{x:α}(h:l[k]? = some x):(l.map f)[k]? = some (f x):=by simp[h]
def fh{α:Type}{z:α}{n k:Nat}(h:k<n):(List.replicate n z)[k]? = some z:=by simp[h]
end Go.Proofs.YtjooeakgbamfnaaGreatDoor.Ab
