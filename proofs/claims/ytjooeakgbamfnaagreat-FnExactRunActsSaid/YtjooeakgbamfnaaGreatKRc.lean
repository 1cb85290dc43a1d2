/- A region that draws its order may be run in the text's order, where its operations are apart. No condition. -/
import Derived.Test.YtjooeakgbamfnaaGreatKRb
import Derived.Orders
import Derived.Test.YtjooeakgbamfnaaGreatKRa
import Derived.KernelRfl
import Derived.Test.YtjooeakgbamfnaaGreatProg
set_option linter.unusedVariables false
set_option linter.defProp false
set_option linter.unusedSimpArgs false
set_option linter.constructorNameAsVariable false
namespace Go.Proofs.YtjooeakgbamfnaaGreat.Ab
open Go.RowKit
def dx(o:Oper)(i:Nat):Bool:=o.after.toList.any λe=>Region.binds .any e&&Nat.beq e.on i
def dL(ops:Array Oper)(i:Nat):Oper:=ops.getD i default
def below(n:Nat)(p:Nat->Bool):Bool:=(List.range n).all p
def yk(ops:Array Oper)(i j:Nat):Bool:=match(dL ops i).dst with|some d=>((dL ops j).looksAt ops).any (Nat.beq d)|none=>false
def LQ:List Nat->Nat
 | []=>0
 | k::a=>2 ^ k ||| LQ a
def ons(o:Oper):List Nat:=(o.after.toList.filter λe=>Region.binds .any e).map (·.on)
variable{α:Type}
def frc(n:Nat)(K:Nat->α):α:=match n with|0=>K 0|n+1=>K (n+1)
def Vw(n:Nat)(K:Nat->α):frc n K=K n:=by cases n<;>rfl
def clo(ops:Array Oper):Nat->Nat->Nat
 | 0,S=>S
 | k+1,S=>bif S.testBit k then frc (S ||| LQ (ons (dL ops k))) (clo ops k) else clo ops k S
def H0(ops:Array Oper)(m:Nat):Bool:=
 below ops.size λj=>((dL ops j).after.toList.all λe=>!Region.binds .any e || Nat.blt e.on j) &&
  (bif Nat.blt j m then below m (λi=>Nat.beq i j || ((dx (dL ops j) i || dx (dL ops i) j || (dL ops i).apart ops (dL ops j))&&(!yk ops i j || dx (dL ops j) i))) else frc (clo ops j (LQ (ons (dL ops j)))) λS=>below j λi=>S.testBit i)
def BG:List (Nat × Nat × List Nat)->Nat->Option (Nat × List Nat)
 | [],_=>none
 | p::l,id=>bif Nat.beq id p.1 then some p.2 else BG l id
def iI(P:Program)(TE:Nat->Option TI)(N:gk)(ops:Array Oper)(o:Oper)(K:(Nat->AV)->Prop)(F:Nat->AV):Prop:=
 gR F ops o.guard (λF=>match o.dst with|some d=>dz P TE F o.op λa=>cf N F d a K|none=>False)
  (λF=>match o.dst with|some d=>cf N F d (.X (.tup []) []) K|none=>False)
def qF:Op->Option (Option Nat × Nat)
 | .buildSlice T 1 ps=>(match ps.toList with|[(0,.tmp s)]=>some (some T,s)|_=>none)
 | .move (.tmp s)=>some (none,s)
 | _=>none
def own1(T:Option Nat)(k:Kd)(cs:List C):Bool:=match T with
 | some _=>(match k with
   | .one=>(match cs with|[c]=>f6 c|_=>false)
   | .agg=>(match cs with|[c]=>f6 c|_=>false)
   | _=>false)
 | none=>(match k with|.tup _=>!bu cs|_=>false)
def Y4(TE:Nat->Option TI)(N:gk)(F:Nat->AV)(d:Nat)(T:Option Nat)(s:Nat)(K:(Nat->AV)->Prop):Prop:=match T with
 | some T=>ir TE N F d T 1 [(0,.tmp s)] K
 | none=>kI N F d (.tmp s) K
def Qd(F:Nat->AV)(o:Oper):Option (Option Nat × Nat):=
 match o.guard with
 | some _=>none
 | none=>match qF o.op with
  | none=>none
  | some p=>match F p.2 with
   | .X k cs=>bif own1 p.1 k cs then some p else none
   | .dead=>none
   | .ref ..=>none
   | .c6 ..=>none
   | .iref ..=>none
   | .fn ..=>none
   | .fv _=>none
def kP(ops:Array Oper)(o:Oper)(s:Nat):Bool:=
 ((List.range ops.size).any λk=>dx o k&&(match(dL ops k).dst with|some a=>Nat.beq a s|none=>false))&&Nat.ble (ops.toList.filter λk=>(k.looksAt ops).any (Nat.beq s)).length 1
def uQ(ds:List Nat)(o:Oper):Bool:=match o.dst with|some d=>ds.any (Nat.beq d)|none=>false
def twk:List Nat->List Nat
 | []=>[]
 | e::l=>bif Nat.ble 1000 e then(e - 1000)::twk l else []
def dec:List Nat->List (Nat × List Nat)
 | []=>[]
 | e::l=>bif Nat.ble 1000 e then dec l else(e,twk l)::dec l
def Xm:Op->Bool
 | .move (.tmp _)=>true
 | .assign _=>true
 | .extract ..=>true
 | .build ..=>true
 | .buildSlice ..=>true
 | .store ..=>true
 | .load ..=>true
 | .fieldAddr ..=>true
 | .field ..=>true
 | .binOp ..=>true
 | .unOp ..=>true
 | .call c=>(vo c).isSome
 | .slice _ _ none (some _) none=>true
 | .slice _ _ (some _) none none=>true
 | _=>false
def te:Op->Bool
 | .call c=>(match c.callee with|.value (.func _)=>true|_=>false)
 | _=>false
def AS(l:List (Nat × List Nat))(i:Nat):Bool:=l.any λp=>Nat.beq p.1 i
def Ag(ops:Array Oper)(j i:Nat):Bool:=(clo ops j (LQ (ons (dL ops j)))).testBit i
def Zi(o:Oper):Bool:=match o.guard with|none=>true|some _=>false
def Zn(sch:List (Nat × List Nat))(i:Nat):Bool:=sch.any λp=>Nat.beq p.1 i&&!p.2.isEmpty
def Zc(ops:Array Oper)(a b:Oper)(nm:Bool):Bool:=match b.dst with
 | none=>false
 | some c=>Zi a&&(Xm a.op || te a.op)&&!(match a.dst with|some d=>Nat.beq d c|none=>false)&&!(a.looksAt ops).any (Nat.beq c)&&Zi b&&!(b.looksAt ops).any (Nat.beq c)&&(nm || match qF b.op with|none=>true|some p=>!kP ops b p.2)
def Gz(ops:Array Oper)(ds:List Nat)(nm:Nat->Bool)(i j:Nat):Bool:=
 bif uQ ds (dL ops j) then(bif uQ ds (dL ops i) then(dx (dL ops j) i || dx (dL ops i) j || (dL ops i).apart ops (dL ops j))&&(!yk ops i j || dx (dL ops j) i)&&!(match(dL ops i).dst with|some d=>(match(dL ops j).dst with|some e=>Nat.beq d e|none=>false)|none=>false) else true)
 else(bif uQ ds (dL ops i) then(Ag ops j i || Ag ops i j || Zc ops (dL ops j) (dL ops i) (nm i))&&(!yk ops i j || dx (dL ops j) i) else true)
def K5(ops:Array Oper)(ds:List Nat):List (Nat × List Nat)->Bool
 | []=>true
 | k::l=>Nat.blt k.1 ops.size&&!AS l k.1&&((dL ops k.1).after.toList.all λe=>!Region.binds .any e || !(Nat.beq k.1 e.on || AS l e.on)) &&
  (uQ ds (dL ops k.1) || ((l.all λj=>Ag ops j.1 k.1)&&(below ops.size λp=>!uQ ds (dL ops p) || AS l p || Ag ops k.1 p || k.2.any (Nat.beq p))&&(!(l.any λj=>uQ ds (dL ops j.1)) || (Zi (dL ops k.1)&&(Xm (dL ops k.1).op || te (dL ops k.1).op)))))&&K5 ops ds l
def Je(ops:Array Oper)(ds:List Nat)(sch:List (Nat × List Nat)):Bool:=
 (below ops.size λj=>((dL ops j).after.toList.all λe=>!Region.binds .any e || Nat.blt e.on j)&&AS sch j&&(!uQ ds (dL ops j) || (match qF (dL ops j).op with|none=>true|some p=>!kP ops (dL ops j) p.2 || ds.any (Nat.beq p.2)))&&below ops.size λi=>Nat.beq i j || Gz ops ds (Zn sch) i j)&&Nat.beq sch.length ops.size&&K5 ops ds sch
def rL(tb:List (Nat × Nat × List Nat))(id:Nat)(ops:Array Oper):Bool:=
 match BG tb id with
 | some (m,ds)=>bif Nat.ble 65536 m then true else bif Nat.ble 256 m then Je ops (ds.take (m - 256)) (dec (ds.drop (m - 256))) else(Nat.ble m ops.size&&below m λj=>match(dL ops j).dst with|some d=>ds.any (Nat.beq d)|none=>true)&&H0 ops m
 | none=>false
def o9(P:Program)(TE:Nat->Option TI)(N:gk)(ops:Array Oper)(o:Oper)(K:(Nat->AV)->Prop)(F:Nat->AV):Prop:=
 match Qd F o with
 | some p=>(match o.dst with|some d=>bif kP ops o p.2 then Y4 TE N F d p.1 p.2 K else False|none=>False)
 | none=>iI P TE N ops o K F
def Ux(P:Program)(TE:Nat->Option TI)(N:gk)(ops:Array Oper):Nat->List Oper->((Nat->AV)->Prop)->(Nat->AV)->Prop
 | 0,l,K,F=>Ry P TE N ops l K F
 | _+1,[],K,F=>K F
 | m+1,o::l,K,F=>o9 P TE N ops o (Ux P TE N ops m l K) F
def VW(ds:List Nat)(t:Nat):Bool:=ds.any (Nat.beq t)
def ZA(ds:List Nat):AV->AV
 | .ref t off st=>bif VW ds t then .dead else .ref t off st
 | .c6 t off st ag=>bif VW ds t then .dead else .c6 t off st ag
 | .fn f caps=>bif caps.any (VW ds) then .dead else .fn f caps
 | .X k cs=>.X k cs
 | .iref r off=>.iref r off
 | .fv Ok=>.fv Ok
 | .dead=>.dead
def clr(ds:List Nat)(F:Nat->AV):Nat->AV:=λt=>ZA ds (F t)
theorem JB(ds:List Nat)(F:Nat->AV)(t:Nat):clr ds F t=bif ds.any (λd=>(F t).uses d) then .dead else F t:=by
 unfold clr;cases F t with
 | dead=>cases ds.any λd=>AV.uses d .dead<;>rfl
 | X k i=>
  have:ds.any (λd=>(AV.X k i).uses d)=false:=by
   rw[<-IA,I7]
   rintro⟨d,_,h⟩
   cases h
  rw[this];rfl
 | iref r a=>
  have:ds.any (λd=>(AV.iref r a).uses d)=false:=by
   rw[<-IA,I7]
   rintro⟨d,_,h⟩
   cases h
  rw[this];rfl
 | fv Ok=>
  have:ds.any (λd=>(AV.fv Ok).uses d)=false:=by
   rw[<-IA,I7]
   rintro⟨d,_,h⟩
   cases h
  rw[this];rfl
 | ref j a l=>rfl
 | c6 j a l n=>rfl
 | fn f caps=>
  have:ds.any (λd=>(AV.fn f caps).uses d)=caps.any (VW ds):=by
   rw[z9,I7,I7];constructor
   ·rintro⟨d,b,h⟩
    simp only[AV.uses,I7]at h;obtain⟨c,e,g⟩:=h;exact⟨c,e,I7.2 ⟨d,b,g⟩⟩
   rintro⟨c,e,h⟩
   obtain⟨d,b,g⟩:=I7.1 h
   grind [AV.uses]
  rw[this];rfl
inductive Sm(a b:AV)(K:Prop):Prop
 |mk_ (h:a=b/\K)
def Sm.rf{a:AV}{K:Prop}(h:K):Sm a a K:=.mk_ ⟨rfl,h⟩
def CG:type_of% @Sm.rf:=@Sm.rf
def Sm.out{a b:AV}{K:Prop}(h:Sm a b K):a=b/\K:=h.1
def YL(P:Program)(TE:Nat->Option TI)(ops:Array Oper)(p:Nat)(K:Prop)(F:Nat->AV):Prop:=
 match(dL ops p).dst with
 | none=>False
 | some d=>(match Qd F (dL ops p) with
   | some _=>False
   | none=>dz P TE F (dL ops p).op λa=>Sm a (F d) K)
def Uu(P:Program)(TE:Nat->Option TI)(ops:Array Oper):List Nat->Prop->(Nat->AV)->Prop
 | [],K,_=>K
 | p::l,K,F=>YL P TE ops p (Uu P TE ops l K F) F
def UO(P:Program)(TE:Nat->Option TI)(N:gk)(ops:Array Oper)(nm:Bool)(o:Oper)(K:(Nat->AV)->Prop)(F:Nat->AV):Prop:=
 match nm with
 | false=>o9 P TE N ops o K F
 | true=>(match Qd F o with
   | some _=>False
   | none=>iI P TE N ops o K F)
def RV(P:Program)(TE:Nat->Option TI)(N:gk)(ops:Array Oper)(ds:List Nat)(nm:Nat->Bool):List (Nat × List Nat)->((Nat->AV)->Prop)->(Nat->AV)->Prop
 | [],K,F=>K F
 | k::l,K,F=>bif uQ ds (dL ops k.1) then UO P TE N ops (nm k.1) (dL ops k.1) (RV P TE N ops ds nm l K) F else kn P TE N ops (dL ops k.1) (λa=>Uu P TE ops k.2 (RV P TE N ops ds nm l K a) a) F
def WF:List Nat->(List Nat->Prop)->Prop
 | [],K=>K []
 | a::l,K=>WF l λb=>K (a::b)
def PD:∀(l:List Nat)(K:List Nat->Prop),WF l K=K l
 | [],_=>rfl
 | a::l,K=>by rw[WF,PD l]
def Jh(l:List Nat)(j:Nat):Bool:=l.any (Nat.beq j)
def Vc(ops:Array Oper)(done:List Nat):List Nat:=(List.range ops.size).filter λj=>!Jh done j&&((dL ops j).after.toList.all λe=>!Region.binds .any e || Jh done e.on)
def Zy(p:Nat->Prop):Nat->List Nat->Prop
 | i,[]=>p i
 | i,j::l=>p i/\Zy p j l
def Z3(l:List Nat)(K:Prop)(p:Nat->Prop):Prop:=match l with
 | []=>K
 | i::l=>Zy p i l
def X6(P:Program)(TE:Nat->Option TI)(N:gk)(ops:Array Oper)(K:(Nat->AV)->Prop):Nat->List Nat->(Nat->AV)->Prop
 | 0,done,F=>Z3 (Vc ops done) (K F) λ_=>False
 | n+1,done,F=>Z3 (Vc ops done) (K F) λi=>kn P TE N ops (dL ops i) (X6 P TE N ops K n (i::done)) F
def DD(P:Program)(TE:Nat->Option TI)(N:gk)(tb:List (Nat × Nat × List Nat))(id:Nat)(ops:Array Oper)(K:(Nat->AV)->Prop)(F:Nat->AV):Prop:=
 match BG tb id with
 | some (m,ds)=>bif Nat.ble 65536 m then X6 P TE N ops K ops.size [] F else bif Nat.ble 256 m then WF (ds.take (m - 256)) λa=>RV P TE N ops a (Zn (dec (ds.drop (m - 256)))) (dec (ds.drop (m - 256))) K (clr a F) else Ux P TE N ops m ops.toList K (clr ds F)
 | none=>False
variable{i n:Nat}
theorem iO{p:Nat->Bool}(h:below n p=true)(a:i<n):p i=true:=O7.1 h i ψ
theorem cB{o:Oper} : dx o i=true↔∃e,e∈o.after/\Region.binds .any e=true/\e.on=i:=by grind [v4,Nat.beq_refl,dx]
theorem bM{ops:Array Oper}{o:Oper}(h:ops[i]? = some o):dL ops i=o:=by simp[dL,CD,h]
section
variable{P:Program}{w0 w w1:World}{M S0 S:am}{N:gk}{φ:Nat->am}{F:Nat->AV}{a:Act}{TE:Nat->Option TI}{ops:Array Oper}
variable{d:Nat}
theorem Hi{b:Bool}(a:F d=.X .one [.v (.bool b)]):Mz F d b=F:=by grind [v4,Mz]
theorem jM(o:Oper)(t:Nat)(h:t∈dS o.op):t∈o.looksAt ops:=by grind [Go.Oper.looksAt,dS,tm]
structure Zv(P:Program)(TE:Nat->Option TI)(N:gk)(ops:Array Oper)(o:Oper)(F:Nat->AV)(d:Nat)(av:AV):Prop where
 dst:o.dst=some d
 lt:N.free d=true
 self:av.uses d=false
 from_:fD F (o.looksAt ops) av
 at_:∀F':Nat->AV,jn F F' (o.looksAt ops)->∀K':(Nat->AV)->Prop,K' (put F' d av)->iI P TE N ops o K' F'
def jn.refl(F:Nat->AV)(ts:List Nat):jn F F ts:=λ_ _=>⟨rfl,λ_ _ _ _ h=>h⟩
theorem Cm:type_of% @jn.refl:=@jn.refl
variable{K:(Nat->AV)->Prop}{o:Oper}
theorem Eu(h:iI P TE N ops o K F):∃d av,Zv P TE N ops o F d av/\K (put F d av):=by
 cases e:o.dst with
 | none=>
  exfalso;unfold iI at h;rw[e]at h;unfold gR at h
  grind [Bf.out]
 | some d=>
  have put1:∀{a:Nat->AV}{av:AV}{c:(Nat->AV)->Prop},N.free d=true->av.uses d=false->c (put a d av)->cf N a d av c:=λA B E=>by grind [cf]
  have put2:∀{a:Nat->AV}{av:AV}{c:(Nat->AV)->Prop},cf N a d av c->N.free d=true/\av.uses d=false/\c (put a d av):=fun {a av c} n=>by grind [cf]
  have pure1:dz P TE F o.op (λav=>cf N F d av K)->∃av,N.free d=true/\av.uses d=false/\K (put F d av)/\fD F (o.looksAt ops) av/\∀a:Nat->AV,jn F a (o.looksAt ops)->∀c:(Nat->AV)->Prop,c (put a d av)->dz P TE a o.op (λav=>cf N a d av c):=λn=>by
   obtain⟨av,A,B,E⟩:=lU n
   grind [fD.mono,jM,jn.mono]
  unfold iI at h;rw[e]at h;unfold gR at h;cases r:o.guard with
  | none=>
   rw[r]at h;obtain⟨av,i,k,l,w,C⟩:=pure1 h;exact⟨d,av,⟨e,i,k,w,λa f c t=>by unfold iI gR;simp_all⟩,l⟩
  | some p=>
   obtain⟨j,want⟩:=p;rw[r]at h;simp only at h;cases y:(ops[j]?).bind (·.dst) with
   | none=>grind
   | some u=>
    rw[y]at h;simp only at h;have q:u∈o.looksAt ops:=by grind [Go.Oper.looksAt]
    split at h
    case h_3=>exact h.elim
    case h_2=>
     rename_i J L g;obtain⟨i,k,l⟩:=put2 h;refine⟨d,.X (.tup []) [],⟨e,i,k,(λd e=>by cases e),λa f c t=>?_⟩,l⟩;unfold iI gR;rw[r,e];simp only;rw[y];simp only;rw[(f u q).1.trans g];exact put1 i k t
    rename_i b g;have same:∀{a:Nat->AV},jn F a (o.looksAt ops)->a u=.X .one [.v (.bool b)]:=λf=>(f u q).1.trans g
    have back:∀{a:Nat->AV}{c:(Nat->AV)->Prop},jn F a (o.looksAt ops)->(b=want->dz P TE a o.op (λav=>cf N a d av c))->(b = !want->cf N a d (.X (.tup []) []) c)->iI P TE N ops o c a:=fun {a c} f A B=>by
     unfold iI gR;rw[r,e];simp only;rw[y];simp only;rw[same f];simp only;refine Bf.P (λG=>?_) (λG=>?_)
     all_goals grind [Hi]
    have D:=Hi g;replace h:=Bf.out h;by_cases H:b=want
    ·have n:dz P TE F o.op (λav=>cf N F d av K):=ψ
     obtain⟨av,i,k,l,w,C⟩:=pure1 n;exact⟨d,av,⟨e,i,k,w,λa f c t=>back f (λ_=>C a f c t) ψ⟩,l⟩
    have n:cf N F d (.X (.tup []) []) K:=ψ
    obtain⟨i,k,l⟩:=put2 n;exact⟨d,.X (.tup []) [],⟨e,i,k,(λd e=>by cases e),ψ⟩,l⟩
def aft:AV->AV
 | .X k a=>.X k (splice a 0 (List.replicate a.length .x))
 | _=>.X .one [.x]
theorem UI(v:AV)(e:Nat):(aft v).uses e=false:=by unfold aft;split<;>rfl
def eff(a:Option Nat)(d:Nat)(av:AV)(F:Nat->AV):Nat->AV:=λt=>if t=d then av else if a=some t then aft (F t) else F t
theorem Jl(av:AV)(a:∀t,(F t).uses d=false):put F d av=eff none d av F:=by grind [tL,jZ,GP,eff]
variable{s:Nat}
theorem XE{v:AV}(h:v.uses s=false):xJ s v=v:=by
 cases v with
 | c6 t a b c=>grind [AV.uses,xJ]
 | ref t a b=>simp only[AV.uses]at h;cases b<;>simp[xJ,h]
 | _=>rfl
theorem Vy{k:Kd}{cs:List C}(av:AV)(a:F s=.X k cs)(c:∀t,(F t).uses d=false)(e:∀t,(F t).uses s=false):put (updH F s k (splice cs 0 (List.replicate cs.length .x))) d av=eff (some s) d av F:=by
 funext t
 unfold eff;by_cases h:t=d
 ·grind [tL]
 rw[jZ _ _ h,CI h];by_cases b:t=s
 ·subst b;rw[ka,CJ rfl,a];rfl
 grind [Nat.beq_eq,XE,GP,updH]
theorem N0{T:Nat}{k:Kd}{c:C}(o:k=.one\/k=.agg)(p:F s=.X k [c])(q:f6 c=true)(h:ir TE N F d T 1 [(0,.tmp s)] K) :
  ∃av,N.free d=true/\(∀e,av.uses e=false)/\K (put (updH F s k [.x]) d av)/\∀(F':Nat->AV)(b:(Nat->AV)->Prop),F' s=.X k [c]->b (put (updH F' s k [.x]) d av)->ir TE N F' d T 1 [(0,.tmp s)] b:=by
 have key:∀F':Nat->AV,F' s=.X k [c]->∀b:(Nat->AV)->Prop,ir TE N F' d T 1 [(0,.tmp s)] b=MP TE T λ_ a=>bif Nat.ble (1*a.size) 16777216 then(bif Nat.beq 1 a.size&&Nat.ble (0*a.size+a.size) (rep a.zero 1).length then cf N (updH F' s k [.x]) d (.X .one [.s .own (chunk a.size 1 (splice (rep a.zero 1) (0*a.size) [c]))]) b else False) else False:=by
  intro F' f b;unfold ir
  congr 1
  funext e a
  rcases o with rfl|rfl<;>simp only[dG,fillW,Z1,zD,qE,f,jN,bu,q,cond_true,cond_false,iB,sU,List.length_singleton,List.replicate]
  all_goals rfl
 rw[key F p]at h;obtain⟨e,a,g,n⟩:=iz h;cases i:Nat.ble (1*a.size) 16777216 with
 | false=>grind
 | true=>
  cases j:(Nat.beq 1 a.size&&Nat.ble (0*a.size+a.size) (rep a.zero 1).length) with
  | false=>grind
  | true=>
   rw[i,j]at g;simp only[cond_true]at g;unfold cf at g;cases l:N.free d with
   | false=>grind
   | true=>
    rw[l]at g;refine⟨_,rfl,λ_=>rfl,g,λF' b f r=>?_⟩
    grind [cf]
variable{T:Option Nat}
theorem XP{k:Kd}{cs:List C}(j:F s=.X k cs)(l:own1 T k cs=true)(h:Y4 TE N F d T s K) :
  ∃av,N.free d=true/\(∀e,av.uses e=false)/\K (put (updH F s k (splice cs 0 (List.replicate cs.length .x))) d av)/\∀(F':Nat->AV)(a:(Nat->AV)->Prop),F' s=.X k cs->a (put (updH F' s k (splice cs 0 (List.replicate cs.length .x))) d av)->Y4 TE N F' d T s a:=by
 cases T with
 | some T=>
  have f:(k=.one\/k=.agg)/\∃c,cs=[c]/\f6 c=true:=by
   unfold own1 at l
   grind
  obtain⟨n,c,rfl,o⟩:=f;exact N0 n j o h
 | none=>
  have f:∃b,k=.tup b/\bu cs=false:=by
   unfold own1 at l
   grind
  obtain⟨b,rfl,p⟩:=f;have key:∀F':Nat->AV,F' s=.X (.tup b) cs->∀a,Y4 TE N F' d none s a=cf N (updH F' s (.tup b) (splice cs 0 (List.replicate cs.length .x))) d (.X (.tup b) cs) a:=λF' g a=>by grind [Y4,kI]
  rw[key F j]at h;unfold cf at h;cases i:N.free d with
  | false=>grind
  | true=>
   rw[i]at h;refine⟨_,rfl,λ_=>rfl,h,λF' a g q=>?_⟩
   grind [cf]
structure Yl(P:Program)(TE:Nat->Option TI)(N:gk)(ops:Array Oper)(o:Oper)(F:Nat->AV)(mv:Option Nat)(d:Nat)(av:AV):Prop where
 dst:o.dst=some d
 lt:N.free d=true
 self:av.uses d=false
 from_:fD F (o.looksAt ops) av
 mvl:∀s,mv=some s->o.guard=none/\(∃T,qF o.op=some (T,s))/\kP ops o s=true
 at_:∀F':Nat->AV,jn F F' (o.looksAt ops)->(∀t,(F' t).uses d=false)->(∀s,mv=some s->∀t,(F' t).uses s=false)->∀K':(Nat->AV)->Prop,K' (eff mv d av F')->o9 P TE N ops o K' F'
theorem PB{o:Op}(h:qF o=some (T,s)):(∃a ps,T=some a/\o=.buildSlice a 1 ps/\ps.toList=[(0,.tmp s)])\/(T=none/\o=.move (.tmp s)):=by
 unfold qF at h
 grind
theorem dw(h:qF o.op=some (T,s)):s∈o.looksAt ops:=by
 refine jM o s ?_;unfold dS;refine List.mem_flatMap.2 ⟨.tmp s,?_,by simp[tm]⟩
 grind [PB,Go.Op.operands]
theorem Ki{p:Option Nat × Nat}(h:Qd F o=some p):o.guard=none/\qF o.op=some p/\∃k cs,F p.2=.X k cs/\own1 p.1 k cs=true:=by grind [Qd]
theorem A9{F':Nat->AV}(a:jn F F' (o.looksAt ops)):Qd F' o=Qd F o:=by
 unfold Qd;cases c:o.guard with
 | some _=>rfl
 | none=>
  cases b:qF o.op with
  | none=>rfl
  | some p=>simp only;rw[(a p.2 (dw b)).1]
theorem xm(c:Qd F o=none)(h:iI P TE N ops o K F)(e:∀d,o.dst=some d->∀t,(F t).uses d=false):∃d av,Yl P TE N ops o F none d av/\K (eff none d av F):=by
 obtain⟨d,av,a,f⟩:=Eu h;refine⟨d,av,⟨a.dst,a.lt,a.self,a.from_,ψ,λg i j _ k b=>?_⟩,by grind [Jl,Zv.dst]⟩
 grind [A9,Zv.at_,Jl,o9]
theorem uG(h:o9 P TE N ops o K F)(E:∀d,o.dst=some d->∀t,(F t).uses d=false)(y:∀T s,o.guard=none->qF o.op=some (T,s)->kP ops o s=true->∀t,(F t).uses s=false) :
  ∃r d av,Yl P TE N ops o F r d av/\K (eff r d av F):=by
 unfold o9 at h;cases f:Qd F o with
 | none=>
  grind [xm]
 | some p=>
  rw[f]at h;obtain⟨G,a,k,H,g,b⟩:=Ki f;simp only at h;cases i:o.dst with
  | none=>grind
  | some d=>
   rw[i]at h;simp only at h;cases c:kP ops o p.2 with
   | false=>grind
   | true=>
    rw[c]at h;simp only[cond_true]at h;obtain⟨av,A,u,J,B⟩:=XP g b h;refine⟨some p.2,d,av,⟨i,A,u d,λe w=>(by rw[u e]at w;cases w),λs y=>?_,λC j l n D q=>?_⟩,?_⟩
    ·grind
    ·unfold o9
     rw[A9 j,f];simp only;rw[i];simp only;rw[c];refine B C D ((j p.2 (dw a)).1.trans g) ?_;rw[Vy av ((j p.2 (dw a)).1.trans g) l (n p.2 rfl)];exact q
    grind [Vy]
theorem R3{nm:Bool}(h:UO P TE N ops nm o K F)(b:∀d,o.dst=some d->∀t,(F t).uses d=false)(c:∀T s,o.guard=none->qF o.op=some (T,s)->kP ops o s=true->∀t,(F t).uses s=false) :
  ∃a d av,Yl P TE N ops o F a d av/\K (eff a d av F)/\(nm=true->a=none):=by
 unfold UO at h
 grind [uG,xm]
end
section
variable{P:Program}{w0 w w1:World}{M S0 S:am}{N:gk}{φ:Nat->am}{F:Nat->AV}{a:Act}{TE:Nat->Option TI}{ops:Array Oper}
def AZ(P:Program)(TE:Nat->Option TI)(N:gk)(ops:Array Oper)(m i:Nat)(K:(Nat->AV)->Prop)(F:Nat->AV):Prop:=
 match ops[i]? with
 | none=>K F
 | some o=>if i<m then o9 P TE N ops o K F else kn P TE N ops o K F
def N2(P:Program)(TE:Nat->Option TI)(N:gk)(ops:Array Oper)(m:Nat)(K:(Nat->AV)->Prop):Nat->Array Bool->(Nat->AV)->Prop
 | 0,listed,F=>Region.ready .any ops listed=[]/\K F
 | fuel+1,listed,F=>(Region.ready .any ops listed=[]->K F)/\∀i,i∈Region.ready .any ops listed->AZ P TE N ops m i (N2 P TE N ops m K fuel (listed.setIfInBounds i true)) F
variable{Q:Exit->Act->World->Prop}{Kc:Act->World->Prop}{K:(Nat->AV)->Prop}{o:Oper}
theorem br.oneP0(h:br w0 M S0 N S φ F a w)(c:∀t i,TE t=some i->jo P t i)(b:iI P TE N ops o K F)(p:∀F' j e,K F'->St w0 M S0 N F' j e->Kc j e) :
  if Region.wanted o (yielded ops a.tmps) then o.wp P a w Kc Q else Kc (a.put o.dst undef) w:=by
 unfold iI at b;rcases E8 h b with⟨f,b⟩|⟨f,b⟩
 ·rw[f,CJ rfl]
  cases g:o.dst with
  | none=>grind
  | some d=>
   rw[g]at b;obtain⟨av,k,l⟩:=h.pure_ c b;refine l Kc Q λv e q=>?_
   grind [br.putD_new]
 rw[f,CI (by simp)];cases g:o.dst with
 | none=>grind
 | some d=>
  rw[g]at b;obtain⟨F',k,n⟩:=h.putD_new (v:=undef) (oC.same (av:=.X (.tup []) []) UJ) b
  grind
variable{d:Nat}
def RJ{p:Option Nat × Nat}(f:Qd F o=some p)(c:o.dst=some d)(h:Y4 TE N F d p.1 p.2 K):kn P TE N ops o K F:=by
 obtain⟨e,a,-⟩:=Ki f;obtain⟨T,s⟩:=p;rcases PB a with⟨i,j,rfl,b,g⟩|⟨rfl,b⟩
 ·unfold kn gR
  rw[e];simp only;rw[b];simp only[FD];rw[c];simp only[kH,g];exact h
 unfold kn gR;rw[e];simp only;rw[b];simp only[FD];rw[c];simp only[kH];exact h
theorem br.oneP(h:br w0 M S0 N S φ F a w)(c:∀t i,TE t=some i->jo P t i)(b:o9 P TE N ops o K F)(g:∀F' j k,K F'->St w0 M S0 N F' j k->Kc j k) :
  if Region.wanted o (yielded ops a.tmps) then o.wp P a w Kc Q else Kc (a.put o.dst undef) w:=by
 unfold o9 at b;cases e:Qd F o with
 | none=>rw[e]at b;exact h.oneP0 c b g
 | some p=>
  rw[e]at b;simp only at b;cases l:o.dst with
  | none=>grind
  | some d=>
   rw[l]at b;simp only at b;cases f:kP ops o p.2 with
   | false=>grind
   | true=>
    rw[f]at b;have:=h.one c (RJ (P:=P) (ops:=ops) e l b) (Q:=Q) g
    grind
variable{m i:Nat}
theorem MT(c:∀t i,TE t=some i->jo P t i)(b:AZ P TE N ops m i K F)(g:St w0 M S0 N F a w)(d:∀F' e f,K F'->St w0 M S0 N F' e f->Kc e f):wpOp P ops Q i Kc a w:=by
 unfold AZ at b;unfold wpOp;cases j:ops[i]? with
 | none=>grind
 | some o=>
  rw[j]at b;simp only at b |-;obtain⟨S,φ,h⟩:=g;have:if Region.wanted o (yielded ops a.tmps) then o.wp P a w Kc Q else Kc (a.put o.dst undef) w:=by
   split at b
   ·exact h.oneP c b d
   exact h.one c b d
  grind
def Gv(b:∀t i,TE t=some i->jo P t i){m:Nat}{K:(Nat->AV)->Prop}{Q:Exit->Act->World->Prop}(g:∀F' d e,K F'->St w0 M S0 N F' d e->Q .normal d e) :
  ∀(fuel:Nat)(listed:Array Bool)(F:Nat->AV)(a:Act)(w:World),N2 P TE N ops m K fuel listed F->St w0 M S0 N F a w->wpAny P .any ops Q fuel listed a w
 | 0,_,F,a,w,c,f=>⟨c.1,g F a w c.2 f⟩
 | fuel+1,_,F,a,w,c,f=>⟨λj=>g F a w (c.1 j) f,λi k=>MT b (c.2 i k) f λF' d e l h=>Gv b g fuel _ F' d e l h⟩
structure GX(ops:Array Oper)(m:Nat)(F:Nat->AV)(listed:Array Bool):Prop where
 dst:∀j o d,j<m->ops[j]? = some o->listed.getD j true=false->o.dst=some d->∀t,(F t).uses d=false
 mv:∀j o T s,j<m->ops[j]? = some o->listed.getD j true=false->o.guard=none->qF o.op=some (T,s)->kP ops o s=true->∀t,(F t).uses s=false
def DC(ops:Array Oper)(listed:Array Bool):Prop:=∀j a,ops[j]? = some a->listed.getD j false=true->∀k,dx a k=true->listed.getD k false=true
variable{e:Nat}
theorem WJ{v:AV}(h:(kl d v).uses e=true):v.uses e=true/\v.uses d=false:=by
 rw[GP]at h;cases a:v.uses d with
 | true=>rw[a]at h;cases h
 | false=>grind
theorem De{α:Type}{p:α->Bool} : ∀{l:List α}{i j:Nat}{x y:α},(l.filter p).length<=1->l[i]? = some x->l[j]? = some y->p x=true->p y=true->i=j
 | [],_,_,_,_,_,h,_,_,_=>by simp at h
 | a::l,0,0,_,_,_,_,_,_,_=>rfl
 | a::l,i+1,j+1,x,y,h,b,c,d,e=>by
  rw[De (l:=l) (C9 (List.Sublist.length_le ((List.sublist_cons_self a l).filter p)) h) b c d e]
 | a::l,0,j+1,x,y,h,b,c,d,e=>by
  simp only[List.getElem?_cons_zero,C2]at b;subst b;rw[List.filter_cons_of_pos d]at h;have:y∈l.filter p:=S8.2 ⟨t4 c,e⟩;have:=List.length_pos_of_mem this;rw[List.length_cons]at h;omega
 | a::l,i+1,0,x,y,h,b,c,d,e=>by
  simp only[List.getElem?_cons_zero,C2]at c;subst c;rw[List.filter_cons_of_pos e]at h;have:x∈l.filter p:=S8.2 ⟨t4 b,d⟩;have:=List.length_pos_of_mem this;rw[List.length_cons]at h;omega
variable{j:Nat}{listed:Array Bool}
theorem kc{a:Nat}(b:(listed.setIfInBounds j true).getD a true=false):a≠j:=λe=>by simp_all
variable{av:AV}{t:Nat}
theorem mj{a:Option Nat}(b:av.uses e=false)(c:(F t).uses e=false):(eff a d av F t).uses e=false:=by grind [UI,eff]
theorem GX.put{o:Option Nat}(h:GX ops m F listed)(p:∀a b g,a<m->a≠j->ops[a]? = some b->listed.getD a true=false->b.dst=some g->av.uses g=false)(q:∀a b T s,a<m->a≠j->ops[a]? = some b->listed.getD a true=false->b.guard=none->qF b.op=some (T,s)->kP ops b s=true->av.uses s=false) :
  GX ops m (eff o d av F) (listed.setIfInBounds j true):=by
 refine⟨λa b g i c e k t=>?_,λa b T s i c e r l n t=>?_⟩
 ·have f:=kc e
  rw[getD_set_ne true (Ne.symm f)]at e;exact mj ψ (h.dst a b g i c e k t)
 have f:=kc e;rw[getD_set_ne true (Ne.symm f)]at e;exact mj ψ (h.mv a b T s i c e r l n t)
inductive ss(ops:Array Oper):Nat->Nat->Prop
 |one {j i:Nat} (h:dx (dL ops j) i=true):ss ops j i
 |step {j k i:Nat} (h:dx (dL ops j) k=true) (h2:ss ops k i):ss ops j i
def ss.trans{k:Nat}(h:ss ops j k)(h2:ss ops k i):ss ops j i:=by
 induction h with
 | one h=>exact .step h h2
 | step h _ a=>exact .step h (a h2)
theorem MG{i:Nat} : ∀{a:List Nat},(LQ a).testBit i=true->i∈a
 | [],h=>by simp[LQ]at h
 | k::a,h=>by
  rw[LQ,Nat.testBit_or,IC]at h;rcases h with h|h
  ·grind
  exact CA _ (MG h)
theorem AL(h:(LQ (ons o)).testBit i=true):dx o i=true:=by
 have:=MG h
 grind [cB,ons]
def xj{j:Nat} : ∀(k S:Nat),(∀i,S.testBit i=true->ss ops j i)->∀i,(clo ops k S).testBit i=true->ss ops j i
 | 0,_,h,i,a=>h i a
 | k+1,S,h,i,a=>by
  rw[clo,Vw]at a;cases c:S.testBit k with
  | false=>rw[c]at a;exact xj k S h i a
  | true=>
   rw[c]at a;refine xj k _ (λe b=>?_) i a;rw[Nat.testBit_or,IC]at b;rcases b with d|d
   ·exact h e d
   exact(h k c).trans (.one (AL d))
theorem rE(d:DC ops listed)(b:∀j n,ops[j]? = some n->∀e∈n.after,Region.binds .any e=true->e.on<j)(o:ss ops j i):j<ops.size->(∀k,dx (dL ops j) k=true->listed.getD k false=true)->listed.getD i false=true:=by
 induction o with
 | one h=>grind
 | @step j k i h h2 ih=>
  intro f p;have r:k<j:=by
   have c:=(show ops[j]? = some ops[j] from OC f)
   rw[bM c]at h;obtain⟨e,g,l,rfl⟩:=cB.1 h;exact b j _ c e g l
  have a:k<ops.size:=ω
  have c:=(show ops[k]? = some ops[k] from OC a)
  exact ih a λq a=>d k _ c (p k h) q (by rw[bM c]at a;exact a)
theorem DC.put(h:DC ops listed)(d:j∈Region.ready .any ops listed):DC ops (listed.setIfInBounds j true):=by
 obtain⟨l,n,f,b⟩:=mem_ready.1 d;intro k ok g c e i;by_cases a:k=j
 ·grind [cB,Go.getD_set_true]
 rw[getD_set_ne false (Ne.symm a)]at c;exact getD_set_true (h k ok g c e i)
theorem iw{s:Nat}(h:kP ops o s=true):(∃k ok,dx o k=true/\ops[k]? = some ok/\ok.dst=some s)/\∀(i j:Nat)(a b:Oper),ops[i]? = some a->ops[j]? = some b->s∈a.looksAt ops->s∈b.looksAt ops->i=j:=by
 unfold kP at h;rw[I0]at h;obtain⟨q,c⟩:=h;constructor
 ·grind [bM,v4]
 intro i j a b d e f g;have l:=O2 c;have n:ops.toList[i]? = some a:=by simpa using d
 have p:ops.toList[j]? = some b:=by simpa using e
 grind [Nat.beq_refl,De]
structure Yh(ops:Array Oper)(m:Nat):Prop where
 back:∀j oj,ops[j]? = some oj->∀e∈oj.after,Region.binds .any e=true->e.on<j
 tail:∀j,m<=j->j<ops.size->∀i,i<j->ss ops j i
 apart:∀i j oi oj,i<m->j<m->i≠j->ops[i]? = some oi->ops[j]? = some oj->dx oj i=true\/dx oi j=true\/oi.apart ops oj=true
 look:∀i j oi oj d,i<m->j<m->i≠j->ops[i]? = some oi->ops[j]? = some oj->oi.dst=some d->d∈oj.looksAt ops->dx oj i=true
theorem Kr(h:H0 ops m=true):Yh ops m:=by
 have o:∀j b,ops[j]? = some b->_:=λj b a=>iO h (C6.1 a).1
 refine⟨λj b a e t p=>?_,λj u a i f=>?_,λi j q b f a g r k=>?_,λi j q b d f a g r k w y=>?_⟩
 ·grind [bM,Nat.blt_eq]
 ·have l:=(show ops[j]? = some ops[j] from OC a)
  have:=o j _ l;simp only[I0]at this;have c:=this.2;rw[show Nat.blt j m=false by rw[<-IA,Nat.blt_eq];omega]at c;simp only[cond_false,Vw]at c;exact xj j _ (λA n=>.one (AL n)) i (iO c f)
 ·grind [bM,Nat.blt_eq,iO,Nat.beq_eq]
 have:=o j b k;rw[bM k]at this;simp only[I0]at this;have c:=this.2;rw[show Nat.blt j m=true by simpa[Nat.blt_eq] using a]at c
 grind [iO,bM,Nat.beq_eq,yk]
theorem Rn(V:Yh ops m){c:Oper}{u:Option Nat}(R:ops[i]? = some c)(w:i<m) :
  ∀(fuel:Nat)(listed:Array Bool)(F:Nat->AV),i∈Region.ready .any ops listed->GX ops m F listed->DC ops listed->Yl P TE N ops c F u d av->N2 P TE N ops m K fuel (listed.setIfInBounds i true) (eff u d av F)->N2 P TE N ops m K (fuel+1) listed F:=by
 have self:∀(listed:Array Bool)(F:Nat->AV),i∈Region.ready .any ops listed->GX ops m F listed->Yl P TE N ops c F u d av->∀S:(Nat->AV)->Prop,S (eff u d av F)->o9 P TE N ops c S F:=λlisted F W a g S hK=>by
  have b:=(mem_ready.1 W).1;refine g.at_ F (Cm _ _) (a.dst i c d w R b g.dst) (λs X=>?_) S hK;obtain⟨A,⟨T,h2⟩,h3⟩:=g.mvl s X;exact a.mv i c T s w R b A h2 h3
 intro fuel
 induction fuel with
 | zero=>
  intro listed F W a E g H;refine⟨ψ,λj Y=>?_⟩;by_cases n:j=i
  ·grind [AZ]
  have:=ready_mono Y n;rw[H.1]at this;cases this
 | succ fuel ih=>
  intro listed F W a E g H;refine⟨ψ,λj Y=>?_⟩;by_cases n:j=i
  ·grind [AZ]
  have A:=H.2 j (ready_mono Y n);obtain⟨B,f,o,hall⟩:=mem_ready.1 Y;have b:=(mem_ready.1 W).1;have unl:∀k,listed.getD k true=false->listed.getD k false=true->False:=ψ
  have noedge:∀k ok,ops[k]? = some ok->listed.getD k true=false->dx f k=false:=λk ok hk Z=>by grind [cB]
  have noedge':∀k ok,ops[k]? = some ok->listed.getD k true=false->dx c k=false:=λk ok hk Z=>by grind [cB,Go.mem_ready]
  have G:j<m:=by
   rcases Nat.lt_or_ge j m with h|h
   ·exact h
   have C:=(C6.1 o).1;refine(unl i b (rE E V.back (V.tail j h C i ω) C λk hk=>?_)).elim
   grind [bM,cB]
  have hap:c.apart ops f=true:=by grind [Yh.apart]
  obtain⟨ap1,ap2,ap3⟩:=Oper.apart_spec hap;unfold AZ at A |-;rw[o]at A |-;simp only[CJ G]at A |-;have hdl:d∉f.looksAt ops:=ap1 d g.dst;have cd:∀t,(F t).uses d=false:=a.dst i c d w R b g.dst
  have cdj':∀l,f.dst=some l->∀t,(F t).uses l=false:=λl J=>a.dst j f l G o B J
  have cmv:∀s,u=some s->(∀t,(F t).uses s=false)/\s∉f.looksAt ops/\s∈c.looksAt ops:=λs X=>by
   obtain⟨L,⟨T,q⟩,r⟩:=g.mvl s X;exact⟨a.mv i c T s w R b L q r,λhl=>n ((iw r).2 i j c f R o (dw q) hl).symm,dw q⟩
  have cmvj:∀T s,f.guard=none->qF f.op=some (T,s)->kP ops f s=true->(∀t,(F t).uses s=false)/\s∉c.looksAt ops/\s∈f.looksAt ops:=λT s L q r=>
   ⟨a.mv j f T s G o B L q r,λhl=>n ((iw r).2 i j c f R o hl (dw q)).symm,dw q⟩
  have avno:∀e,e∉c.looksAt ops->(∀t,(F t).uses e=false)->av.uses e=false:=λe A h2=>by
   cases hu:av.uses e with
   | false=>rfl
   | true=>
    rcases g.from_ e hu with h|⟨t,_,h⟩
    all_goals grind
  obtain⟨mvj,l,avj,p,hKj⟩:=uG A (λl J t=>mj ψ (cdj' l J t)) (λT s L q r t=>by grind [mj]);have hdne:d≠l:=λe=>ap2 d g.dst (by rw[p.dst,e])
  have hdjl:l∉c.looksAt ops:=ap3 l p.dst;have cdj:∀t,(F t).uses l=false:=cdj' l p.dst
  have cmj:∀s,mvj=some s->(∀t,(F t).uses s=false)/\s∉c.looksAt ops/\s∈f.looksAt ops:=λs X=>by
   obtain⟨L,⟨T,q⟩,r⟩:=p.mvl s X
   grind
  have lookj:∀t,t∈f.looksAt ops->eff u d av F t=F t:=λt U=>by grind [eff]
  have looki:∀t,t∈c.looksAt ops->eff mvj l avj F t=F t:=λt U=>by grind [eff]
  have avjno:∀e,e∉f.looksAt ops->(∀t,(F t).uses e=false)->avj.uses e=false:=λe A h2=>by
   cases hu:avj.uses e with
   | false=>rfl
   | true=>
    rcases p.from_ e hu with h|⟨t,U,h⟩
    all_goals grind
  have agrj:jn (eff u d av F) F (f.looksAt ops):=λt U=>by grind [eff]
  refine p.at_ F agrj cdj ψ _ (ih (listed.setIfInBounds j true) (eff mvj l avj F) (ready_mono W (Ne.symm n)) (a.put (λj' o' d' M D y O Q=>?_) (λj' o' T s M D y O L q r=>?_)) (E.put Y) ?_ ?_)
  ·refine avjno d' (λh=>?_) (a.dst j' o' d' M y O Q)
   grind [Yh.look]
  ·exact avjno s (λh=>D ((iw r).2 j' j o' f y o (dw q) h)) (a.mv j' o' T s M y O L q r)
  ·refine⟨g.dst,g.lt,g.self,λe he=>?_,g.mvl,λF' hA Q hs' S hK=>g.at_ F' (λt U=>?_) Q hs' S hK⟩
   ·rcases g.from_ e he with h|⟨t,U,h⟩
    all_goals grind
   obtain⟨a1,a2⟩:=hA t U
   grind [eff]
  rw[Array.setIfInBounds_comm _ _ n];have:eff u d av (eff mvj l avj F)=eff mvj l avj (eff u d av F):=by grind [eff]
  grind
theorem jh{o:Op}{K a:AV->Prop}(h:dz P TE F o K)(b:∀av,K av->a av):dz P TE F o a:=by
 obtain⟨av,c,-,d⟩:=lU h
 grind [Cm]
theorem bv{a:(Nat->AV)->Prop}(h:cf N F d av K)(b:∀F',K F'->a F'):cf N F d av a:=by grind [cf]
variable{y:Operand}
theorem fo{K b:(Nat->AV)->Option Nat->List C->Prop}(h:iB F y K)(g:∀F' ag cs,K F' ag cs->b F' ag cs):iB F y b:=by
 cases y with
 | tmp t=>
  simp only[iB]at h |-;cases d:F t with
  | X k cs=>
   grind
  | c6 e f c ag=>
   rw[d]at h;cases c with
   | cons s c=>
    simp only at h |-;cases a:F e with
    | X k cs=>
     rw[a]at h;obtain⟨r,j,i,l,n,o⟩:=Lq.out h;exact .mk_ ψ
    | _=>grind
   | nil=>
    grind
  | _=>grind
 | _=>exact h.elim
variable{x:Operand}
theorem GC{K a:AV->Prop}(h:bO F x K)(b:∀av,K av->a av):bO F x a:=by
 obtain⟨av,c,-,d⟩:=lT h
 grind [Cm]
theorem MN{a:(Nat->AV)->Prop}(h:ns N F d x K)(j:∀F',K F'->a F'):ns N F d x a:=by
 have i:∀y,bO F y (λb=>cf N F d b K)->bO F y (λb=>cf N F d b a):=λy h=>GC h λb h=>bv h j
 have k:∀y,iB F y (λF' c e=>cf N F' d (.X (mi c) e) K)->iB F y (λF' c e=>cf N F' d (.X (mi c) e) a):=λy h=>fo h λF' c e h=>bv h j
 cases x with
 | tmp t=>
  grind [ns]
 | const v=>exact i (.const v) h
 | global g=>exact i (.global g) h
 | func f=>exact i (.func f) h
theorem UR{a:(Nat->AV)->Prop}(h:JP N F d x K)(b:∀F',K F'->a F'):JP N F d x a:=by grind [bv,MN,JP,QF]
variable{b:(Nat->AV)->Prop}
theorem Ha{cs:List C}(h:ve F x cs K)(d:∀F',K F'->b F'):ve F x cs b:=by
 cases x with
 | tmp t=>
  simp only[ve]at h |-;cases e:F t with
  | X k f=>
   grind [dG]
  | ref g i c=>
   rw[e]at h;cases c with
   | cons s c=>
    simp only at h |-;cases a:F g with
    | X k f=>
     rw[a]at h;obtain⟨r,j,l,n,o,p⟩:=Pu.out h;exact Pu.mk l n o rfl (d _ p)
    | _=>grind
   | nil=>
    grind [dG]
  | _=>grind
 | _=>exact h.elim
variable{T:Nat}
theorem BR{a:(Nat->AV)->Prop}(h:pM TE F T x y K)(b:∀F',K F'->a F'):pM TE F T x y a:=by
 unfold pM at h |-;split at h
 all_goals grind [cF,Cm,Ha,fo]
theorem MU{g:Option (Nat × Bool)}{K1 a K1' K0':(Nat->AV)->Prop}(h:gR F ops g K1 a)(h1:∀F,K1 F->K1' F)(b:∀F,a F->K0' F):gR F ops g K1' K0':=by
 unfold gR at h |-;split at h
 ·exact h1 _ h
 rename_i j want;split at h
 all_goals grind [Bf.out,Bf.in_]
theorem ya{K a:(Nat->AV)->Option Nat->List C->Prop}(h:zD F x K)(c:∀F' ag cs,K F' ag cs->a F' ag cs):zD F x a:=by
 obtain⟨ag,cs,d,b⟩:=cF h;refine b F (Cm _ _) _ ?_
 grind [fo]
theorem kT{c:Nat->Option (Nat × Nat)} : ∀{parts:List (Nat × Operand)}{cs:List C}{K a:(Nat->AV)->List C->Prop}{F:Nat->AV},fillW c parts cs K F->(∀F' cs,K F' cs->a F' cs)->fillW c parts cs a F
 | [],cs,K,a,F,h,b=>b _ _ h
 | p::rest,cs,K,a,F,h,b=>by
  simp only[fillW]at h |-;split at h
  case h_2=>exact h.elim
  rename_i q e;refine ya h λF' f xs h=>?_
  cases d:(Nat.beq xs.length q.2&&Nat.ble (q.1+q.2) cs.length) with
  | false=>grind
  | true=>
   rw[d]at h;simp only[cond_true,dG]at h |-;exact kT h b
variable{parts:List (Nat × Operand)}
theorem LV{a:(Nat->AV)->Prop}(h:nw TE N F d T parts K)(b:∀F',K F'->a F'):nw TE N F d T parts a:=by grind [kT,bv,nw]
theorem HT{n:Nat}{a:(Nat->AV)->Prop}(h:ir TE N F d T n parts K)(c:∀F',K F'->a F'):ir TE N F d T n parts a:=by
 obtain⟨e,f,h,b⟩:=iz h;refine b _ ?_
 grind [bv,dG,kT,sU]
theorem KN{K a:Bool->(Nat->AV)->List (List C)->Prop}(h:Js F y K)(c:∀b F' xr,K b F' xr->a b F' xr):Js F y a:=by
 unfold Js at h |-;split at h
 all_goals grind [fo,cF,Cm]
theorem Gn{K a:(Nat->AV)->List (List C)->Prop}(h:GR F x K)(c:∀F' xr,K F' xr->a F' xr):GR F x a:=by
 obtain⟨d,e,f,b⟩:=cF h;refine b F (Cm _ _) _ ?_
 grind [fo]
theorem Ti{a:(Nat->AV)->Prop}(h:GI TE N F d T x y K)(f:∀F',K F'->a F'):GI TE N F d T x y a:=by
 obtain⟨e,p,h,g⟩:=iz h;refine g _ (KN h λb F' q h=>Gn h λF'' c h=>?_);obtain⟨i,j,k,l,n,o⟩:=h.out;exact Cb i j k l n rfl (bv o f)
theorem MO{a:(Nat->AV)->Prop}(h:uA TE N F d T x K)(b:∀F',K F'->a F'):uA TE N F d T x a:=by
 unfold uA at h |-;split at h
 all_goals grind [fo,bv]
theorem Pn(h:kI N F d x K)(c:∀F',K F'->b F'):kI N F d x b:=by
 have std:∀{y:Operand},bO F y (λa=>cf N F d a K)->bO F y (λa=>cf N F d a b):=λh=>GC h λa h=>bv h c
 cases x with
 | tmp t=>
  simp only[kI]at h |-
  grind [bv]
 | const v=>grind [kI]
 | global g=>grind [kI]
 | func f=>grind [kI]
theorem Nc{a:(Nat->AV)->Prop}(h:yq N F d x K)(b:∀F',K F'->a F'):yq N F d x a:=by
 unfold yq at h |-;split at h
 case h_2=>exact h.elim
 split at h
 all_goals grind [Nt.out,Nt.mk,bv]
theorem LF{a:(Nat->AV)->Prop}(h:uv N F d x K)(b:∀F',K F'->a F'):uv N F d x a:=by
 unfold uv at h |-
 grind [bv]
variable{c:(Nat->AV)->Prop}
theorem TQ{b:Operand}(h:Ks TE N F d T x b K)(f:∀F',K F'->c F'):Ks TE N F d T x b c:=by
 unfold Ks at h |-;obtain⟨e,q,h,a⟩:=iz h;refine a _ ?_;obtain⟨n,g,i⟩:=nq h;refine i F (Cm _ _) _ (fo g λF' r t h=>?_);split at h
 case h_2=>exact h.elim
 obtain⟨m,y,j,k,l,o,p,h⟩:=h.out;exact .mk_ ⟨m,y,j,k,l,o,p,_,rfl,bv h f⟩
theorem U2{b:Operand}(h:LT TE N F d T x b K)(f:∀F',K F'->c F'):LT TE N F d T x b c:=by
 unfold LT at h |-;obtain⟨e,q,h,a⟩:=iz h;refine a _ ?_;obtain⟨n,g,i⟩:=nq h;refine i F (Cm _ _) _ (fo g λF' r t h=>?_);split at h
 case h_2=>exact h.elim
 obtain⟨m,y,j,k,l,o,p,h⟩:=h.out;exact .mk_ ⟨m,y,j,k,l,o,p,_,rfl,bv h f⟩
theorem MJ{b:Op}{f:(Nat->AV)->Prop}(h:kH P TE N d b K F)(a:∀F',K F'->f F'):kH P TE N d b f F:=by
 cases b with
 | assign x=>exact UR h a
 | box T x=>grind [ya,bv,kH,TN]
 | build T j=>exact LV h a
 | buildSlice T n j=>exact HT h a
 | range T x=>exact MO h a
 | move x=>exact Pn h a
 | next x str=>
  cases str with
  | true=>exact h.elim
  | false=>exact Nc h a
 | entry x=>exact LF h a
 | call c=>
  grind [jh,bv,Ti,kH]
 | slice T x g e i=>
  cases g with
  | some g=>
   cases e with
   | some _=>grind [jh,bv,kH]
   | none=>
    cases i with
    | some _=>grind [jh,bv,kH]
    | none=>grind [jh,bv,U2,kH]
  | none=>
   cases e with
   | none=>grind [jh,bv,kH]
   | some e=>
    cases i with
    | some _=>grind [jh,bv,kH]
    | none=>
     grind [jh,bv,TQ,kH]
 | _=>grind [jh,bv,kH]
theorem gu{off n:Nat}{st:cL}{K a:(Nat->AV)->List C->Prop}(h:lendAt F t off st n K)(b:∀F' cs,K F' cs->a F' cs):lendAt F t off st n a:=by
 unfold lendAt at h |-;split at h
 case h_2=>exact h.elim
 split at h
 ·grind [dG]
 obtain⟨r,j,c,d,e,f⟩:=Lq.out h;refine .mk_ ?_
 grind
theorem cC:∀{xs:List (Operand × Nat)}{K a:(Nat->AV)->List (MA × wn)->Prop}{F:Nat->AV},lendP xs K F->(∀F' l,K F' l->a F' l)->lendP xs a F
 | [],K,a,F,h,b=>b _ _ h
 | (x,0)::xs,K,a,F,h,b=>cC (xs:=xs) h ψ
 | (x,1)::xs,K,a,F,h,b=>by
  simp only[lendP]at h |-;split at h
  case h_2=>exact h.elim
  split at h
  ·exact gu h λF' c h=>cC h ψ
  ·exact gu h λF' c h=>cC h ψ
  ·exact gu h λF' c h=>cC h ψ
  exact h.elim
 | (x,n+2)::xs,K,a,F,h,b=>by
  simp only[lendP]at h |-;split at h
  case h_2=>exact h.elim
  split at h
  ·split at h
   ·exact cC h ψ
   exact h.elim
  ·exact cC h ψ
  exact h.elim
theorem kU:∀{l:List (MA × wn)}{xs:List Operand}{K a:Bool->List MA->Prop},valsP F l xs K->(∀b A,K b A->a b A)->valsP F l xs a
 | [],[],K,a,h,c=>c _ _ h
 | (m,.no)::l,x::xs,K,a,h,c=>by
  obtain⟨f,g,d,e⟩:=cF h;refine e F (Cm _ _) _ (kU d λb A h=>?_)
  grind
 | (m,.at_ t off st)::l,x::xs,K,a,h,c=>kU (l:=l) (xs:=xs) h ψ
 | (m,.box t)::l,x::xs,K,a,h,c=>kU (l:=l) (xs:=xs) h ψ
 | [],_::_,K,a,h,c=>h.elim
 | (m,.no)::l,[],K,a,h,c=>h.elim
 | (m,.at_ t off st)::l,[],K,a,h,c=>h.elim
 | (m,.box t)::l,[],K,a,h,c=>h.elim
theorem dK{K b:(Nat->AV)->Prop}(a:∀F',K F'->b F'):∀{l:List (MA × wn)}{B:List MA}{F:Nat->AV},jm l B K F->jm l B b F
 | [],[],F,h=>a _ h
 | [],_::_,F,h=>h.elim
 | (m,.no)::l,[],F,h=>h.elim
 | (m,.at_ t off st)::l,[],F,h=>h.elim
 | (m,.box t)::l,[],F,h=>h.elim
 | (m,.no)::l,.val _ _::B,F,h=>dK a (l:=l) (B:=B) h
 | (m,.no)::l,.mut _ _::B,F,h=>dK a (l:=l) (B:=B) h
 | (m,.no)::l,.ptr _::B,F,h=>dK a (l:=l) (B:=B) h
 | (m,.at_ t off st)::l,.val _ _::B,F,h=>h.elim
 | (m,.at_ t off st)::l,.ptr _::B,F,h=>h.elim
 | (m,.box t)::l,.val _ _::B,F,h=>h.elim
 | (m,.box t)::l,.mut _ _::B,F,h=>h.elim
 | (m,.at_ t off st)::l,.mut ag out::B,F,h=>by
  simp only[jm]at h |-;split at h
  case h_2=>exact h.elim
  split at h
  ·rename_i k c _ _
   cases d:Nat.ble (off+out.length) c.length with
   | false=>grind
   | true=>
    rw[d]at h;simp only[cond_true,dG]at h |-;exact dK a h
  obtain⟨r,j,e,f,g,i⟩:=Pu.out h;exact Pu.mk e f g rfl (dK a i)
 | (m,.box t)::l,.ptr out::B,F,h=>by
  simp only[jm]at h |-;split at h
  ·exact dK a h
  exact h.elim
variable{modes:List Nat}{args:List Operand}{f:Nat}
theorem Pi{d:Option Nat}{a:(Nat->AV)->Prop}(h:oo P N F d f args modes K)(j:∀F',K F'->a F'):oo P N F d f args modes a:=by
 unfold oo at h |-;refine cC h λF' l h=>?_
 cases c:(zV l&&Nat.beq args.length modes.length) with
 | false=>grind
 | true=>
  rw[c]at h;refine kU h λb A h=>?_
  obtain⟨n,B,k,rcs,e,g,i⟩:=cj.out h;refine CO e g (dK (λF'' h=>?_) i)
  grind [bv]
theorem n7{F:Nat->AV}{K a:Nat->Nat->Prop}(h:FC F x K)(b:∀t o,K t o->a t o):FC F x a:=by grind [wz,FC]
theorem RL{d:Option Nat}{cs:List C}{c a b:Nat}{f:(Nat->AV)->Prop}{k:Kd}{rcs:List C}{B:List MA}(h:Dn N F d t cs c a e b K k rcs B)(l:∀F',K F'->f F'):Dn N F d t cs c a e b f k rcs B:=by
 unfold Dn at h |-;split at h
 case h_2=>exact h.elim
 rename_i g i;cases j:(Nat.beq g.length a&&Nat.beq i.length b) with
 | false=>grind
 | true=>
  rw[j]at h;simp only[cond_true,dG]at h |-
  grind [bv]
theorem NZ{d:Option Nat}{a b:Nat}(h:mC P N F d f args a b K)(e:∀F',K F'->c F'):mC P N F d f args a b c:=by
 unfold mC at h |-;split at h
 case h_2=>exact h.elim
 refine n7 h λt g h=>n7 h λi j h=>?_
 split at h
 all_goals grind [dG,cj.out,CO,RL]
theorem vF{d:Option Nat}{a:(Nat->AV)->Prop}(h:mV P N F d f args modes K)(b:∀F',K F'->a F'):mV P N F d f args modes a:=by grind [NZ,Pi,mV]
theorem LD{off:Nat}{z:Int}{v:Value}{a:(Nat->AV)->Prop}(h:putMap F t off z v K)(f:∀F',K F'->a F'):putMap F t off z v a:=by
 unfold putMap at h |-;cases b:F t with
 | X k d=>
  rw[b]at h;simp only at h |-;cases e:d[off]? with
  | none=>grind
  | some c=>
   rw[e]at h;cases c with
   | m g=>
    simp only at h |-;have:=h.out;refine Mu.mk rfl ?_
    grind [dG]
   | _=>exact h.elim
 | _=>grind
theorem zo{v:Operand}(h:qK TE F T x y v K)(f:∀F',K F'->b F'):qK TE F T x y v b:=by
 unfold qK at h |-;split at h
 case h_2=>exact h.elim
 obtain⟨z,c,d⟩:=kJ h;refine d F (Cm F _) _ ?_;obtain⟨g,a,e⟩:=kJ c;refine e F (Cm F _) _ ?_;split at a
 case h_2=>exact a.elim
 split at a
 all_goals grind [LD]
theorem lW{a:(Nat->AV)->Prop}(h:kn P TE N ops o K F)(c:∀F',K F'->a F'):kn P TE N ops o a F:=by
 unfold kn at h |-;refine MU h (λF h=>?_) (λF h=>?_)
 ·split at h
  ·rename_i p _
   have lt:w6 P N F o.dst p.1 p.2.1 p.2.2 K->w6 P N F o.dst p.1 p.2.1 p.2.2 a:=λh=>vF h λF' h=>by grind [qU]
   cases b:TD N o.op with
   | false=>grind
   | true=>
    rw[b]at h;rcases h with h|h
    ·refine .pl ?_
     grind [BR,zo,MJ,mK]
    exact .lt (lt h)
  grind [BR,zo,MJ]
 grind [bv]
theorem Ji{m:Nat}(a:Yh ops m){K:(Nat->AV)->Prop}(hm:m<=ops.size):∀(l:List Oper)(k:Nat)(listed:Array Bool)(F:Nat->AV),(∀j,l[j]? = ops[k+j]?)->listed.size=ops.size->(∀j,j<ops.size->listed.getD j true=decide (j<k))->GX ops m F listed->DC ops listed->
  Ux P TE N ops (m - k) l K F->N2 P TE N ops m K l.length listed F
 | [],k,listed,F,C,L,b,_,_,i=>by
  have D:ops.size<=k:=by
   rcases Nat.lt_or_ge k ops.size with h|h
   ·have:=C 0;simp[h]at this
   exact h
  refine⟨?_,?_⟩
  ·apply List.eq_nil_iff_forall_not_mem.2
   grind [Go.mem_ready]
  cases M:m - k with
  | zero=>rw[M]at i;exact i
  | succ x=>omega
 | o::l,k,listed,F,C,L,b,c,n,i=>by
  have w:ops[k]? = some o:=by simpa using (C 0).symm
  have D:=(C6.1 w).1;have hready:k∈Region.ready .any ops listed:=mem_ready.2 ⟨by rw[b k D];simp,o,w,λe he hb=>by grind [Yh.back]⟩;have A:∀j,l[j]? = ops[k+1+j]?:=λj=>by have:=C (j+1);grind
  have r:∀j,j<ops.size->(listed.setIfInBounds k true).getD j true=decide (j<k+1):=λj O=>by
   by_cases y:j=k
   ·simp_all
   rw[getD_set_ne true (Ne.symm y),b j O]
   grind
  show N2 P TE N ops m K (l.length+1) listed F;by_cases f:k<m
  ·have e1:m - k=(m - (k+1))+1:=ω
   rw[e1]at i;obtain⟨mv,d,av,Q,i⟩:=uG (show o9 P TE N ops o (Ux P TE N ops (m - (k+1)) l K) F from i) (λd hd=>c.dst k o d f w (by rw[b k D];simp) hd) (λT s R S U=>c.mv k o T s f w (by rw[b k D];simp) R S U);refine Rn a w f l.length listed F hready c n Q (Ji a hm l (k+1) _ _ A (by simpa using L) r (c.put (λE G H p u q hl'' B=>?_) (λE G T s p u q hl'' R S U=>?_)) (n.put hready) i)
   ·cases V:av.uses H with
    | false=>rfl
    | true=>
     rcases Q.from_ H V with h|⟨t,_,h⟩
     ·have:=a.look E k G o H p f u q w B h
      grind [cB,Yh.back]
     rw[c.dst E G H p q hl'' B t]at h;cases h
   cases V:av.uses s with
   | false=>rfl
   | true=>
    rcases Q.from_ s V with h|⟨t,_,h⟩
    ·grind [iw,dw]
    rw[c.mv E G T s p q hl'' R S U t]at h;cases h
  refine⟨ψ,λj O=>?_⟩;have y:j=k:=by
   obtain⟨h1,oj,W,hall⟩:=mem_ready.1 O;have g:=(C6.1 W).1;rw[b j g]at h1;simp at h1;rcases Nat.lt_or_ge k j with X|hge
   ·exfalso
    have h2:=rE n a.back (a.tail j ω g k X) g λk' hk'=>by grind [bM,cB]
    grind
   omega
  subst y;unfold AZ;rw[w];simp only[CI f];have e0:m - j=0:=ω
  rw[e0]at i;have hp':kn P TE N ops o (Ry P TE N ops l K) F:=i;have Y:∀J,Ry P TE N ops l K J->N2 P TE N ops m K l.length (listed.setIfInBounds j true) J:=λJ Z=>
   Ji a hm l (j+1) _ J A (by simpa using L) r ⟨ψ,ψ⟩ (n.put hready) (by rw[show m - (j+1)=0 by omega];cases l<;>exact Z)
  grind [lW]
theorem St.clr(h:St w0 M S0 N F a w)(ds:List Nat):St w0 M S0 N (Ab.clr ds F) a w:=by
 obtain⟨S,φ,h⟩:=h;refine⟨S,φ,λt=>?_,h.dis,h.disS,h.ex,h.sub,h.sup,h.old,h.size,h.defers,h.par⟩;rw[JB];cases b:ds.any (λd=>(F t).uses d) with
 | true=>trivial
 | false=>
  simp only[cond_false];refine(h.slot t).keep (φ:=φ) (λt _ _ _=>h.slot t) (λc _=>⟨λk e f=>?_,rfl,λ_ _ _=>⟨rfl,rfl⟩⟩) (λ_ _ _=>⟨rfl,rfl⟩) (λ_ _ _=>⟨rfl,rfl⟩) (λ_ _ h=>h) (λ_ _ h=>h)
  grind [JB,AV.uses]
theorem J3(g:∀t i,TE t=some i->jo P t i)(E:P.follows .mixedOrders=true){id:Nat}{ds:List Nat}(b:((Nat.ble m ops.size&&below m λj=>match(dL ops j).dst with|some d=>ds.any (Nat.beq d)|none=>true)&&H0 ops m)=true)(G:Ux P TE N ops m ops.toList K (Ab.clr ds F))(H:St w0 M S0 N F a w)(J:∀F' u y,K F'->St w0 M S0 N F' u y->Q .normal u y):(Code.region id ops true).wp P Q a w:=by
 simp only[I0]at b;obtain⟨⟨A,L⟩,b⟩:=b;have c:m<=ops.size:=by simp_all
 refine wp_region_any E ?_;have l:St w0 M S0 N (Ab.clr ds F) a {w with drawn:=w.drawn+1}:=by
  have O:=H.clr ds;obtain⟨S,φ,h⟩:=O;exact⟨S,φ,h.more (w1:={w with drawn:=w.drawn+1}) (λ_ _ h=>h) ψ ⟨rfl,rfl,rfl,z5 _,λ_ _ _=>rfl,λ_ _ _ _=>rfl,λ_ _ _ _=>rfl⟩⟩
 refine Gv g (m:=m) J ops.size (Array.replicate ops.size false) _ a _ ?_ l;have R:∀d,ds.any (Nat.beq d)=true->∀t,(Ab.clr ds F t).uses d=false:=λd U t=>by
  rw[JB];cases Z:ds.any (λd=>(F t).uses d) with
  | true=>rfl
  | false=>
   simp_all
 have B:∀j o d,j<m->ops[j]? = some o->o.dst=some d->ds.any (Nat.beq d)=true:=λj o d f C U=>by grind [iO,bM]
 have D:=Kr b;have:=Ji (P:=P) (TE:=TE) (N:=N) D (K:=K) c ops.toList 0 (Array.replicate ops.size false) (Ab.clr ds F) (by simp) (by simp) (λj f=>by simp[f]) ⟨ψ,λj o T s f C _ _ _ V t=>by
   obtain⟨k,ok,n,W,X⟩:=(iw V).1;obtain⟨e,p,q,rfl⟩:=cB.1 n;have:=D.back j o C e p q
   grind⟩ (λj oj f Y=>by
   have r:=(C6.1 f).1;simp[r]at Y) G
 simpa using this
end
section
variable{P:Program}{w0 w w1:World}{M S0 S:am}{N:gk}{φ:Nat->am}{F:Nat->AV}{a:Act}{TE:Nat->Option TI}{ops:Array Oper}{ds:List Nat}{nm:Nat->Bool}
def XU(P:Program)(TE:Nat->Option TI)(ops:Array Oper)(p:Nat)(F:Nat->AV):Prop:=∃d,(dL ops p).dst=some d/\Qd F (dL ops p)=none/\dz P TE F (dL ops p).op λa=>a=F d
def zX(P:Program)(TE:Nat->Option TI)(N:gk)(ops:Array Oper)(ds:List Nat)(listed:Array Bool)(i:Nat)(K:(Nat->AV)->Prop)(F:Nat->AV):Prop:=
 match ops[i]? with
 | none=>K F
 | some o=>if uQ ds o=true then o9 P TE N ops o K F else kn P TE N ops o (λa=>(∀p,listed.getD p false=true->uQ ds (dL ops p)=true->Ag ops i p=false->XU P TE ops p a)/\K a) F
def M8(P:Program)(TE:Nat->Option TI)(N:gk)(ops:Array Oper)(ds:List Nat)(K:(Nat->AV)->Prop):Nat->Array Bool->(Nat->AV)->Prop
 | 0,listed,F=>Region.ready .any ops listed=[]/\K F
 | fuel+1,listed,F=>(Region.ready .any ops listed=[]->K F)/\∀i,i∈Region.ready .any ops listed->zX P TE N ops ds listed i (M8 P TE N ops ds K fuel (listed.setIfInBounds i true)) F
variable{Q:Exit->Act->World->Prop}{K:(Nat->AV)->Prop}{i:Nat}{listed:Array Bool}
theorem MM(c:∀t i,TE t=some i->jo P t i)(b:zX P TE N ops ds listed i K F)(g:St w0 M S0 N F a w){Kc:Act->World->Prop}(d:∀F' e f,K F'->St w0 M S0 N F' e f->Kc e f):wpOp P ops Q i Kc a w:=by
 unfold zX at b;unfold wpOp;cases j:ops[i]? with
 | none=>grind
 | some o=>
  rw[j]at b;simp only at b |-;obtain⟨S,φ,h⟩:=g;have:if Region.wanted o (yielded ops a.tmps) then o.wp P a w Kc Q else Kc (a.put o.dst undef) w:=by
   split at b
   ·exact h.oneP c b d
   exact h.one c (lW b λF' h=>h.2) d
  grind
def vN(b:∀t i,TE t=some i->jo P t i){K:(Nat->AV)->Prop}{Q:Exit->Act->World->Prop}(g:∀F' d e,K F'->St w0 M S0 N F' d e->Q .normal d e) :
  ∀(fuel:Nat)(listed:Array Bool)(F:Nat->AV)(a:Act)(w:World),M8 P TE N ops ds K fuel listed F->St w0 M S0 N F a w->wpAny P .any ops Q fuel listed a w
 | 0,_,F,a,w,c,f=>⟨c.1,g F a w c.2 f⟩
 | fuel+1,_,F,a,w,c,f=>⟨λj=>g F a w (c.1 j) f,λi k=>MM b (c.2 i k) f λF' d e l h=>vN b g fuel _ F' d e l h⟩
def co(ts:List Nat)(F F1:Nat->AV):Prop:=∀t e,(F1 t).uses e=true->e∈ts\/∃a,(F a).uses e=true
theorem co.refl(ts:List Nat)(F:Nat->AV):co ts F F:=λt _ h=>.inr ⟨t,h⟩
variable{F1:Nat->AV}{ts:List Nat}
theorem co.trans{F a:Nat->AV}(h1:co ts F F1)(h2:co ts F1 a):co ts F a:=λt e h=>by
 rcases h2 t e h with h|⟨b,h⟩
 ·exact .inl h
 exact h1 b e h
variable{d:Nat}
theorem co.clean(h:co ts F F1)(b:d∉ts)(c:∀t,(F t).uses d=false):∀t,(F1 t).uses d=false:=λt=>by
 cases a:(F1 t).uses d with
 | false=>rfl
 | true=>
  rcases h t d a with h|⟨e,h⟩
  all_goals grind
theorem co.put{ts:List Nat}{dj:Nat}{av:AV}(h:∀e,av.uses e=true->e∈ts\/∃b,(F b).uses e=true):co ts F (put F dj av):=λt e a=>by
 by_cases c:t=dj
 ·grind [tL]
 rw[jZ _ _ c]at a;exact .inr ⟨t,(WJ a).1⟩
variable{v:AV}{t e:Nat}
theorem Tv(h:(xJ t v).uses e=true):v.uses e=true:=by
 cases v with
 | c6 a b d f=>simp only[xJ]at h;cases c:Nat.beq a t<;>rw[c]at h<;>first|exact h|cases h
 | ref a b d=>cases d<;>simp only[xJ]at h<;>first|exact h|(cases c:Nat.beq a t<;>rw[c]at h<;>first|exact h|cases h)
 | _=>exact h
theorem co.updH{ts:List Nat}{t:Nat}{k:Kd}{cs:List C} : co ts F (updH F t k cs):=λs e a=>by
 unfold Ab.updH at a;cases b:Nat.beq s t with
 | true=>rw[b]at a;cases a
 | false=>grind [Tv]
theorem UQ(h:(VI t v).uses e=true):v.uses e=true:=by
 cases v with
 | c6 a b d f=>simp only[VI]at h;cases c:Nat.beq a t<;>rw[c]at h<;>first|exact h|cases h
 | ref a b d=>simp only[VI]at h;cases c:Nat.beq a t<;>rw[c]at h<;>first|exact h|cases h
 | _=>exact h
theorem co.kill{ts:List Nat}{t:Nat} : co ts F (kill F t):=λs e a=>by
 unfold Ab.kill at a;cases b:Nat.beq s t with
 | true=>rw[b]at a;cases a
 | false=>grind [UQ]
variable{av:AV}
theorem cw(h:t≠d):eff none d av F t=F t:=by grind [eff]
theorem pY{a:Option Nat} : eff a d av F d=av:=by grind [eff]
theorem Vr : eff none d (F d) F=F:=by grind [pY,cw]
theorem nN(a:d∉ts)(b:∀t,(F t).uses d=false):jn (eff none d av F) F ts:=λt c=>by grind [cw]
variable{dj:Nat}
theorem XC(a:dj≠d):put (eff none d v F) dj av=eff none d (kl dj v) (put F dj av):=by grind [tL,cw,jZ,pY]
variable{b:Kd}
theorem ru{a:List C}(c:t≠d):updH (eff none d v F) t b a=eff none d (xJ t v) (updH F t b a):=by grind [pY,Nat.beq_eq,cw,updH]
theorem DU{a:List C}(c:t≠d):updH F t b a d=xJ t (F d):=by grind [Nat.beq_eq,updH]
theorem PC{a:List C}(c:t≠d):updN (eff none d v F) t b a=eff none d (VE t v) (updN F t b a):=by grind [pY,Nat.beq_eq,cw,updN]
theorem KM{a:List C}(c:t≠d):updN F t b a d=VE t (F d):=by grind [Nat.beq_eq,updN]
theorem TL(h:(VE t v).uses e=true):v.uses e=true:=by
 cases v with
 | c6 b c a f=>
  cases a with
  | nil=>exact h
  | cons s a=>simp only[VE]at h;cases d:Nat.beq b t<;>rw[d]at h<;>first|exact h|cases h
 | ref b c a=>
  cases a with
  | nil=>exact h
  | cons s a=>simp only[VE]at h;cases d:Nat.beq b t<;>rw[d]at h<;>first|exact h|cases h
 | _=>exact h
theorem co.updN{ts:List Nat}{t:Nat}{k:Kd}{cs:List C} : co ts F (updN F t k cs):=λs e a=>by
 unfold Ab.updN at a;cases b:Nat.beq s t with
 | true=>rw[b]at a;cases a
 | false=>grind [TL]
def Fq(d:Nat)(ts:List Nat)(v:AV)(F:Nat->AV)(K:(Nat->AV)->Prop)(F1:Nat->AV):Prop:=∃a,(v=F d->a=F1 d)/\K (eff none d a F1)/\co ts F F1
def Zr(d:Nat)(ts:List Nat)(v:AV)(F:Nat->AV)(K:(Nat->AV)->Option Nat->List C->Prop)(F1:Nat->AV)(ag:Option Nat)(cs:List C):Prop:=∃a,(v=F d->a=F1 d)/\K (eff none d a F1) ag cs/\co ts F F1
def Fq.trans{v1:AV}{a:Nat->AV}(h1:v=F d->v1=F1 d)(b:co ts F F1)(h:Fq d ts v1 F1 K a):Fq d ts v F K a:=by
 obtain⟨c,f,g,i⟩:=h;exact⟨c,λe=>f (h1 e),g,b.trans i⟩
theorem iE(h:cf N (eff none d v F) dj av K)(a:dj≠d)(b:∀e,av.uses e=true->e∈ts\/∃c,(F c).uses e=true):cf N F dj av (Fq d ts v F K):=by
 unfold cf at h |-;cases f:(N.free dj&&!av.uses dj) with
 | false=>grind
 | true=>
  rw[f]at h;simp only[cond_true]at h |-;rw[XC a]at h;exact⟨kl dj v,λe=>by grind [jZ],h,co.put b⟩
variable{cs:List C}{k:Kd}
def jG : ∀e,(AV.X k cs).uses e=true->e∈ts\/∃a,(F a).uses e=true:=λe h=>by cases h
theorem Jp{p:(Nat->AV)->(AV->Prop)->Prop}{ts0:List Nat}(h:sH p (eff none d v F) ts0 λav=>cf N (eff none d v F) dj av K)(a:dj≠d)(j:∀t,t∈ts0->t∈ts)(k:d∉ts)(b:∀t,(F t).uses d=false) :
  p F λav=>cf N F dj av (Fq d ts v F K):=by
 obtain⟨av,c,f,g⟩:=h;refine g F (nN ψ b) _ (iE c a λe i=>?_);rcases f e i with h|⟨t,l,h⟩
 all_goals grind [cw]
variable{y:Operand}
theorem qV{K:(Nat->AV)->Option Nat->List C->Prop}(h:iB (eff none d v F) y K)(n:d∉tm y)(o:∀t,(F t).uses d=false):iB F y (Zr d ts v F K):=by
 have fin:∀{t:Nat}{k:Kd}{b:List C}{a:Option Nat}{xs:List C},t≠d->K (updH (eff none d v F) t k b) a xs->Zr d ts v F K (updH F t k b) a xs:=fun {t k b a xs} c h=>by
  rw[ru c]at h;exact⟨_,λe=>by rw[DU c,e],h,co.updH⟩
 have EC:∀{t:Nat}{k:Kd}{b:List C}{a:Option Nat}{xs:List C},t≠d->K (updN (eff none d v F) t k b) a xs->Zr d ts v F K (updN F t k b) a xs:=fun {t k b a xs} c h=>by
  rw[PC c]at h;exact⟨_,λe=>by rw[KM c,e],h,co.updN⟩
 cases y with
 | tmp t=>
  have c:t≠d:=λe=>n (by simp[tm,e])
  simp only[iB]at h |-;rw[cw c]at h;cases g:F t with
  | X p q=>
   grind
  | c6 i u l a=>
   rw[g]at h;have w:i≠d:=λe=>by have:=o t;rw[g,e]at this;simp[AV.uses]at this
   cases l with
   | cons s l=>
    simp only at h |-;rw[cw w]at h;cases f:F i with
    | X p q=>
     rw[f]at h;obtain⟨r,j,A,B,D,E⟩:=Lq.out h;exact .mk_ ψ
    | _=>grind
   | nil=>
    grind [cw]
  | _=>grind
 | _=>exact h.elim
theorem WH{K:(Nat->AV)->Option Nat->List C->Prop}(h:zD (eff none d v F) y K)(b:d∉tm y)(c:∀t,(F t).uses d=false):zD F y (Zr d ts v F K):=by
 obtain⟨i,xs,a,f⟩:=cF h;refine f F (nN b c) _ ?_;cases g:bu xs with
 | true=>rw[g]at a;exact⟨v,λe=>e,a,co.refl _ _⟩
 | false=>grind [qV]
def ZU(d:Nat)(ts:List Nat)(v:AV)(F:Nat->AV)(K:(Nat->AV)->List C->Prop)(F1:Nat->AV)(cs:List C):Prop:=∃a,(v=F d->a=F1 d)/\K (eff none d a F1) cs/\co ts F F1
theorem Bk{d:Nat}{ts:List Nat}{c:Nat->Option (Nat × Nat)}(a:d∉ts):∀{parts:List (Nat × Operand)}{cs:List C}{K:(Nat->AV)->List C->Prop}{F:Nat->AV}{v:AV},fillW c parts cs K (eff none d v F)->(∀p,p∈parts->d∉tm p.2)->(∀t,(F t).uses d=false)->
  fillW c parts cs (ZU d ts v F K) F
 | [],cs,K,F,v,h,_,b=>⟨v,λe=>e,h,co.refl _ _⟩
 | p::rest,cs,K,F,v,h,r,b=>by
  simp only[fillW]at h |-;split at h
  case h_2=>exact h.elim
  rename_i q u;refine ya (WH (ts:=ts) h ψ b) λw y xs h=>?_
  obtain⟨A,g,h,f⟩:=h;cases i:(Nat.beq xs.length q.2&&Nat.ble (q.1+q.2) cs.length) with
  | false=>grind
  | true=>
   rw[i]at h;simp only[cond_true,dG]at h |-;refine kT (Bk a h ψ (f.clean a b)) λB cs2 j=>?_
   obtain⟨k,l,n,o⟩:=j;exact⟨k,λe=>l (g e),n,f.trans o⟩
variable{parts:List (Nat × Operand)}{T:Nat}
theorem Th(h:nw TE N (eff none d v F) dj T parts K)(a:dj≠d)(b:d∉ts)(c:∀p,p∈parts->d∉tm p.2)(e:∀t,(F t).uses d=false) :
  nw TE N F dj T parts (Fq d ts v F K):=by
 unfold nw at h |-;split at h
 case h_2=>exact h.elim
 rename_i size bytes zero flds k;cases f:Jd TE flds with
 | false=>grind
 | true=>
  rw[f]at h;refine kT (Bk b h c e) λl n h=>?_
  obtain⟨o,g,h,i⟩:=h;exact bv (iE (ts:=ts) h a jG) λq j=>Fq.trans g i j
variable{n:Nat}
theorem Ng(h:ir TE N (eff none d v F) dj T n parts K)(a:dj≠d)(c:d∉ts)(f:∀p,p∈parts->d∉tm p.2)(g:∀t,(F t).uses d=false) :
  ir TE N F dj T n parts (Fq d ts v F K):=by
 unfold ir at h |-;obtain⟨e,i,h,b⟩:=iz h;refine b _ ?_;cases j:Nat.ble (n*i.size) 16777216 with
 | false=>grind
 | true=>
  rw[j]at h;simp only[cond_true]at h |-;cases n with
  | zero=>
   cases parts with
   | nil=>exact iE h a jG
   | cons=>exact h.elim
  | succ n=>
   simp only[dG]at h |-;refine kT (Bk c h f g) λq r h=>?_
   obtain⟨u,k,h,l⟩:=h;rw[sU]at h |-;exact bv (iE (ts:=ts) h a jG) λw o=>Fq.trans k l o
theorem UU(h:kI N (eff none d v F) dj (.tmp t) K)(a:dj≠d)(c:d∉ts)(l:t∈ts)(g:∀t,(F t).uses d=false):kI N F dj (.tmp t) (Fq d ts v F K):=by
 have b:t≠d:=ψ
 have std:bO (eff none d v F) (.tmp t) (λf=>cf N (eff none d v F) dj f K)->bO F (.tmp t) (λf=>cf N F dj f (Fq d ts v F K)):=λh=>
  Jp (p:=λF K=>bO F (.tmp t) K) (lT h) a (λn o=>by grind [tm]) c g
 simp only[kI]at h |-;rw[cw b]at h;split at h
 ·rename_i i xs q
  cases j:bu xs with
  | true=>grind [iE]
  | false=>
   rw[j]at h;simp only[cond_false]at h |-;rw[ru b]at h;exact bv (iE (ts:=ts) h a jG) λr k=>Fq.trans (F1:=updH F t (.tup i) _) (λe=>by grind [DU]) co.updH k
 all_goals exact std h
variable{x:Operand}
theorem X5{b:Operand}(h:Ks TE N (eff none d v F) dj T x b K)(c:dj≠d)(f:d∉tm x)(g:d∉tm b)(j:∀t,(F t).uses d=false):Ks TE N F dj T x b (Fq d ts v F K):=by
 unfold Ks at h |-;obtain⟨e,A,h,a⟩:=iz h;refine a _ ?_;obtain⟨n,k,i⟩:=nq h;refine i F (nN g j) _ ?_;refine fo (qV (ts:=ts) k f j) λB C D h=>?_
 obtain⟨E,l,h,o⟩:=h;split at h
 case h_2=>exact h.elim
 obtain⟨m,y,p,q,r,u,w,h⟩:=h.out;exact .mk_ ⟨m,y,p,q,r,u,w,_,rfl,bv (iE (ts:=ts) h c jG) λG i=>Fq.trans l o i⟩
theorem Yf{b:Operand}(h:LT TE N (eff none d v F) dj T x b K)(c:dj≠d)(f:d∉tm x)(g:d∉tm b)(j:∀t,(F t).uses d=false):LT TE N F dj T x b (Fq d ts v F K):=by
 unfold LT at h |-;obtain⟨e,A,h,a⟩:=iz h;refine a _ ?_;obtain⟨n,k,i⟩:=nq h;refine i F (nN g j) _ ?_;refine fo (qV (ts:=ts) k f j) λB C D h=>?_
 obtain⟨E,l,h,o⟩:=h;split at h
 case h_2=>exact h.elim
 obtain⟨m,y,p,q,r,u,w,h⟩:=h.out;exact .mk_ ⟨m,y,p,q,r,u,w,_,rfl,bv (iE (ts:=ts) h c jG) λG i=>Fq.trans l o i⟩
theorem Tn(h:ns N (eff none d v F) dj x K)(a:dj≠d)(j:d∉ts)(k:∀t,t∈tm x->t∈ts)(o:∀t,(F t).uses d=false):ns N F dj x (Fq d ts v F K):=by
 have l:∀y,(∀t,t∈tm y->t∈ts)->bO (eff none d v F) y (λn=>cf N (eff none d v F) dj n K)->bO F y (λn=>cf N F dj n (Fq d ts v F K)):=λy q h=>Jp (p:=λF K=>bO F y K) (lT h) a q j o
 have A:∀y,(∀t,t∈tm y->t∈ts)->iB (eff none d v F) y (λb e i=>cf N b dj (.X (mi e) i) K)->iB F y (λb e i=>cf N b dj (.X (mi e) i) (Fq d ts v F K)):=λy q h=>
  fo (qV (ts:=ts) h ψ o) λb e i h=>by
   obtain⟨B,r,h,u⟩:=h;exact bv (iE (ts:=ts) h a jG) λC w=>Fq.trans r u w
 cases x with
 | tmp t=>
  grind [cw,tm,ns]
 | const c=>exact l (.const c) k h
 | global g=>exact l (.global g) k h
 | func f=>exact l (.func f) k h
theorem JJ(a:t≠d):kill (eff none d v F) t=eff none d (VI t v) (kill F t):=by grind [pY,ou,cw,ul]
theorem Yp(h:JP N (eff none d v F) dj x K)(a:dj≠d)(c:d∉ts)(j:∀t,t∈tm x->t∈ts)(l:∀t,(F t).uses d=false):JP N F dj x (Fq d ts v F K):=by
 have f:Lo N (eff none d v F) dj x=Lo N F dj x:=by
  cases x with
  | tmp t=>
   grind [cw,tm,Lo]
  | _=>rfl
 unfold JP at h |-;cases b:Ur N dj x with
 | true=>
  rw[b]at h;simp only[cond_true]at h |-;exact iE (ts:=ts) h a jG
 | false=>
 rw[b]at h;simp only[cond_false]at h |-;unfold QF at h |-;rw[f]at h;cases i:Lo N F dj x with
 | none=>grind [Tn]
 | some p=>
  rw[i]at h;simp only at h |-;obtain⟨rfl,n⟩:=GY i;have g:p.1≠d:=λe=>c (e ▸ j p.1 (by simp[tm]))
  rw[JJ g]at h;exact bv (iE (ts:=ts) h a jG) λo k=>Fq.trans (F1:=kill F p.1) (λe=>by grind [ou]) co.kill k
theorem PG(h:ve (eff none d v F) x cs K)(l:d∉tm x)(n:∀t,(F t).uses d=false):ve F x cs (Fq d ts v F K):=by
 have fin:∀{t:Nat}{k:Kd}{cs:List C},t≠d->K (updH (eff none d v F) t k cs)->Fq d ts v F K (updH F t k cs):=fun {t k cs} a h=>by
  rw[ru a]at h;exact⟨_,λe=>by rw[DU a,e],h,co.updH⟩
 have EC:∀{t:Nat}{k:Kd}{cs:List C},t≠d->K (updN (eff none d v F) t k cs)->Fq d ts v F K (updN F t k cs):=fun {t k cs} a h=>by
  rw[PC a]at h;exact⟨_,λe=>by rw[KM a,e],h,co.updN⟩
 have finP:∀{t:Nat}{k:Kd}{cs:List C},t≠d->K (Xc (eff none d v F) t k cs)->Fq d ts v F K (Xc F t k cs):=fun {t k cs} a h=>by
  cases k with
  | box=>exact fin a h
  | _=>exact EC a h
 cases x with
 | tmp t=>
  have a:t≠d:=λe=>l (by simp[tm,e])
  simp only[ve]at h |-;rw[cw a]at h;cases c:F t with
  | X k o=>
   grind [dG]
  | ref f p g=>
   rw[c]at h;have i:f≠d:=λe=>by have:=n t;rw[c,e]at this;simp[AV.uses]at this
   cases g with
   | cons s g=>
    simp only at h |-;rw[cw i]at h;cases b:F f with
    | X k o=>
     rw[b]at h;obtain⟨r,j,q,u,w,y⟩:=Pu.out h;exact Pu.mk q u w rfl (finP i y)
    | _=>grind
   | nil=>
    grind [cw,dG]
  | _=>grind
 | _=>exact h.elim
theorem U5(h:pM TE (eff none d v F) T x y K)(b:d∉ts)(n:d∉tm x)(j:d∉tm y)(c:∀t,(F t).uses d=false):pM TE F T x y (Fq d ts v F K):=by
 unfold pM at h |-;split at h
 ·rename_i i r
  obtain⟨u,k,a,e⟩:=cF h;refine e F (nN j c) _ ?_;cases o:Nat.beq k.length i.size with
  | false=>grind
  | true=>
   rw[o]at a;simp only[cond_true]at a |-;cases p:bu k with
   | true=>grind [PG]
   | false=>
    rw[p]at a;simp only[cond_false]at a |-;refine fo (qV (ts:=ts) a j c) λw q f h=>?_
    obtain⟨A,a,h,l⟩:=h;cases g:Nat.beq f.length i.size with
    | false=>grind
    | true=>rw[g]at h;exact Ha (PG (ts:=ts) h n (l.clean b c)) λB e=>Fq.trans a l e
 exact h.elim
def Ys(a:d∉tm y):qE (eff none d v F) y=qE F y:=by
 cases y with
 | tmp t=>exact cw λe=>a (by simp[tm,e])
 | _=>rfl
theorem X7{K:Bool->(Nat->AV)->List (List C)->Prop}(h:Js (eff none d v F) y K)(b:d∉tm y)(c:∀t,(F t).uses d=false):Js F y λe F1 rows=>∃v1,(v=F d->v1=F1 d)/\K e (eff none d v1 F1) rows/\co ts F F1:=by
 have a:=Ys (F:=F) (v:=v) b;unfold Js at h |-;rw[a]at h;split at h
 ·refine fo (qV (ts:=ts) h b c) λF1 f g h=>?_
  obtain⟨v1,i,h,j⟩:=h
  grind
 grind [cF,nN,co.refl]
theorem VK{K:(Nat->AV)->List (List C)->Prop}(h:GR (eff none d v F) y K)(b:d∉tm y)(c:∀t,(F t).uses d=false):GR F y λF1 rows=>∃v1,(v=F d->v1=F1 d)/\K (eff none d v1 F1) rows/\co ts F F1:=by
 obtain⟨e,xs,a,f⟩:=cF h;refine f F (nN b c) _ ?_;split at a
 ·grind [co.refl]
 ·refine fo (qV (ts:=ts) a b c) λF1 e g h=>?_
  obtain⟨v1,a,h,i⟩:=h
  grind
 exact a.elim
theorem WS(h:GI TE N (eff none d v F) dj T x y K)(b:dj≠d)(c:d∉ts)(j:d∉tm x)(k:d∉tm y)(f:∀t,(F t).uses d=false):GI TE N F dj T x y (Fq d ts v F K):=by
 obtain⟨e,B,h,a⟩:=iz h;refine a _ (KN (X7 (ts:=ts) h k f) λC D E h=>?_);obtain⟨G,l,h,g⟩:=h;refine Gn (VK (ts:=ts) h j (g.clean c f)) λH i h=>?_
 obtain⟨J,n,h,o⟩:=h;obtain⟨p,q,r,u,w,h⟩:=Ap.out h;refine Cb p q r u w rfl (bv (iE (ts:=ts) h b jG) λL A=>?_);exact Fq.trans l g (Fq.trans n o A)
theorem Uc{f:Oper}(E:f.guard=none)(g:Xm f.op=true)(k:f.dst≠some d)(A:d∉f.looksAt ops)(B:∀t,(F t).uses d=false)(h:kn P TE N ops f K (eff none d v F)) :
  kn P TE N ops f (Fq d (f.looksAt ops) v F K) F:=by
 unfold kn gR at h |-;rw[E]at h |-;simp only at h |-;have j:∀t,t∈dS f.op->t∈f.looksAt ops:=λt l=>jM f t l
 have pur:∀b,b≠d->dz P TE (eff none d v F) f.op (λq=>cf N (eff none d v F) b q K)->dz P TE F f.op λq=>cf N F b q (Fq d (f.looksAt ops) v F K):=λb k h=>
  Jp (p:=λF K=>dz P TE F f.op K) (lU h) k j A B
 have dne:∀b,f.dst=some b->b≠d:=ψ
 have tmI:∀x,x∈f.op.operands.toList->∀t,t∈tm x->t∈f.looksAt ops:=λx G t l=>j t (List.mem_flatMap.2 ⟨x,G,l⟩)
 cases e:f.op with
 | store T x y=>
  rw[e]at h tmI;simp only[FD]at h |-;cases a:f.dst with
  | some b=>rw[a]at h;simp only[kH]at h;exact h.elim
  | none=>
   grind [U5,Go.Op.operands]
 | move x=>
  rw[e]at h tmI;cases a:f.dst with
  | none=>rw[a]at h;exact h.elim
  | some b=>
   rw[a]at h;cases x with
   | tmp t=>
    simp only[FD,kH]at h |-;exact UU h (dne b a) A (tmI (.tmp t) (by simp[Op.operands]) t (by simp[tm])) B
   | _=>rw[e]at g;cases g
 | assign x=>
  rw[e]at h tmI
  grind [Yp,FD,kH,Go.Op.operands]
 | build T H=>
  rw[e]at h tmI
  grind [Th,FD,kH,Go.Op.operands]
 | buildSlice T n H=>
  rw[e]at h tmI
  grind [Ng,FD,kH,Go.Op.operands]
 | extract x i=>rw[e]at h pur;cases a:f.dst with|none=>rw[a]at h;exact h.elim|some b=>rw[a]at h;exact pur b (dne b a) h
 | load T x=>rw[e]at h pur;cases a:f.dst with|none=>rw[a]at h;exact h.elim|some b=>rw[a]at h;exact pur b (dne b a) h
 | fieldAddr T x i=>rw[e]at h pur;cases a:f.dst with|none=>rw[a]at h;exact h.elim|some b=>rw[a]at h;exact pur b (dne b a) h
 | field T x i=>rw[e]at h pur;cases a:f.dst with|none=>rw[a]at h;exact h.elim|some b=>rw[a]at h;exact pur b (dne b a) h
 | binOp o T x y L=>rw[e]at h pur;cases a:f.dst with|none=>rw[a]at h;exact h.elim|some b=>rw[a]at h;exact pur b (dne b a) h
 | unOp o T x=>rw[e]at h pur;cases a:f.dst with|none=>rw[a]at h;exact h.elim|some b=>rw[a]at h;exact pur b (dne b a) h
 | call c=>
  rw[e]at g h tmI;cases J:vo c with
  | none=>grind [Xm]
  | some p=>
   have r:=D1 J;subst r;cases a:f.dst with
   | none=>rw[a]at h;exact h.elim
   | some b=>
    grind [WS,FD,kH,Go.Op.operands,Go.Call.operands]
 | slice T x C u D=>
  rw[e]at g h tmI pur;cases C with
  | some C=>
   cases u with
   | some _=>cases g
   | none=>
    cases D with
    | some _=>cases g
    | none=>
     cases a:f.dst with
     | none=>rw[a]at h;exact h.elim
     | some b=>
      rw[a]at h;simp only[FD,kH]at h |-;cases w:Yy N b with
      | false=>simp_all
      | true=>
       grind [Yf,Go.Op.operands]
  | none=>
   cases u with
   | none=>cases g
   | some u=>
    cases D with
    | some _=>cases g
    | none=>
     cases a:f.dst with
     | none=>rw[a]at h;exact h.elim
     | some b=>
      rw[a]at h;simp only[FD,kH]at h |-;cases w:Yy N b with
      | false=>simp_all
      | true=>
       grind [X5,Go.Op.operands]
 | _=>rw[e]at g;cases g
theorem XB{a:Oper}(c:a.guard=none)(f:Xm a.op=true)(b:a.dst≠some d)(g:d∉a.looksAt ops)(i:∀t,(F t).uses d=false)(h:kn P TE N ops a K F) :
  kn P TE N ops a (λF1=>K F1/\co (a.looksAt ops) F F1) F:=by
 refine lW (Uc (d:=d) (v:=F d) c f b g i (by rw[Vr];exact h)) λF1 j=>?_
 obtain⟨k,e,l,u⟩:=j
 grind [Vr]
theorem co.setH{ts:List Nat}{t:Nat}{k:Kd}{cs:List C} : co ts F (setH F t (.X k cs)):=λs e a=>by
 unfold Ab.setH at a;cases b:Nat.beq s t with
 | true=>rw[b]at a;cases a
 | false=>grind
variable{rcs:List C}
theorem Qn(h:cf N F d (.X k rcs) K):cf N F d (.X k rcs) λF1=>K F1/\co ts F F1:=by
 unfold cf at h |-;cases a:(N.free d&&!(AV.X k rcs).uses d) with
 | false=>grind
 | true=>rw[a]at h;exact⟨h,co.put λe b=>by cases b⟩
theorem yd{off:Nat}{st:cL}{K:(Nat->AV)->List C->Prop}(h:lendAt F t off st n K):lendAt F t off st n λF1 cs=>K F1 cs/\co ts F F1:=by
 unfold lendAt at h |-;split at h
 all_goals grind [dG,co.updH]
def om{ts:List Nat} : ∀{xs:List (Operand × Nat)}{K:(Nat->AV)->List (MA × wn)->Prop}{F:Nat->AV},lendP xs K F->lendP xs (λF1 l=>K F1 l/\co ts F F1) F
 | [],K,F,h=>⟨h,co.refl _ _⟩
 | (x,0)::xs,K,F,h=>om (xs:=xs) h
 | (x,1)::xs,K,F,h=>by
  simp only[lendP]at h |-;split at h
  case h_2=>exact h.elim
  split at h
  ·exact gu (yd (ts:=ts) h) λF1 c h=>cC (om (ts:=ts) h.1) λb l a=>⟨a.1,h.2.trans a.2⟩
  ·exact gu (yd (ts:=ts) h) λF1 c h=>cC (om (ts:=ts) h.1) λb l a=>⟨a.1,h.2.trans a.2⟩
  ·exact gu (yd (ts:=ts) h) λF1 c h=>cC (om (ts:=ts) h.1) λb l a=>⟨a.1,h.2.trans a.2⟩
  exact h.elim
 | (x,n+2)::xs,K,F,h=>by
  simp only[lendP]at h |-;split at h
  case h_2=>exact h.elim
  split at h
  ·split at h
   ·exact cC (om (ts:=ts) h) λb l a=>⟨a.1,co.kill.trans a.2⟩
   exact h.elim
  ·exact cC (om (ts:=ts) h) λb l a=>⟨a.1,co.kill.trans a.2⟩
  exact h.elim
theorem nM{ts:List Nat}{K:(Nat->AV)->Prop} : ∀{l:List (MA × wn)}{B:List MA}{F:Nat->AV},jm l B K F->jm l B (λF1=>K F1/\co ts F F1) F
 | [],[],F,h=>⟨h,co.refl _ _⟩
 | [],_::_,F,h=>h.elim
 | (m,.no)::l,[],F,h=>h.elim
 | (m,.at_ t off st)::l,[],F,h=>h.elim
 | (m,.box t)::l,[],F,h=>h.elim
 | (m,.no)::l,.val _ _::B,F,h=>nM (l:=l) (B:=B) h
 | (m,.no)::l,.mut _ _::B,F,h=>nM (l:=l) (B:=B) h
 | (m,.no)::l,.ptr _::B,F,h=>nM (l:=l) (B:=B) h
 | (m,.at_ t off st)::l,.val _ _::B,F,h=>h.elim
 | (m,.at_ t off st)::l,.ptr _::B,F,h=>h.elim
 | (m,.box t)::l,.val _ _::B,F,h=>h.elim
 | (m,.box t)::l,.mut _ _::B,F,h=>h.elim
 | (m,.at_ t off st)::l,.mut ag out::B,F,h=>by
  simp only[jm]at h |-;split at h
  case h_2=>exact h.elim
  split at h
  ·rename_i k c _ _
   cases d:Nat.ble (off+out.length) c.length with
   | false=>grind
   | true=>
    rw[d]at h;simp only[cond_true,dG]at h |-;exact dK (λb a=>⟨a.1,co.updH.trans a.2⟩) (nM (ts:=ts) h)
  obtain⟨r,j,e,f,g,i⟩:=Pu.out h;exact Pu.mk e f g rfl (dK (λb a=>⟨a.1,co.updH.trans a.2⟩) (nM (ts:=ts) i))
 | (m,.box t)::l,.ptr out::B,F,h=>by
  simp only[jm]at h |-;split at h
  ·exact dK (λb a=>⟨a.1,co.setH.trans a.2⟩) (nM (ts:=ts) h)
  exact h.elim
variable{modes:List Nat}{args:List Operand}{f:Nat}
theorem Vz{d:Option Nat}(h:oo P N F d f args modes K):oo P N F d f args modes λF1=>K F1/\co ts F F1:=by
 unfold oo at h |-;refine cC (om (ts:=ts) h) λn l h=>?_
 obtain⟨h,c⟩:=h;cases e:(zV l&&Nat.beq args.length modes.length) with
 | false=>grind
 | true=>
  rw[e]at h;refine kU h λb A h=>?_
  obtain⟨o,B,k,rcs,g,a,i⟩:=cj.out h;refine CO g a (dK (λF'' h=>?_) (nM (ts:=ts) i));obtain⟨h,j⟩:=h;cases d with
  | none=>grind [co.trans]
  | some d=>exact bv (Qn (ts:=ts) h) λp a=>⟨a.1,(c.trans j).trans a.2⟩
theorem Wv{d:Option Nat}{c a b:Nat}{B:List MA}(h:Dn N F d t cs c a e b K k rcs B):Dn N F d t cs c a e b (λF1=>K F1/\co ts F F1) k rcs B:=by
 unfold Dn at h |-;split at h
 case h_2=>exact h.elim
 rename_i g i;cases j:(Nat.beq g.length a&&Nat.beq i.length b) with
 | false=>grind
 | true=>
  rw[j]at h;simp only[cond_true,dG]at h |-;cases d with
  | none=>exact⟨h,co.kill.trans co.setH⟩
  | some d=>exact bv (Qn (ts:=ts) h) λl f=>⟨f.1,(co.kill.trans co.setH).trans f.2⟩
theorem U6{d:Option Nat}{a b:Nat}(h:mC P N F d f args a b K):mC P N F d f args a b λF1=>K F1/\co ts F F1:=by
 unfold mC at h |-;split at h
 case h_2=>exact h.elim
 refine n7 h λt e h=>n7 h λg c h=>?_
 split at h
 case h_2=>exact h.elim
 rename_i i p;cases j:(Nat.beq g t&&Nat.ble (e+a) c&&Nat.ble (c+b) i.length) with
 | false=>grind
 | true=>
  rw[j]at h;simp only[cond_true,dG]at h |-;obtain⟨q,B,k,rcs,l,n,o⟩:=cj.out h;exact CO l n (Wv o)
def T5{d:Option Nat}(h:mV P N F d f args modes K):mV P N F d f args modes λF1=>K F1/\co ts F F1:=by
 unfold mV at h |-;split
 ·rename_i p a;rw[a]at h;exact U6 h
 rename_i a;rw[a]at h;exact Vz h
variable{s:Nat}
theorem Yt{dj:Option Nat}{a:Nat->AV}(u:co ts F a):co ts F (rv1 F dj s a):=by
 unfold rv1;split
 case h_2=>exact u
 rename_i t c f;cases g:(dne dj s&&dne dj t) with
 | false=>exact u
 | true=>
  simp only[cond_true];split
  case h_2=>exact u
  split
  case h_2=>exact u
  intro q e b;by_cases d:q=s
  ·grind [uL]
  rw[gK _ _ d]at b;exact u q e b
theorem Pc{ts:List Nat}{dj:Option Nat} : ∀{l:List Nat}{a:Nat->AV},co ts F a->co ts F (rvE F dj l a)
 | [],_,u=>u
 | _::l,_,u=>Pc (l:=l) (Yt u)
theorem Wc{a:Oper}(k:a.guard=none)(i:te a.op=true)(h:kn P TE N ops a K F):kn P TE N ops a (λF1=>K F1/\co (a.looksAt ops) F F1) F:=by
 have pur:∀d,a.dst=some d->dz P TE F a.op (λg=>cf N F d g K)->dz P TE F a.op λg=>cf N F d g λF1=>K F1/\co (a.looksAt ops) F F1:=λd l h=>by
  have n:iI P TE N ops a K F:=by grind [iI,gR]
  obtain⟨y,g,j,o⟩:=Eu n;have b:=j.dst;rw[l]at b;simp only[C2]at b;subst b;have A:=j.at_ F (Cm _ _) (λF1=>K F1/\co (a.looksAt ops) F F1) ⟨o,co.put λe q=>(j.from_ e q).imp id ψ⟩
  grind [iI,gR]
 unfold kn gR at h |-;rw[k]at h |-;simp only at h |-;cases f:a.op with
 | call c=>
  rw[f]at h i;have r:vo c=none:=by grind [te,vo]
  have pl:mK P TE N a K F->mK P TE N a (λF1=>K F1/\co (a.looksAt ops) F F1) F:=λh=>by grind [mK,kH]
  cases t:FD N F (.call c) with
  | some p=>
   rw[t]at h;simp only at h |-;have lt:w6 P N F a.dst p.1 p.2.1 p.2.2 K->w6 P N F a.dst p.1 p.2.1 p.2.2 λF1=>K F1/\co (a.looksAt ops) F F1:=λh=>vF (T5 (ts:=a.looksAt ops) h) λF1 ⟨h,u⟩=>by grind [qU,Pc]
   cases w:TD N (.call c) with
   | false=>grind
   | true=>
    rw[w]at h;rcases h with h|h
    ·exact .pl (pl h)
    exact .lt (lt h)
  | none=>
   grind [mK]
 | _=>rw[f]at i;cases i
theorem Wt{a:Oper}(c:a.guard=none)(e:(Xm a.op || te a.op)=true)(b:a.dst≠some d)(f:d∉a.looksAt ops)(g:∀t,(F t).uses d=false)(h:kn P TE N ops a K F) :
  kn P TE N ops a (λF1=>K F1/\co (a.looksAt ops) F F1) F:=by grind [XB,Wc]
def Gq(d:Nat)(ts:List Nat)(F:Nat->AV)(K:(Nat->AV)->Prop)(F1:Nat->AV):Prop:=∃a,K (eff none d a F1)/\co ts F F1
def Gq.trans{a:Nat->AV}(b:co ts F F1)(h:Gq d ts F1 K a):Gq d ts F K a:=by
 obtain⟨c,e,f⟩:=h;exact⟨c,e,b.trans f⟩
theorem Hv(a:t≠d):setH (eff none d v F) t av=eff none d v (setH F t av):=by grind [pY,gK,cw,setH]
theorem yD{off:Nat}{st:cL}{K:(Nat->AV)->List C->Prop}(h:lendAt (eff none d v F) t off st n K)(a:t≠d):lendAt F t off st n λF1 cs=>∃v1,K (eff none d v1 F1) cs/\co ts F F1:=by
 unfold lendAt at h |-;rw[cw a]at h;split at h
 case h_2=>exact h.elim
 split at h
 ·grind [dG,ru,co.updH]
 obtain⟨r,j,b,c,e,f⟩:=Lq.out h;refine .mk_ ?_
 grind [ru,co.updH]
theorem qt{ts:List Nat}{d:Nat}(a:d∉ts):∀{xs:List (Operand × Nat)}{K:(Nat->AV)->List (MA × wn)->Prop}{F:Nat->AV}{v:AV},lendP xs K (eff none d v F)->(∀x,x∈xs->d∉tm x.1)->(∀t,(F t).uses d=false)->
  lendP xs (λF1 l=>(∃v1,K (eff none d v1 F1) l/\co ts F F1)/\∀q,q∈l->d∉q.2.slot) F
 | [],K,F,v,h,_,_=>⟨⟨v,h,co.refl _ _⟩,ψ⟩
 | (x,0)::xs,K,F,v,h,w,c=>by
  simp only[lendP]at h |-;refine cC (qt a h ψ c) λF1 l h=>⟨h.1,λq b=>?_⟩
  rcases List.mem_cons.1 b with rfl|b
  ·exact λu=>by cases u
  exact h.2 q b
 | (x,1)::xs,K,F,v,h,w,c=>by
  simp only[lendP]at h |-;split at h
  case h_2=>exact h.elim
  rename_i s;have j:s≠d:=λe=>w _ O3 (by simp[tm,e])
  rw[cw j]at h;have y:∀{t:Nat}{F1:Nat->AV}{l:List (MA × wn)}{m:MA}{f:Nat}{A:cL}{K2:(Nat->AV)->List (MA × wn)->Prop},t≠d->((∃v1,K2 (eff none d v1 F1) ((m,.at_ t f A)::l)/\co ts F F1)/\∀q,q∈l->d∉q.2.slot)->(∃v1,K2 (eff none d v1 F1) ((m,.at_ t f A)::l)/\co ts F F1)/\∀q,q∈(m,wn.at_ t f A)::l->d∉q.2.slot:=λg h=>⟨h.1,λq b=>by
    rcases List.mem_cons.1 b with rfl|b
    · exact λu=>g (z3.1 u).symm
    exact h.2 q b⟩
  split at h
  ·exact gu (yD (ts:=ts) h j) λF1 k h=>by
    obtain⟨v1,h,i⟩:=h;exact cC (qt a h ψ (i.clean a c)) λB l h=>by
     obtain⟨⟨o,h,p⟩,r⟩:=h;exact y (K2:=K) j ⟨⟨o,h,i.trans p⟩,r⟩
  ·exact gu (yD (ts:=ts) h j) λF1 k h=>by
    obtain⟨v1,h,i⟩:=h;exact cC (qt a h ψ (i.clean a c)) λB l h=>by
     obtain⟨⟨o,h,p⟩,r⟩:=h;exact y (K2:=K) j ⟨⟨o,h,i.trans p⟩,r⟩
  ·rename_i t f A G D
   have g:t≠d:=λe=>by have:=c s;rw[D,e]at this;simp[AV.uses]at this
   exact gu (yD (ts:=ts) h g) λF1 k h=>by
    obtain⟨v1,h,i⟩:=h;exact cC (qt a h ψ (i.clean a c)) λB l h=>by
     obtain⟨⟨o,h,p⟩,r⟩:=h;exact y (K2:=K) g ⟨⟨o,h,i.trans p⟩,r⟩
  exact h.elim
 | (x,n+2)::xs,K,F,v,h,w,c=>by
  simp only[lendP]at h |-;split at h
  case h_2=>exact h.elim
  rename_i s;have j:s≠d:=λe=>w _ O3 (by simp[tm,e])
  rw[cw j]at h;have y:∀{t:Nat}{k:List C},t≠d->lendP xs (λE l=>K E ((.ptr k,.box t)::l)) (kill (eff none d v F) t)->lendP xs (λF1 l=>(∃v1,K (eff none d v1 F1) ((.ptr k,.box t)::l)/\co ts F F1)/\∀q,q∈(MA.ptr k,wn.box t)::l->d∉q.2.slot) (kill F t):=fun {t k} g h=>by
   rw[JJ g]at h;refine cC (qt a h ψ ((co.kill (ts:=ts)).clean a c)) λB l h=>?_
   obtain⟨⟨o,h,p⟩,r⟩:=h;refine⟨⟨o,h,co.kill.trans p⟩,λq b=>?_⟩;rcases List.mem_cons.1 b with rfl|b
   ·exact λu=>g (z3.1 u).symm
   exact r q b
  split at h
  ·rename_i t D
   have g:t≠d:=λe=>by have:=c s;rw[D,e]at this;simp[AV.uses]at this
   rw[cw g]at h;split at h
   all_goals simp_all
  all_goals simp_all
theorem wG{d:Nat}{v:AV}(a:∀t,(F t).uses d=false):∀{l:List (MA × wn)}{xs:List Operand}{K:Bool->List MA->Prop},valsP (eff none d v F) l xs K->(∀x,x∈xs->d∉tm x)->valsP F l xs K
 | [],[],K,h,_=>h
 | (m,.no)::l,x::xs,K,h,b=>by
  obtain⟨f,g,c,e⟩:=cF h;exact e F (nN ψ a) _ (wG a c ψ)
 | (m,.at_ t off st)::l,x::xs,K,h,b=>wG (l:=l) (xs:=xs) a h ψ
 | (m,.box t)::l,x::xs,K,h,b=>wG (l:=l) (xs:=xs) a h ψ
 | [],_::_,K,h,_=>h.elim
 | (m,.no)::l,[],K,h,_=>h.elim
 | (m,.at_ t off st)::l,[],K,h,_=>h.elim
 | (m,.box t)::l,[],K,h,_=>h.elim
theorem od{ts:List Nat}{d:Nat}{K:(Nat->AV)->Prop} : ∀{l:List (MA × wn)}{B:List MA}{F:Nat->AV}{v:AV},jm l B K (eff none d v F)->(∀q,q∈l->d∉q.2.slot)->jm l B (Gq d ts F K) F
 | [],[],F,v,h,_=>⟨v,h,co.refl _ _⟩
 | [],_::_,F,v,h,_=>h.elim
 | (m,.no)::l,[],F,v,h,_=>h.elim
 | (m,.at_ t off st)::l,[],F,v,h,_=>h.elim
 | (m,.box t)::l,[],F,v,h,_=>h.elim
 | (m,.no)::l,.val _ _::B,F,v,h,b=>od (l:=l) (B:=B) h ψ
 | (m,.no)::l,.mut _ _::B,F,v,h,b=>od (l:=l) (B:=B) h ψ
 | (m,.no)::l,.ptr _::B,F,v,h,b=>od (l:=l) (B:=B) h ψ
 | (m,.at_ t off st)::l,.val _ _::B,F,v,h,_=>h.elim
 | (m,.at_ t off st)::l,.ptr _::B,F,v,h,_=>h.elim
 | (m,.box t)::l,.val _ _::B,F,v,h,_=>h.elim
 | (m,.box t)::l,.mut _ _::B,F,v,h,_=>h.elim
 | (m,.at_ t off st)::l,.mut ag out::B,F,v,h,b=>by
  have c:t≠d:=λe=>b _ O3 (by simp[wn.slot,e])
  have a:∀q,q∈l->d∉q.2.slot:=ψ
  simp only[jm]at h |-;rw[cw c]at h;split at h
  case h_2=>exact h.elim
  split at h
  ·rename_i k n _ _
   cases o:Nat.ble (off+out.length) n.length with
   | false=>grind
   | true=>
    rw[o]at h;simp only[cond_true,dG]at h |-;rw[ru c]at h;exact dK (λg f=>Gq.trans co.updH f) (od (ts:=ts) h a)
  obtain⟨r,j,p,u,w,i⟩:=Pu.out h;rw[ru c]at i;exact Pu.mk p u w rfl (dK (λg f=>Gq.trans co.updH f) (od (ts:=ts) i a))
 | (m,.box t)::l,.ptr out::B,F,v,h,b=>by
  have c:t≠d:=λe=>b _ O3 (by simp[wn.slot,e])
  have a:∀q,q∈l->d∉q.2.slot:=ψ
  simp only[jm]at h |-;rw[cw c]at h;split at h
  ·rw[Hv c]at h
   exact dK (λg f=>Gq.trans co.setH f) (od (ts:=ts) h a)
  exact h.elim
theorem Vj{dj:Option Nat}(h:oo P N (eff none d v F) dj f args modes K)(n:dj≠some d)(a:d∉ts)(g:∀x,x∈args->d∉tm x)(i:∀t,(F t).uses d=false) :
  oo P N F dj f args modes (Gq d ts F K):=by
 unfold oo at h |-;refine cC (qt a h (λx o=>g _ (List.of_mem_zip o).1) i) λE l h=>?_
 obtain⟨⟨G,h,c⟩,p⟩:=h;cases q:(zV l&&Nat.beq args.length modes.length) with
 | false=>grind
 | true=>
  rw[q]at h;refine kU (wG (c.clean a i) h g) λb A h=>?_
  obtain⟨H,B,k,rcs,r,e,u⟩:=cj.out h;refine CO r e (dK (λF'' h=>?_) (od (ts:=ts) u p));obtain⟨w,h,j⟩:=h;cases dj with
  | none=>exact⟨w,h,c.trans j⟩
  | some dj=>
   refine bv (iE (ts:=ts) h ψ jG) λJ e=>?_
   obtain⟨y,-,C,D⟩:=e;exact⟨y,C,(c.trans j).trans D⟩
theorem VV{dj:Option Nat}{c a b:Nat}{B:List MA}(f:t≠d)(g:dj≠some d)(h:Dn N (eff none d v F) dj t cs c a e b K k rcs B):Dn N F dj t cs c a e b (Gq d ts F K) k rcs B:=by
 unfold Dn at h |-;split at h
 case h_2=>exact h.elim
 rename_i i j;cases l:(Nat.beq i.length a&&Nat.beq j.length b) with
 | false=>grind
 | true=>
  rw[l]at h;simp only[cond_true,dG]at h |-;rw[JJ f,Hv f]at h;cases dj with
  | none=>exact⟨_,h,co.kill.trans co.setH⟩
  | some dj=>
   refine bv (iE (ts:=ts) h ψ jG) λr n=>?_
   obtain⟨o,-,p,q⟩:=n;exact⟨o,p,(co.kill.trans co.setH).trans q⟩
theorem QG{K:Nat->Nat->Prop}(b:d∉tm x)(c:∀t,(F t).uses d=false)(h:FC (eff none d v F) x K):FC F x λt o=>t≠d/\K t o:=by
 obtain⟨s,t,f,rfl,a,i⟩:=wz h;have g:s≠d:=λe=>b (by simp[tm,e])
 rw[cw g]at a;have j:t≠d:=λe=>by have:=c s;rw[a,e]at this;simp[AV.uses]at this
 grind [FC]
theorem TX{dj:Option Nat}{a b:Nat}(h:mC P N (eff none d v F) dj f args a b K)(g:dj≠some d)(c:∀x,x∈args->d∉tm x)(e:∀t,(F t).uses d=false) :
  mC P N F dj f args a b (Gq d ts F K):=by
 unfold mC at h |-;split at h
 case h_2=>exact h.elim
 refine n7 (QG (c _ (by simp)) e h) λt j h=>?_
 obtain⟨i,h⟩:=h;refine n7 (QG (c _ (by simp)) e h) λk l h=>?_
 replace h:=h.2;rw[cw i]at h;split at h
 all_goals grind [dG,cj.out,CO,VV]
theorem Uv{dj:Option Nat}(h:mV P N (eff none d v F) dj f args modes K)(a:dj≠some d)(b:d∉ts)(c:∀x,x∈args->d∉tm x)(e:∀t,(F t).uses d=false) :
  mV P N F dj f args modes (Gq d ts F K):=by grind [TX,Vj,mV]
theorem WM{dj:Option Nat}{q:Nat}(c:q≠s):rv1 F dj s F1 q=F1 q:=by
 unfold rv1;cases F s with
 | ref t a b=>
  cases b with
  | cons=>rfl
  | nil=>
   simp only;cases(dne dj s&&dne dj t) with
   | false=>rfl
   | true=>
    simp only[cond_true];cases F1 t with
    | X k d=>
     cases k with
     | box=>
      simp only;cases F1 s with
      | dead=>grind [gK]
      | _=>rfl
     | _=>rfl
    | _=>rfl
 | _=>rfl
theorem XJ{dj:Option Nat}{v1:AV}(c:∀t,(F t).uses d=false):∃a,rv1 (eff none d v F) dj s (eff none d v1 F1)=eff none d a (rv1 F dj s F1):=by
 by_cases b:s=d
 ·subst b
  have f:∃a,rv1 (eff none s v F) dj s (eff none s v1 F1)=eff none s a F1:=by
   unfold rv1;rw[pY];have set:∀x:AV,setH (eff none s v1 F1) s x=eff none s x F1:=λx=>by grind [uL,pY,gK,cw]
   grind
  obtain⟨a,g⟩:=f;refine⟨a,g.trans ?_⟩
  grind [pY,cw,WM]
 refine⟨v1,?_⟩;unfold rv1;rw[cw b];cases h:F s with
 | ref t i j=>
  cases j with
  | cons=>rfl
  | nil=>
   have k:t≠d:=λe=>by have:=c s;rw[h,e]at this;simp[AV.uses]at this
   grind [cw,Hv]
 | _=>rfl
def UE{d:Nat}{dj:Option Nat}{v:AV}(a:∀t,(F t).uses d=false):∀{l:List Nat}{v1:AV}{F1:Nat->AV},∃b,rvE (eff none d v F) dj l (eff none d v1 F1)=eff none d b (rvE F dj l F1)
 | [],v1,_=>⟨v1,rfl⟩
 | s::l,v1,F1=>by
  simp only[rvE];obtain⟨b,e⟩:=XJ (dj:=dj) (v:=v) (v1:=v1) (s:=s) (F1:=F1) a;rw[e];exact UE a
theorem Wq{a:Oper}(B:a.guard=none)(k:te a.op=true)(g:a.dst≠some d)(w:d∉a.looksAt ops)(n:∀t,(F t).uses d=false)(h:kn P TE N ops a K (eff none d v F)) :
  kn P TE N ops a (Gq d (a.looksAt ops) F K) F:=by
 have f:∀t,t∈dS a.op->t∈a.looksAt ops:=λt o=>jM a t o
 have tmI:∀x,x∈a.op.operands.toList->∀t,t∈tm x->t∈a.looksAt ops:=λx y t o=>f t (List.mem_flatMap.2 ⟨x,y,o⟩)
 have pur:∀dj,dj≠d->dz P TE (eff none d v F) a.op (λj=>cf N (eff none d v F) dj j K)->dz P TE F a.op λj=>cf N F dj j (Fq d (a.looksAt ops) v F K):=λdj g h=>
  Jp (p:=λF K=>dz P TE F a.op K) (lU h) g f w n
 unfold kn gR at h |-;rw[B]at h |-;simp only at h |-;cases b:a.op with
 | call c=>
  rw[b]at h k tmI;have q:vo c=none:=by grind [te,vo]
  have r:FD N (eff none d v F) (.call c)=FD N F (.call c):=by grind [te,FD]
  rw[r]at h;have pl:mK P TE N a K (eff none d v F)->mK P TE N a (Gq d (a.looksAt ops) F K) F:=λh=>by
   unfold mK at h |-;rw[b]at h |-;cases C:a.dst with
   | none=>grind
   | some dj=>
    rw[C]at h;simp only[kH,q]at h |-;have A:=pur dj ψ;rw[b]at A;obtain⟨j,D,-,E⟩:=lU (A h);exact E F (Cm _ _) _ (bv D λQ G=>by
      obtain⟨v1,-,H,u⟩:=G;exact⟨v1,H,u⟩)
  cases J:FD N F (.call c) with
  | some p=>
   rw[J]at h;simp only at h |-;have i:∀x,x∈p.2.1->d∉tm x:=λx y L=>by grind [te,FD,Go.Op.operands,Go.Call.operands]
   have lt:w6 P N (eff none d v F) a.dst p.1 p.2.1 p.2.2 K->w6 P N F a.dst p.1 p.2.1 p.2.2 (Gq d (a.looksAt ops) F K):=λh=>vF (Uv (ts:=a.looksAt ops) h g w i n) λF1 h=>by
    obtain⟨v1,h,u⟩:=h;rw[qU]at h |-;obtain⟨M,e⟩:=UE (dj:=a.dst) (v:=v) (l:=Zo N.mo) (v1:=v1) (F1:=F1) n;rw[e]at h;exact⟨M,h,Pc u⟩
   cases O:TD N (.call c) with
   | false=>grind
   | true=>
    rw[O]at h;rcases h with h|h
    ·exact .pl (pl h)
    exact .lt (lt h)
  | none=>
   grind [mK]
 | _=>rw[b]at k;cases k
theorem W0{a:Oper}(e:a.guard=none)(b:(Xm a.op || te a.op)=true)(c:a.dst≠some d)(f:d∉a.looksAt ops)(g:∀t,(F t).uses d=false)(h:kn P TE N ops a K (eff none d v F)) :
  kn P TE N ops a (Gq d (a.looksAt ops) F K) F:=by
 rw[IC]at b;rcases b with b|b
 ·refine lW (Uc e b c f g h) λl i=>?_
  obtain⟨j,-,k,u⟩:=i;exact⟨j,k,u⟩
 grind [Wq]
structure pU(ops:Array Oper)(ds:List Nat)(F:Nat->AV)(listed:Array Bool):Prop where
 dst:∀(j:Nat)(o:Oper)(d:Nat),uQ ds o=true->ops[j]? = some o->listed.getD j true=false->o.dst=some d->∀t,(F t).uses d=false
 mv:∀(j:Nat)(o:Oper)(T:Option Nat)(s:Nat),uQ ds o=true->ops[j]? = some o->listed.getD j true=false->o.guard=none->qF o.op=some (T,s)->kP ops o s=true->∀t,(F t).uses s=false
variable{j:Nat}
theorem pU.put{o:Option Nat}(h:pU ops ds F listed)(p:∀b a g,uQ ds a=true->b≠j->ops[b]? = some a->listed.getD b true=false->a.dst=some g->av.uses g=false)(q:∀b a T s,uQ ds a=true->b≠j->ops[b]? = some a->listed.getD b true=false->a.guard=none->qF a.op=some (T,s)->kP ops a s=true->av.uses s=false) :
  pU ops ds (eff o d av F) (listed.setIfInBounds j true):=by
 refine⟨λb a g i c e k t=>?_,λb a T s i c e r l n t=>?_⟩
 ·have f:=kc e
  rw[getD_set_ne true (Ne.symm f)]at e;exact mj ψ (h.dst b a g i c e k t)
 have f:=kc e;rw[getD_set_ne true (Ne.symm f)]at e;exact mj ψ (h.mv b a T s i c e r l n t)
theorem Bh{o:Oper}(h:Zi o=true):o.guard=none:=by grind [Zi]
theorem Ud(h:(!ts.any (Nat.beq d))=true):d∉ts:=λa=>by grind [Nat.beq_refl]
theorem TC{a b:Oper}{c:Bool}(h:Zc ops a b c=true)(f:b.dst=some d):a.guard=none/\(Xm a.op || te a.op)=true/\a.dst≠some d/\d∉a.looksAt ops/\b.guard=none/\d∉b.looksAt ops/\(c=true\/∀T s,qF b.op=some (T,s)->kP ops b s=false):=by
 unfold Zc at h;rw[f]at h;simp only[I0]at h;obtain⟨⟨⟨⟨⟨⟨g,i⟩,n⟩,j⟩,k⟩,l⟩,o⟩:=h;refine⟨Bh g,i,λe=>?_,Ud j,Bh k,Ud l,?_⟩
 ·simp_all
 grind
def UT(h:Ag ops j i=true):ss ops j i:=xj j _ (λ_ a=>.one (AL a)) i h
theorem Qj{o:Oper}(h:uQ ds o=true):∃d,o.dst=some d/\ds.any (Nat.beq d)=true:=by grind [uQ]
structure Xh(ops:Array Oper)(ds:List Nat)(nm:Nat->Bool):Prop where
 back:∀(j:Nat)(oj:Oper),ops[j]? = some oj->∀e∈oj.after,Region.binds .any e=true->e.on<j
 apart:∀(i j:Nat)(oi oj:Oper),uQ ds oi=true->uQ ds oj=true->i≠j->ops[i]? = some oi->ops[j]? = some oj->dx oj i=true\/dx oi j=true\/oi.apart ops oj=true
 look:∀(i j:Nat)(oi oj:Oper)(d:Nat),uQ ds oi=true->i≠j->ops[i]? = some oi->ops[j]? = some oj->oi.dst=some d->d∈oj.looksAt ops->dx oj i=true
 differ:∀(i j:Nat)(oi oj:Oper)(d:Nat),uQ ds oi=true->uQ ds oj=true->i≠j->ops[i]? = some oi->ops[j]? = some oj->oi.dst=some d->oj.dst≠some d
 nf:∀(i j:Nat)(oi oj:Oper),uQ ds oi=true->uQ ds oj=false->i≠j->ops[i]? = some oi->ops[j]? = some oj->Ag ops j i=true\/Ag ops i j=true\/Zc ops oj oi (nm i)=true
 mvs:∀(j:Nat)(oj:Oper)(T:Option Nat)(s:Nat),uQ ds oj=true->ops[j]? = some oj->qF oj.op=some (T,s)->kP ops oj s=true->ds.any (Nat.beq s)=true
theorem t6{d:Oper}(a:Xh ops ds nm)(b:DC ops listed)(c:ops[j]? = some d)(f:∀e∈d.after,Region.binds .any e=true->listed.getD e.on false=true)(g:Ag ops j i=true):listed.getD i false=true:=
 rE b a.back (UT g) (C6.1 c).1 λk h=>by grind [bM,cB]
theorem unl{k:Nat}(h1:listed.getD k true=false)(h2:listed.getD k false=true):False:=ψ
theorem jn.trans{a:Nat->AV}(h1:jn F F1 ts)(h2:jn F1 a ts):jn F a ts:=λt b=>by
 obtain⟨c,d⟩:=h1 t b;obtain⟨e,f⟩:=h2 t b
 grind
theorem pU.us{g:Oper}(n:Xh ops ds nm)(h:pU ops ds F listed)(o:ops[j]? = some g)(r:∀e∈g.after,Region.binds .any e=true->listed.getD e.on false=true)(u:co (g.looksAt ops) F F1):pU ops ds F1 (listed.setIfInBounds j true):=by
 refine⟨λi k t l b c d=>u.clean (λf=>?_) (h.dst i k t l b ?_ d),λi k T s l b c w p q=>u.clean (λf=>?_) (h.mv i k T s l b ?_ w p q)⟩
 ·have a:=kc c
  rw[getD_set_ne true (Ne.symm a)]at c;have:=n.look i j k g t l a b o d f
  grind [cB]
 ·have a:=kc c
  rwa [getD_set_ne true (Ne.symm a)]at c
 ·grind [kc,iw,dw]
 have a:=kc c
 rwa [getD_set_ne true (Ne.symm a)]at c
theorem XZ{p:Nat}{b:Oper}(a:ops[p]? = some b)(j:d∉b.looksAt ops)(k:∀t,(F1 t).uses d=false)(e:b.dst≠some d)(h:XU P TE ops p (eff none d v F1)):XU P TE ops p F1:=by
 obtain⟨f,g,i,c⟩:=h;rw[bM a]at g i c;refine⟨f,by grind [bM],?_,?_⟩
 ·grind [bM,A9,nN]
 rw[bM a];obtain⟨l,n,-,o⟩:=lU c
 grind [cw,nN,jM]
theorem Nq(W:Xh ops ds nm){b:Oper}(D:ops[i]? = some b)(w:uQ ds b=true) :
  ∀(fuel:Nat)(listed:Array Bool)(F:Nat->AV)(l:Option Nat)(av:AV),i∈Region.ready .any ops listed->pU ops ds F listed->DC ops listed->Yl P TE N ops b F l d av->(nm i=true->l=none)->M8 P TE N ops ds K fuel (listed.setIfInBounds i true) (eff l d av F)->M8 P TE N ops ds K (fuel+1) listed F:=by
 have self:∀(listed:Array Bool)(F:Nat->AV)(l:Option Nat)(av:AV),i∈Region.ready .any ops listed->pU ops ds F listed->Yl P TE N ops b F l d av->∀X:(Nat->AV)->Prop,X (eff l d av F)->o9 P TE N ops b X F:=λlisted F l av hr a c X hK=>by
  have f:=(mem_ready.1 hr).1;refine c.at_ F (Cm _ _) (a.dst i b d w D f c.dst) (λs hs=>?_) X hK;obtain⟨B,⟨T,h2⟩,h3⟩:=c.mvl s hs;exact a.mv i b T s w D f B h2 h3
 intro fuel
 induction fuel with
 | zero=>
  intro listed F l av hr a E c hnm H;refine⟨ψ,λj hj=>?_⟩;by_cases n:j=i
  ·grind [zX]
  have:=ready_mono hj n;rw[H.1]at this;cases this
 | succ fuel ih=>
  intro listed F l av hr a E c hnm H;refine⟨ψ,λj hj=>?_⟩;by_cases n:j=i
  ·grind [zX]
  have B:=H.2 j (ready_mono hj n);obtain⟨R,g,q,hall⟩:=mem_ready.1 hj;obtain⟨f,oi',C,halli⟩:=mem_ready.1 hr;rw[D]at C;simp only[C2]at C;subst C;have noedge:∀k ok,ops[k]? = some ok->listed.getD k true=false->dx g k=false:=λk ok hk hkun=>by grind [cB]
  have noedge':∀k ok,ops[k]? = some ok->listed.getD k true=false->dx b k=false:=λk ok hk hkun=>by grind [cB]
  have cd:∀t,(F t).uses d=false:=a.dst i b d w D f c.dst
  unfold zX at B |-;rw[q]at B |-;simp only at B |-;by_cases G:uQ ds g=true
  case neg=>
   rw[CI G]at B |-;have hji1:Ag ops j i=false:=by grind [t6]
   have hij1:Ag ops i j=false:=by grind [t6]
   have hfb:Zc ops g b (nm i)=true:=by grind [Xh.nf]
   obtain⟨J,r,A,g4,g5,g6,g7⟩:=TC hfb c.dst;have hmv:l=none:=by
    cases l with
    | none=>rfl
    | some s=>
     obtain⟨-,⟨T,q1⟩,q2⟩:=c.mvl s rfl
     grind
   subst hmv;refine lW (W0 J r A g4 cd B) λF1 hF1=>?_
   obtain⟨v,⟨S,hrun⟩,u⟩:=hF1;have cd1:∀t,(F1 t).uses d=false:=u.clean g4 cd
   have hisz:i<listed.size:=ψ
   have hrd:XU P TE ops i (eff none d v F1):=S i (by simp[hisz]) (by grind [bM]) hji1;refine⟨λp hp1 L hp3=>?_,ih (listed.setIfInBounds j true) F1 none v (ready_mono hr (Ne.symm n)) (a.us W q hall u) (E.put hj) ?_ (λ_=>rfl) (by grind [Array.setIfInBounds_comm])⟩
   ·have hpi:p≠i:=ψ
    have hpl:p<ops.size:=by
     rcases Nat.lt_or_ge p ops.size with h|h
     ·exact h
     rw[show dL ops p=default by simp[dL,CD,Array.getElem?_eq_none h]]at L;cases L
    have h0:ops[p]? = some ops[p]:=ψ
    have U:=L;rw[bM h0]at U;refine XZ h0 (λhlk=>?_) cd1 (W.differ i p b _ d w U (Ne.symm hpi) D h0 c.dst) (S p (getD_set_true hp1) L hp3);have:=W.look i p b _ d w (Ne.symm hpi) D h0 c.dst hlk;exact unl f (E p _ h0 hp1 i this)
   obtain⟨dp,q1,q2,q3⟩:=hrd;rw[bM D]at q1 q2 q3;have hdp:dp=d:=by grind [Yl.dst]
   subst hdp;rw[pY]at q3;obtain⟨M,e1,e2,e3⟩:=lU q3;subst e1;have agr1:jn (eff none dp M F1) F1 (b.looksAt ops):=nN g6 cd1;have fromv:fD F1 (b.looksAt ops) M:=λe he=>by
    rcases e2 e he with h|⟨t,Y,h⟩
    all_goals grind [jM,cw]
   have Z:M.uses dp=false:=by
    cases hu:M.uses dp with
    | false=>rfl
    | true=>
     rcases fromv dp hu with h|⟨t,_,h⟩
     all_goals grind
   refine⟨c.dst,c.lt,Z,fromv,ψ,λF' hA O _ X hK=>?_⟩;have agr2:=agr1.trans hA;unfold o9;rw[A9 agr2,q2];simp only;unfold iI gR
   grind [jn.mono,jM,Yl.lt,Jl,cf]
  rw[CJ G]at B |-;have hap:b.apart ops g=true:=by grind [Xh.apart]
  obtain⟨ap1,ap2,ap3⟩:=Oper.apart_spec hap;have hdl:d∉g.looksAt ops:=ap1 d c.dst;have cdj':∀o,g.dst=some o->∀t,(F t).uses o=false:=λo hdj=>a.dst j g o G q R hdj
  have cmv:∀s,l=some s->(∀t,(F t).uses s=false)/\s∉g.looksAt ops/\s∈b.looksAt ops:=λs hs=>by
   obtain⟨J,⟨T,r⟩,A⟩:=c.mvl s hs;exact⟨a.mv i b T s w D f J r A,λhl=>n ((iw A).2 i j b g D q (dw r) hl).symm,dw r⟩
  have cmvj:∀T s,g.guard=none->qF g.op=some (T,s)->kP ops g s=true->(∀t,(F t).uses s=false)/\s∉b.looksAt ops/\s∈g.looksAt ops:=λT s J r A=>
   ⟨a.mv j g T s G q R J r A,λhl=>n ((iw A).2 i j b g D q hl (dw r)).symm,dw r⟩
  have avno:∀e,e∉b.looksAt ops->(∀t,(F t).uses e=false)->av.uses e=false:=λe B h2=>by
   cases hu:av.uses e with
   | false=>rfl
   | true=>
    rcases c.from_ e hu with h|⟨t,_,h⟩
    all_goals grind
  obtain⟨mvj,o,avj,y,hKj⟩:=uG B (λo hdj t=>mj ψ (cdj' o hdj t)) (λT s J r A t=>by grind [mj]);have hdne:d≠o:=λe=>ap2 d c.dst (by rw[y.dst,e])
  have hdjl:o∉b.looksAt ops:=ap3 o y.dst;have cdj:∀t,(F t).uses o=false:=cdj' o y.dst
  have cmj:∀s,mvj=some s->(∀t,(F t).uses s=false)/\s∉b.looksAt ops/\s∈g.looksAt ops:=λs hs=>by
   obtain⟨J,⟨T,r⟩,A⟩:=y.mvl s hs
   grind
  have lookj:∀t,t∈g.looksAt ops->eff l d av F t=F t:=λt Y=>by grind [eff]
  have looki:∀t,t∈b.looksAt ops->eff mvj o avj F t=F t:=λt Y=>by grind [eff]
  have avjno:∀e,e∉g.looksAt ops->(∀t,(F t).uses e=false)->avj.uses e=false:=λe B h2=>by
   cases hu:avj.uses e with
   | false=>rfl
   | true=>
    rcases y.from_ e hu with h|⟨t,Y,h⟩
    all_goals grind
  have agrj:jn (eff l d av F) F (g.looksAt ops):=λt Y=>by grind [eff]
  refine y.at_ F agrj cdj ψ _ (ih (listed.setIfInBounds j true) (eff mvj o avj F) l av (ready_mono hr (Ne.symm n)) (a.put (λj' o' d' hm' V Q hl' O=>?_) (λj' o' T s hm' V Q hl' J r A=>?_)) (E.put hj) ?_ hnm ?_)
  ·refine avjno d' (λh=>?_) (a.dst j' o' d' hm' Q hl' O)
   grind [Xh.look]
  ·exact avjno s (λh=>V ((iw A).2 j' j o' g Q q (dw r) h)) (a.mv j' o' T s hm' Q hl' J r A)
  ·refine⟨c.dst,c.lt,c.self,λe he=>?_,c.mvl,λF' hA O hs' X hK=>c.at_ F' (λt Y=>?_) O hs' X hK⟩
   ·rcases c.from_ e he with h|⟨t,Y,h⟩
    all_goals grind
   obtain⟨a1,a2⟩:=hA t Y
   grind [eff]
  rw[Array.setIfInBounds_comm _ _ n];have:eff l d av (eff mvj o avj F)=eff mvj o avj (eff l d av F):=by grind [eff]
  grind
theorem Gi:∀{b:List Nat}{X:Prop}{F:Nat->AV},Uu P TE ops b X F->X/\∀p,p∈b->XU P TE ops p F
 | [],X,F,h=>⟨h,ψ⟩
 | p::l,X,F,h=>by
  simp only[Uu]at h;unfold YL at h;cases c:(dL ops p).dst with
  | none=>grind
  | some d=>
   rw[c]at h;simp only at h;cases f:Qd F (dL ops p) with
   | some q=>grind
   | none=>
    rw[f]at h;simp only at h;obtain⟨g,i,-,-⟩:=lU h;obtain⟨e,k,j⟩:=(show g=F d/\X/\∀p,p∈l->XU P TE ops p F from⟨i.out.1,Gi i.out.2⟩)
    refine⟨k,λn a=>?_⟩;rcases List.mem_cons.1 a with rfl|a
    ·exact⟨d,c,f,jh h λg h=>h.out.1⟩
    grind
variable{l:List (Nat × List Nat)}
theorem yX : AS l i=true↔∃p,p∈l/\p.1=i:=by grind [v4,Nat.beq_refl,AS]
theorem uI{k:Nat × List Nat} : AS (k::l) i=(Nat.beq k.1 i || AS l i):=rfl
theorem HZ(b:Xh ops ds nm){K:(Nat->AV)->Prop} : ∀(l:List (Nat × List Nat))(listed:Array Bool)(F:Nat->AV),K5 ops ds l=true->listed.size=ops.size->(∀j,j<ops.size->listed.getD j true = !AS l j)->pU ops ds F listed->DC ops listed->
  RV P TE N ops ds nm l K F->M8 P TE N ops ds K l.length listed F
 | [],listed,F,_,hs,E,_,_,c=>by
  refine⟨?_,c⟩;apply List.eq_nil_iff_forall_not_mem.2;intro j R;obtain⟨S,o,ho,-⟩:=mem_ready.1 R;have G:=(C6.1 ho).1;rw[E j G]at S;cases S
 | k::l,listed,F,A,hs,E,a,H,c=>by
  simp only[K5,I0]at A;obtain⟨⟨⟨⟨q1,q2⟩,q3⟩,Z⟩,q5⟩:=A;have hk:k.1<ops.size:=by simp_all
  have r:ops[k.1]? = some ops[k.1]:=ψ
  have hrf:∀i,i<ops.size->listed.getD i true=true->listed.getD i false=true:=ψ
  have hready:k.1∈Region.ready .any ops listed:=mem_ready.2 ⟨by grind [uI,Nat.beq_refl],_,r,λe he hb=>by
    have G:=b.back k.1 _ r e he hb
    grind [bM,uI]⟩
  have B:∀j,j<ops.size->(listed.setIfInBounds k.1 true).getD j true = !AS l j:=λj R=>by
   by_cases w:j=k.1
   ·simp_all
   rw[getD_set_ne true (Ne.symm w),E j R,uI,show Nat.beq k.1 j=false by rw[<-IA,Nat.beq_eq];exact Ne.symm w];rfl
  show M8 P TE N ops ds K (l.length+1) listed F;simp only[RV]at c;rw[bM r]at c Z;have U:listed.getD k.1 true=false:=(mem_ready.1 hready).1;cases f:uQ ds ops[k.1] with
  | true=>
   rw[f]at c;simp only[cond_true]at c;obtain⟨mv,d,av,hy,c,hnm⟩:=R3 c (λd hd=>a.dst k.1 _ d f r U hd) (λT s g1 g2 g3=>a.mv k.1 _ T s f r U g1 g2 g3);have C:∀e∈ops[k.1].after,Region.binds .any e=true->listed.getD e.on false=true:=by grind [Go.mem_ready]
   refine Nq b r f l.length listed F mv av hready a H hy hnm (HZ b l _ _ q5 (by simpa using hs) B (a.put (λO Q V g D n hl'' J=>?_) (λO Q T s g D n hl'' g1 g2 g3=>?_)) (H.put hready) c)
   ·cases hu:av.uses V with
    | false=>rfl
    | true=>
     rcases hy.from_ V hu with h|⟨t,_,h⟩
     ·have:=b.look O k.1 Q _ V g D n r J h
      grind [cB]
     rw[a.dst O Q V g n hl'' J t]at h;cases h
   cases hu:av.uses s with
   | false=>rfl
   | true=>
    rcases hy.from_ s hu with h|⟨t,_,h⟩
    ·grind [iw,dw]
    rw[a.mv O Q T s g n hl'' g1 g2 g3 t]at h;cases h
  | false=>
   rw[f]at c Z;simp only[cond_false]at c;simp only[Bool.false_or,I0]at Z;obtain⟨⟨r1,r2⟩,r3⟩:=Z;refine⟨ψ,λj R=>?_⟩;obtain⟨hjun,oj,y,C⟩:=mem_ready.1 R;have hjlt:=(C6.1 y).1;have w:j=k.1:=by grind [yX,t6]
   subst w;rw[r]at y;simp only[C2]at y;subst y;unfold zX;rw[r];simp only[f,CI (show ¬false=true by decide)];have post:∀u,Uu P TE ops k.2 (RV P TE N ops ds nm l K u) u->pU ops ds u (listed.setIfInBounds k.1 true)->(∀p,listed.getD p false=true->uQ ds (dL ops p)=true->Ag ops k.1 p=false->XU P TE ops p u)/\M8 P TE N ops ds K l.length (listed.setIfInBounds k.1 true) u:=λu L W=>by
    obtain⟨X,hrd⟩:=Gi L;refine⟨λp hp1 hp2 hp3=>hrd p ?_,HZ b l _ _ q5 (by simpa using hs) B W (H.put hready) X⟩;have hpl:p<ops.size:=ψ
    grind [iO,uI,v4]
   cases hlater:l.any (λj=>uQ ds (dL ops j.1)) with
   | false=>
    refine lW c λu L=>post u L ⟨λO Q V g n hl'' J=>?_,λO Q T s g n hl''=>?_⟩
    all_goals grind [yX,bM]
   | true=>
    rw[hlater]at r3;simp only[Bool.not_true,Bool.false_or,I0]at r3;obtain⟨x,hx1,q⟩:=I7.1 hlater;have Y:listed.getD x.1 true=false/\x.1<ops.size:=by
     have G:x.1<ops.size:=by
      rcases Nat.lt_or_ge x.1 ops.size with h|h
      ·exact h
      rw[show dL ops x.1=default by simp[dL,CD,Array.getElem?_eq_none h]]at q;cases q
     grind [yX]
    have M:ops[x.1]? = some ops[x.1]:=ψ
    rw[bM M]at q;obtain⟨d,hd,hdd⟩:=Qj q;have hxk:x.1≠k.1:=ψ
    refine lW (Wt (d:=d) (Bh r3.1) r3.2 (λe=>?_) (λhlk=>?_) (a.dst x.1 _ d q M Y.1 hd) c) λu S=>post u S.1 (a.us b r C S.2)
    ·grind [uQ]
    have:=b.look x.1 k.1 _ _ d q hxk M r hd hlk
    grind [cB]
theorem Kb{sch:List (Nat × List Nat)}(h:Je ops ds sch=true):Xh ops ds (Zn sch)/\K5 ops ds sch=true/\sch.length=ops.size/\∀j,j<ops.size->AS sch j=true:=by
 unfold Je at h;simp only[I0]at h;obtain⟨⟨p,k⟩,l⟩:=h;have C:=λj (o:j<ops.size)=>iO p o
 have r:∀(i j:Nat)(c b:Oper),i≠j->ops[i]? = some c->ops[j]? = some b->Gz ops ds (Zn sch) i j=true:=λi j c b a f g=>by grind [iO,Nat.beq_eq]
 refine⟨⟨λj b o e t u=>?_,λi j c b n q a f g=>?_,λi j c b d n a f g w D=>?_,λi j c b d n q a f g w t=>?_,λi j c b n q a f g=>?_,λj b T s n o y A=>?_⟩,l,v4 k,λj o=>?_⟩
 ·grind [bM,Nat.blt_eq]
 ·grind [bM,Gz]
 ·have:=r i j c b a f g
  unfold Gz at this;rw[bM f,bM g,n]at this;have B:yk ops i j=true:=by grind [bM,Nat.beq_refl,yk]
  grind
 ·grind [bM,Nat.beq_refl,Gz]
 all_goals grind [bM,Gz]
theorem yH{l:List Nat} : Jh l j=true↔j∈l:=by grind [v4,Nat.beq_refl,Jh]
def Lg{p:Nat->Prop} : ∀{l:List Nat}{i:Nat},Zy p i l->∀j,j∈i::l->p j
 | [],i,h,j,a=>by rw[z3.1 a];exact h
 | k::l,i,h,j,a=>by
  rcases List.mem_cons.1 a with rfl|a
  ·exact h.1
  exact Lg h.2 j a
theorem Lv{l:List Nat}{K:Prop}{p:Nat->Prop}(h:Z3 l K p):(l=[]->K)/\∀j∈l,p j:=by
 cases l with
 | nil=>exact⟨λ_=>h,ψ⟩
 | cons i l=>exact⟨ψ,Lg h⟩
theorem vE{done:List Nat}(h:listed.size=ops.size)(b:∀j,j<ops.size->listed.getD j true=Jh done j)(l:∀k∈done,k<ops.size) : j∈Region.ready .any ops listed↔j∈Vc ops done:=by
 have c:∀i,listed.getD i false=Jh done i:=λi=>by grind [yH]
 rw[mem_ready];unfold Vc;rw[S8,List.mem_range,I0];constructor
 ·grind [bM]
 rintro⟨a,n,d⟩
 refine⟨ψ,ops[j],OC a,λe f g=>?_⟩;have:=O7.1 d e (by rw[bM (OC a)];simpa using f)
 grind
theorem Xt{K:(Nat->AV)->Prop} : ∀(n:Nat)(done:List Nat)(listed:Array Bool)(F:Nat->AV),listed.size=ops.size->(∀j,j<ops.size->listed.getD j true=Jh done j)->(∀k∈done,k<ops.size)->X6 P TE N ops K n done F->M8 P TE N ops [] K n listed F
 | 0,done,listed,F,c,a,f,h=>by
  obtain⟨g,l⟩:=Lv h;have o:Vc ops done=[]:=List.eq_nil_iff_forall_not_mem.2 λj b=>l j b
  exact⟨List.eq_nil_iff_forall_not_mem.2 λj b=>(by grind [vE]),g o⟩
 | n+1,done,listed,F,c,a,f,h=>by
  obtain⟨g,l⟩:=Lv h;refine⟨λo=>g (List.eq_nil_iff_forall_not_mem.2 λj b=>(by rw[<-vE c a f,o]at b;cases b)),λi t=>?_⟩;have d:=(vE c a f).1 t;have q:=l i d;have u:i<ops.size:=List.mem_range.1 (S8.1 d).1;have r:ops[i]? = some ops[i]:=ψ
  unfold zX;rw[r];simp only;rw[bM r]at q;have w:uQ [] ops[i]=false:=by grind [uQ]
  rw[CI (by rw[w];decide)];refine lW q λy A=>⟨λp _ B=>?_,Xt n (i::done) _ y (by simpa using c) (λj b=>?_) (λk C=>?_) A⟩
  ·grind [uQ]
  ·by_cases e:j=i
   ·subst e
    rw[show Jh (j::done) j=true from yH.2 ψ];simp[c,b]
   rw[getD_set_ne true (Ne.symm e),a j b]
   grind [yH]
  grind
theorem Bc(g:∀t i,TE t=some i->jo P t i)(y:P.follows .mixedOrders=true){id:Nat}{tb:List (Nat × Nat × List Nat)}(b:rL tb id ops=true)(c:DD P TE N tb id ops K F)(A:St w0 M S0 N F a w)(B:∀F' C D,K F'->St w0 M S0 N F' C D->Q .normal C D):(Code.region id ops true).wp P Q a w:=by
 unfold rL at b;unfold DD at c;cases q:BG tb id with
 | none=>grind
 | some p=>
  obtain⟨m,L⟩:=p;rw[q]at b c;simp only at b c;cases k:Nat.ble 65536 m with
  | true=>
   rw[k]at c;refine wp_region_any y ?_;have f:St w0 M S0 N F a {w with drawn:=w.drawn+1}:=by
    obtain⟨S,φ,h⟩:=A;exact⟨S,φ,h.more (w1:={w with drawn:=w.drawn+1}) (λ_ _ h=>h) ψ ⟨rfl,rfl,rfl,z5 _,λ_ _ _=>rfl,λ_ _ _ _=>rfl,λ_ _ _ _=>rfl⟩⟩
   refine vN g (ds:=[]) B ops.size (Array.replicate ops.size false) _ a _ ?_ f;exact Xt ops.size [] _ F (by simp) (λj n=>by simp[n,Jh]) ψ c
  | false=>
  rw[k]at b c;simp only[cond_false]at b c;cases r:Nat.ble 256 m with
  | false=>
   grind [J3]
  | true=>
   rw[r]at b c;simp only[cond_true,PD]at b c;generalize L.take (m - 256)=ds at b c;generalize dec (L.drop (m - 256))=sch at b c;obtain⟨E,l,e,G⟩:=Kb b;refine wp_region_any y ?_;have f:St w0 M S0 N (Ab.clr ds F) a {w with drawn:=w.drawn+1}:=by
    have O:=A.clr ds;obtain⟨S,φ,h⟩:=O;exact⟨S,φ,h.more (w1:={w with drawn:=w.drawn+1}) (λ_ _ h=>h) ψ ⟨rfl,rfl,rfl,z5 _,λ_ _ _=>rfl,λ_ _ _ _=>rfl,λ_ _ _ _=>rfl⟩⟩
   refine vN g (ds:=ds) B ops.size (Array.replicate ops.size false) _ a _ ?_ f;have u:∀d,ds.any (Nat.beq d)=true->∀t,(Ab.clr ds F t).uses d=false:=λd R t=>by
    rw[JB];cases X:ds.any (λd=>(F t).uses d) with
    | true=>rfl
    | false=>
     simp_all
   rw[<-e];refine HZ E sch _ _ l (by simp[e]) (λj n=>by simp_all) ⟨λj o d H J _ R t=>?_,λj o T s H J _ _ U V t=>u s (E.mvs j o T s H J U V) t⟩ (λj Y n Z=>by
     have W:=(C6.1 n).1
     simp_all) c
   grind [Qj]
end
def ix:List (Option Nat)->Kd
 | [ag]=>mi ag
 | a=>.tup a
def wa:ResultVar->Nat
 | .tmp t=>t
 | .cell t _=>t
def GM(tmps:Array Value):ResultVar->Sem Value
 | .tmp t=>pure (tmps.getD t undef)
 | .cell a t=>do loadVar t (<-asAddr (tmps.getD a undef))
def resOne(TE:Nat->Option TI)(F:Nat->AV)(r:ResultVar)(K:Option Nat->List C->Prop):Prop:=
 match r with
 | .tmp t=>(match F t with
   | .X .one cs=>K none cs
   | .X .agg cs=>K (some cs.length) cs
   | _=>False)
 | .cell t T=>match TE T with
  | some i=>bif i.agg || Nat.beq i.size 1 then(match F t with
    | .X .box cs=>bif Nat.beq cs.length i.size then K (uP i) cs else False
    | _=>False) else False
  | none=>False
def resA(TE:Nat->Option TI)(F:Nat->AV):List ResultVar->List Nat->(List (Option Nat)->List C->Prop)->Prop
 | [],_,K=>K [] []
 | r::rs,seen,K=>bif seen.any (Nat.beq (wa r)) then False else resOne TE F r λb c=>resA TE F rs (wa r::seen) λd a=>K (b::d) (c++a)
def Zx:RA->AV
 | .val a cs=>.X (mi a) cs
 | .ptr cs=>.iref cs 0
 | .fn Ok=>.fv Ok
def H4:Nat->List RA->List (Nat × AV)
 | _,[]=>[]
 | i,A::As=>(i,Zx A)::H4 (i+1) As
inductive Tq:C->C->Prop
 |rfl_ (c:C):Tq c c
 |z_:Tq .z (.s .own [])
 |own_ (rows rows':List (List C)) (hl:rows.length=rows'.length) (hk:∀(i:Nat)(r r':List C),rows[i]? = some r->rows'[i]? = some r'->r.length=r'.length)
   (hr:∀(i j:Nat)(r r':List C)(c c':C),rows[i]? = some r->rows'[i]? = some r'->r[j]? = some c->r'[j]? = some c'->Tq c c'):Tq (.s .own rows) (.s .own rows')
def TB(cs a:List C):Prop:=cs.length=a.length/\∀(j:Nat)(c b:C),cs[j]? = some c->a[j]? = some b->Tq c b
def TB.nil:TB [] []:=⟨rfl,λj c a h=>by simp at h⟩
variable{cs a:List C}
theorem TB.cons{c b:C}(h:Tq c b)(d:TB cs a):TB (c::cs) (b::a):=by
 refine⟨by simp[d.1],λj y e f g=>?_⟩;cases j with
 | zero=>grind
 | succ j=>exact d.2 j y e (by simpa using f) (by simpa using g)
def Tq.rep{r r':List C}(h:TB r r'):Tq (.s .own (List.replicate n r)) (.s .own (List.replicate n r')):=by
 refine .own_ _ _ (by simp) (λi a b d e=>?_) (λi j a b c o d e k l=>?_)
 ·have f:=List.mem_replicate.1 (t4 d)
  have g:=List.mem_replicate.1 (t4 e);rw[f.2,g.2];exact h.1
 have f:=List.mem_replicate.1 (t4 d);have g:=List.mem_replicate.1 (t4 e);rw[f.2]at k;rw[g.2]at l;exact h.2 j c o k l
theorem Wf{w:World}{S Y:am}{c:C}{v:Value}(h:di w S Y c v):∀t,Tq c t->di w S Y t v:=by
 induction h with
 | z F a=>
  intro t l;cases l with
  | rfl_=>exact .z _ _
  | z_=>exact .nil _ _ _ tV1
 | nil F o a J=>
  intro t l;cases l with
  | rfl_=>exact .nil _ _ _ J
  | own_ d j L=>obtain rfl:j=[]:=SE (by simpa using L.symm);exact .nil _ _ _ tV1
 | suf F o g D k n q d u f J K M e A O P l E U=>
  intro t G;cases G with
  | rfl_=>exact .suf _ o g D k n q d u f J K M e A O P l E
  | own_=>exact J.elim
 | own F o g k n q d u f J K M e B A O P l E U=>
  intro t G;cases G with
  | rfl_=>exact .own _ o g k n q d u f J K M e B A O P l E
  | own_ d j L Z V=>
   have W:∀(i:Nat)(X:List C),j[i]? = some X->∃r,d[i]? = some r:=ψ
   refine .own _ .own g k n q j u f tV1 (L.symm.trans K) (λX hr'=>?_) e B A O P l ψ
   all_goals grind [List.mem_iff_getElem?]
 | v F x Q=>intro t l;cases l;exact .v _ _ Q
 | x F u Q=>intro t l;cases l;exact .x _ _ Q
 | O F g D k n q d u K M e hS E U=>intro t l;cases l;exact .O _ g D k n q d u K M e hS E
 | m F b p es y A R he T H=>intro t l;cases l;exact .m _ b p es y A R he T H
 | it F r b since c0 p seen y cur left A V R H E T L N=>intro t l;cases l;exact .it _ r b since c0 p seen y cur left A V R H E T L N
def WK(cs a:List C):Prop:=RB cs a\/TB cs a
inductive km(k k':Kd)(cs cs':List C):Prop
 |mk_ (h:k=k'/\WK cs cs')
def lX:∀(cs:List C),RB cs cs
 | []=>trivial
 | c::cs=>by
  refine⟨?_,lX cs⟩;cases c with
  | s o a=>cases o<;>rfl
  | x=>trivial
  | _=>rfl
variable{k b:Kd}
def km.mk(h1:k=b)(h2:cs=a):km k b cs a:=by refine .mk_ ?_;exact⟨h1,.inl (h2 ▸ lX cs)⟩
def km.wk(h1:k=b)(h2:RB cs a):km k b cs a:=.mk_ ⟨h1,.inl h2⟩
def km.dk(h1:k=b)(h2:TB cs a):km k b cs a:=.mk_ ⟨h1,.inr h2⟩
def km.out(h:km k b cs a):k=b/\WK cs a:=by obtain⟨h⟩:=h;exact h
theorem WK.len(h:WK cs a):cs.length=a.length:=h.elim (λh=>(xC h).1) (λh=>h.1)
theorem WK.row{w:World}{S Y:am}{c:List C}{u:Nat->Value}(a:WK cs c)(h:cz w S Y cs u):cz w S Y c u:=by
 rcases a with a|a
 ·exact HF a h
 obtain⟨f,k,l,n⟩:=h;refine⟨f,λj i b=>?_,λj b=>l j (by rw[a.1];exact b),λj o b e=>n j o (by rw[a.1];exact b) (by rw[a.1];exact e)⟩;have g:=(C4.1 b).1;have d:cs[j]? = some (cs[j]'(by rw[a.1];exact g)):=ψ
 exact Wf (k j _ d) i (a.2 j _ i d b)
def WD(TE:Nat->Option TI)(c:List ResultVar)(k:Kd)(rcs:List C):Exit->(Nat->AV)->Prop:=λe F=>
 match e with
 | .normal=>resA TE F c [] λa b=>km (ix a) k b rcs
 | .ret=>resA TE F c [] λa b=>km (ix a) k b rcs
 | _=>False
section
variable{P:Program}{w0 w w1:World}{M S0 S:am}{N:gk}{φ:Nat->am}{F:Nat->AV}{a:Act}{TE:Nat->Option TI}
theorem br.resOne(h:br w0 M S0 N S φ F a w)(n:∀t i,TE t=some i->jo P t i){r:ResultVar}{K:Option Nat->List C->Prop}(b:resOne TE F r K) :
  ∃ag cs v,K ag cs/\bA w S (φ (wa r)) ag cs v/\(GM a.tmps r).run P w=.ok v w:=by
 cases r with
 | tmp t=>
  have e:=h.slot t;simp only[Ab.resOne]at b;cases p:F t with
  | X k cs=>
   rw[p]at b e;obtain⟨E,Y,G,j,H,A,l⟩:=e;cases k with
   | one=>exact⟨none,cs,tvs a t,b,⟨A,_,rfl,l.mono (λ_ _ h=>h) j⟩,rfl⟩
   | agg=>
    obtain⟨arr,q,u⟩:=A;refine⟨some cs.length,cs,tvs a t,b,⟨rfl,cu w .agg (tvs a t),?_,l.mono (λ_ _ h=>h) j⟩,rfl⟩;rw[q];have:=re arr;rw[u]at this;exact this
   | _=>exact b.elim
  | _=>grind
 | cell t T=>
  have e:=h.slot t;simp only[Ab.resOne]at b;split at b
  case h_2=>exact b.elim
  rename_i i J;have L:=n _ _ J;cases B:(i.agg || Nat.beq i.size 1) with
  | false=>grind
  | true=>
   rw[B]at b;simp only[cond_true]at b;cases p:F t with
   | X k cs=>
    rw[p]at b e;cases k with
    | box=>
     simp only at b;cases D:Nat.beq cs.length i.size with
     | false=>grind
     | true=>
      rw[D]at b;have O:=v4 D;obtain⟨E,Y,G,j,H,⟨g,o,q,Q⟩,l⟩:=e;have c:∀d,d<i.size->cel w g (o+d)=some (cu w .box (tvs a t) d):=λd R=>by grind [cu]
      have f:=Da (w:=w) L B c;refine⟨_,cs,_,b,⟨by grind [tG],_,rfl,l.mono (λ_ _ h=>h) j⟩,?_⟩;have y:a.tmps.getD t undef=.pointer (some ⟨g,o,none⟩):=q;simp only[GM,y,asAddr];exact f
    | _=>exact b.elim
   | _=>grind
def P6{ag:Option Nat}{cs:List C}{v:Value}{Y:am}(h:bA w S Y ag cs v):∃u,v.cells.toList=(List.range cs.length).map u/\cz w S Y cs u/\v=mkv ag u:=by
 obtain⟨a,u,rfl,b⟩:=h;refine⟨u,?_,b,rfl⟩;rw[uK (λe=>by subst e;exact b.one (by simp at a;omega)),a]
theorem E3{d e:am}{cs a:List C}{u g:Nat->Value}(h:cz w S d cs u)(h':cz w S e a g)(p:∀b o,d b o->¬e b o) :
  cz w S (λb o=>d b o\/e b o) (cs++a) (λj=>if j<cs.length then u j else g (j - cs.length)):=by
 obtain⟨f,q,r,t⟩:=h;obtain⟨i,k,l,n⟩:=h';refine⟨λj=>if j<cs.length then f j else i (j - cs.length),λj c y=>?_,ψ,ψ⟩
 all_goals grind
theorem br.resA(h:br w0 M S0 N S φ F a w)(e:∀t i,TE t=some i->jo P t i):∀{p:List ResultVar}{seen:List Nat}{K:List (Option Nat)->List C->Prop},resA TE F p seen K->
  ∃sh cs vs u,K sh cs/\(p.mapM (GM a.tmps)).run P w=.ok vs w/\Dg sh vs/\sh.length=p.length/\z8 sh=cs.length/\
   (vs.flatMap λv=>v.cells.toList)=(List.range cs.length).map u/\(∀ag,sh=[ag]->∃v,vs=[v]/\bA w S (λb o=>∃t,t∉seen/\φ t b o) ag cs v)/\cz w S (λb o=>∃t,t∉seen/\φ t b o) cs u
 | [],seen,K,c=>⟨[],[],[],λ_=>undef,c,rfl,tV1,rfl,rfl,rfl,ψ,cz.nil _ _ _ _⟩
 | r::p,seen,K,c=>by
  simp only[Ab.resA]at c;cases d:seen.any (Nat.beq (wa r)) with
  | true=>grind
  | false=>
   rw[d]at c;simp only[cond_false]at c;have L:wa r∉seen:=λY=>by grind [Nat.beq_refl]
   obtain⟨ag,cs,v,c,q,G⟩:=h.resOne e c;obtain⟨sh,f,vs,O,Q,y,A,B,R,hcells,-,g⟩:=br.resA h e c;obtain⟨u,D,H,k⟩:=P6 q;have T:∀b o,φ (wa r) b o->¬∃t,t∉wa r::seen/\φ t b o:=λb o U ⟨t,Z,E⟩=>h.dis _ _ ψ b o U E
   refine⟨ag::sh,cs++f,v::vs,λj=>if j<cs.length then u j else O (j - cs.length),Q,?_,?_,by simp[B],?_,?_,?_,?_⟩
   ·simp_all
   ·obtain⟨V,-⟩:=q
    cases ag with
    | none=>
     refine⟨?_,A⟩;rw[k];have J:(u 0).oneCell'=true:=H.one (by simp at V;omega);show(u 0).cells = #[u 0];cases W:u 0<;>first|(rw[W]at J;cases J;done)|rfl
    | some n=>exact⟨⟨_,by rw[k];rfl,by simp⟩,A⟩
   ·rw[vC,I5,R,q.1]
   ·simp only[ID,D,hcells,I5]
    apply List.ext_getElem?
    grind
   ·intro X l
    simp only[List.cons.injEq]at l;obtain⟨rfl,rfl⟩:=l;cases vs with
    | cons _ _=>exact A.elim
    | nil=>
     have:f=[]:=SE (by simp_all);subst this;exact⟨v,rfl,by rw[List.append_nil];exact q.mono (λ_ _ h=>h) ψ⟩
   exact(E3 H g T).mono (λ_ _ h=>h) ψ
theorem GG:∀{A:List RA}{vs:List Value}(i:Nat),E9 w S A vs->∀t,(lay (H4 i A) t=.dead)\/(∃a v,i<=t/\vs[t - i]? = some v/\lay (H4 i A) t=Zx a/\sD w S a v)
 | [],_,i,_,t=>.inl rfl
 | a::A,[],i,h,t=>h.elim
 | a::A,v::vs,i,h,t=>by
  simp only[H4,lay];cases b:Nat.beq t i with
  | true=>
   have:=v4 b;subst this;exact .inr ⟨a,v,z5 _,by simp,rfl,h.1⟩
  | false=>
   have c:t≠i:=λe=>by simp_all
   rcases GG (i+1) h.2 t with d|⟨f,g,d,j,k⟩
   all_goals grind
theorem sD.slot{A:RA}{v:Value}(h:sD w S A v){tv:Nat->Value} : cR w S F tv NO (Zx A) v:=by
 cases A with
 | val f a=>exact bA.slot h
 | ptr a=>obtain⟨g,b,u,c,d,e⟩:=h;exact⟨g,b,u,by rw[c,Nat.add_zero],d,e⟩
 | fn Ok=>exact h
def QE:∀{A:List RA}{vs:List Value},E9 w S A vs->A.length=vs.length
 | [],[],_=>rfl
 | _::_,_::_,h=>by simp[QE h.2]
 | [],_::_,h=>h.elim
 | _::_,[],h=>h.elim
theorem Ra{D : Nat -> Array Oper -> ((Nat -> AV) -> Prop) -> (Nat -> AV) -> Prop}{f : Nat}{d : Func}{c : Code}{sh : Bool}{A : List RA}{k : Kd}{rcs : List C}(K : ∀t i, TE t = some i -> jo P t i)(hf : P.funcs[f]? = some d)(hn : (d.name == "runtime.NumGoroutine") = false)(p:d.body=some c){ck:Nat->Array Oper->Bool}(hD:Dk P N ck D)(hc:iy ck c=true)(hN:A.length+(d.ntmps - A.length)=N.n)(hkp:N.kp=[])(U:sh=true\/gl rcs)(hp:aw P TE N D c (WD TE d.results.toList k rcs) (lay (H4 0 A))):ah P f sh A k rcs:=by
 refine⟨⟨d,hf,hn,by rw[p];rfl⟩,λw S r hS hA=>?_⟩;have hlen:=QE hA;refine calls_of_wp hf p ?_;have V:St w NO S N (lay (H4 0 A)) {tmps:=r.toArray++Array.replicate (d.ntmps - r.toArray.size) undef,defers:=[]} w:=by
  refine⟨S,λ_=>NO,λt=>?_,λ_ _ _ _ _ h=>h.elim,λ_ _ _ h=>h.elim,λ_ _ _ h=>h.elim,λ_ _ h=>h,ψ,Ck _ _,by simp;omega,rfl,ψ⟩;rcases GG 0 hA t with y|⟨A0,v,-,B,G,h4⟩
  ·rw[y];trivial
  rw[G];have hv:tvs {tmps:=r.toArray++Array.replicate (d.ntmps - r.toArray.size) undef,defers:=[]} t=v:=by
   have hlt:=(C4.1 B).1;simp only[tvs,CD]
   grind
  grind [sD.slot]
 refine kL K hD c hc _ _ _ _ w hp V λe F' J g W Z=>?_
 obtain⟨S',φ',h⟩:=Z;have fin:resA TE F' d.results.toList [] (λsh L=>km (ix sh) k L rcs)->J.defers=[]/\∃v,(results d J.tmps).run P g=.ok v g/\(∃v',Ending.returned v=.returned v'/\bK NO w g/\∃X S1:am,(∀b o,X b o->b<g.heap.size/\w.heap.size<=b)/\
     (∀b o,S1 b o->(sh=true/\S b o)\/(b<g.heap.size/\w.heap.size<=b))/\(∀b o,X b o->¬S1 b o)/\gG g NO k rcs.length v'/\cz g S1 X rcs (cu g k v')):=by
  intro hr;obtain⟨shs,L,a,u,M,hrun,q,hln,R,hcells,l,O⟩:=h.resA K hr;obtain⟨rfl,hwk⟩:=M.out;refine⟨h.defers,?_⟩;have H:(results d J.tmps).run P g=.ok (if h:a.toArray.size=1 then a.toArray[0] else .tuple a.toArray) g:=by
   have e:results d J.tmps=(do let r <-d.results.mapM (GM J.tmps);pure (if h:r.size=1 then r[0] else .tuple r)):=by
    unfold results
    congr 1
   rw[e,<-Array.toArray_toList (xs:=d.results),List.mapM_toArray]
   simp_all
  refine⟨_,H,_,rfl,h.old,λb o=>∃t,φ' t b o,λb o=>(sh=true/\S' b o)\/(S' b o/\w.heap.size<=b),λb o ⟨t,p⟩=>⟨(h.ex t b o p).1,(h.ex t b o p).2.resolve_right (λh=>h)⟩,λb o p=>?_,λb o ⟨t,p⟩ hb'=>h.disS t b o p ψ,?_⟩
  ·rcases p with⟨y,B⟩|⟨y,B⟩
   ·rcases(h.sup b o B).2 with G|G|G
    ·grind
    ·exact .inr ⟨(h.sup b o B).1,G⟩
    exact G.elim
   exact .inr ⟨(h.sup b o y).1,B⟩
  have Q:gG g NO (ix shs) L.length (if h:a.toArray.size=1 then a.toArray[0] else .tuple a.toArray)/\cz g S' (λb o=>∃t,φ' t b o) L (cu g (ix shs) (if h:a.toArray.size=1 then a.toArray[0] else .tuple a.toArray)):=by
   have E:∀b o,(∃t,t∉([]:List Nat)/\φ' t b o)->∃t,φ' t b o:=ψ
   match shs,q,l,R with
   | [],q,_,R=>
    cases a with
    | cons _ _=>exact q.elim
    | nil=>
     have:L=[]:=ψ
     subst this;exact⟨⟨_,rfl,tV1,rfl⟩,cz.nil _ _ _ _⟩
   | [T],_,l,_=>
    obtain⟨v,rfl,hv⟩:=l T rfl;have:=(hv.mono (λ_ _ h=>h) E).slot (F:=F') (tv:=tvs J);obtain⟨X1,Y,y,B,G,h4,h5⟩:=this;refine⟨?_,h5.mono (λ_ _ h=>h) B⟩;cases T<;>exact h4
   | T::ag2::sh,q,_,R=>
    have hsz:¬a.toArray.size=1:=by
     match a,q with
     | [],q=>simp
     | [v],q=>cases T<;>cases ag2<;>exact q.2.elim
     | _::_::_,_=>simp
    rw[dif_neg hsz];refine⟨⟨_,rfl,q,R⟩,(O.mono (λ_ _ h=>h) E).congr λj hj=>?_⟩;simp only[cu,ix,nI,hcells];simp[List.getD,hj]
  replace Q:=CK Q.1 (hwk.row Q.2);refine⟨by grind [WK.len],?_⟩;rcases U with y|y
  ·exact Q.2.mono ψ (λ_ _ h=>h)
  exact(Q.2.fresh y).mono (λ_ _ h=>h.elim) (λ_ _ h=>h)
 cases e with
 | normal=>exact fin W
 | ret=>exact fin W
 | _=>exact W.elim
end
def DF(P:Program)(TE:Nat->Option TI)(N:gk)(tb:List (Nat × Nat × List Nat))(id:Nat)(ops:Array Oper)(K:(Nat->AV)->Prop)(F:Nat->AV):Prop:=
 match BG tb (id+1048576) with
 | some (t,offs)=>xN t offs (DD P TE N tb id ops K) F
 | none=>DD P TE N tb id ops K F
variable{P:Program}
def wo{TE:Nat->Option TI}(a:∀t i,TE t=some i->jo P t i)(e:P.follows .mixedOrders=true)(N:gk)(tb:List (Nat × Nat × List Nat)):Dk P N (rL tb) (DF P TE N tb):=
 λ_ _ b _ _ _ _ _ _ _ _ c f g=>by
  unfold DF at c;split at c
  ·obtain⟨j,h,d⟩:=DX c f
   exact Bc a e b h d g
  exact Bc a e b c f g
def zI:C:=.v (.int .i64 0)
def Qk:List (Nat × Nat × TI)->Nat->Option TI
 | [],_=>none
 | p::l,t=>bif Nat.beq t p.1 || Nat.beq t p.2.1 then some p.2.2 else Qk l t
def XS(P:Program):List (Nat × Nat × TI)->Prop
 | []=>True
 | p::l=>(jo P p.1 p.2.2/\jo P p.2.1 p.2.2)/\XS P l
def LI{P:Program} : ∀{l:List (Nat × Nat × TI)},XS P l->∀t i,Qk l t=some i->jo P t i
 | [],_,t,i,h=>by cases h
 | p::l,b,t,i,h=>by
  simp only[Qk]at h;cases a:(Nat.beq t p.1 || Nat.beq t p.2.1) with
  | true=>
   rw[a]at h;simp only[cond_true,C2]at h;subst h;simp only[IC]at a;rcases a with e|e
   ·rw[v4 e];exact b.1.1
   rw[v4 e];exact b.1.2
  | false=>rw[a]at h;exact LI b.2 t i h
def Z9:TypeDesc->Prop
 | .struct _=>False
 | .array _ _=>False
 | _=>True
def ZW:TypeDesc->Option (List (Nat × Nat))
 | .struct fs=>some (fs.toList.map (λf=>(f.offset,f.type)))
 | _=>none
section
variable{P:Program}{t e:Nat}{i:TI}
def ZO{d:TypeDesc}(k:i.kind=.sc d:=by rfl)(h:P.underlying t=some d:=by kernel_rfl)(a:(P.info? t).map (λx=>(x.zero.map (·.cells.toList),x.size,x.bytes))=some (some (i.zero.map cval),i.size,i.bytes):=by kernel_rfl)(z:mO i.zero:=by repeat' first|exact tV1|refine CK rfl ?_)(n:Z9 d:=by trivial):jo P t i:=⟨a,z,by rw[k];refine⟨h,?_⟩;revert n;cases d<;>exact id⟩
def ZY(k:i.kind=.sl e:=by rfl)(h:P.underlying t=some (.slice e):=by kernel_rfl)(a:(P.info? t).map (λx=>(x.zero.map (·.cells.toList),x.size,x.bytes))=some (some (i.zero.map cval),i.size,i.bytes):=by kernel_rfl)(z:mO i.zero:=by repeat' first|exact tV1|refine CK rfl ?_):jo P t i:=⟨a,z,by rw[k];exact h⟩
def ZM{f:List (Nat × Nat)}(k:i.kind=.st f:=by rfl)(h:(P.underlying t).bind ZW=some f:=by kernel_rfl)(a:(P.info? t).map (λx=>(x.zero.map (·.cells.toList),x.size,x.bytes))=some (some (i.zero.map cval),i.size,i.bytes):=by kernel_rfl)(z:mO i.zero:=by repeat' first|exact tV1|refine CK rfl ?_):jo P t i:=⟨a,z,by
  rw[k];obtain⟨d,b,c⟩:=Option.bind_eq_some_iff.1 h;cases d<;>cases c
  exact⟨_,b,rfl⟩⟩
def ZP{v:Value}(k:i.kind=.mp 3 e v:=by rfl)(h:P.underlying t=some (.map 3 e):=by kernel_rfl)(d:P.underlying 3=some (.int .i64):=by kernel_rfl)(a:(P.info? t).map (λx=>(x.zero.map (·.cells.toList),x.size,x.bytes))=some (some (i.zero.map cval),i.size,i.bytes):=by kernel_rfl)(z:mO i.zero:=by repeat' first|exact tV1|refine CK rfl ?_)(b:(P.info? e).bind (·.zero)=some v:=by kernel_rfl)(c:v.oneCell'=true:=by rfl):jo P t i:=⟨a,z,by rw[k];exact⟨h,d,b,c⟩⟩
end
def tab:List (Nat × Nat × TI):=[(3,2,⟨1,8,[zI],.sc (.int .i64)⟩),(4,4,⟨1,1,[.v (.bool false)],.sc .bool⟩),(5,6,⟨1,1,[.v (.int .u8 0)],.sc (.int .u8)⟩),(7,8,⟨4,24,[zI,zI,.v (.bool false),.v (.int .u8 0)],.st [(0,2),(1,3),(2,4),(3,6)]⟩),(9,10,⟨1,16,[.v (.string ⟨#[]⟩)],.sc .string⟩),(11,11,⟨1,16,[.v (.string ⟨#[]⟩)],.sc .string⟩),(12,376,⟨1,8,[.v (.int .u64 0)],.sc (.int .u64)⟩),(13,14,⟨2,24,[.v (.string ⟨#[]⟩),.v (.int .u64 0)],.st [(0,9),(1,12)]⟩),(21,494,⟨1,4,[.v (.int .i32 0)],.sc (.int .i32)⟩),(22,22,⟨1,24,[.z],.sl 31⟩),(23,23,⟨1,24,[.z],.sl 4⟩),(24,25,⟨2,48,[.z,.z],.st [(0,22),(1,23)]⟩),(26,26,⟨1,24,[.z],.sl 457⟩),(27,28,⟨1,24,[.z],.st [(0,26)]⟩),(29,30,⟨3,72,[.z,.z,.z],.st [(0,25),(2,28)]⟩),(31,31,⟨1,24,[.z],.sl 3⟩),(32,33,⟨5,104,[.z,.z,.z,zI,.z],.st [(0,30),(3,3),(4,31)]⟩),(34,34,⟨1,24,[.z],.sl 293⟩),(35,35,⟨1,24,[.z],.sl 295⟩),(36,36,⟨1,24,[.z],.sl 297⟩),(37,37,⟨1,24,[.z],.sl 299⟩),(38,38,⟨1,24,[.z],.sl 250⟩),(39,39,⟨1,24,[.z],.sl 371⟩),(40,41,⟨2,48,[.z,.z],.st [(0,39),(1,22)]⟩),(42,42,⟨1,24,[.z],.sl 394⟩),(43,44,⟨2,32,[zI,.z],.st [(0,3),(1,42)]⟩),(45,46,⟨3,40,[zI,zI,.z],.st [(0,3),(1,3),(2,31)]⟩),(47,48,⟨5,56,[zI,zI,.z,zI,zI],.st [(0,46),(3,3),(4,3)]⟩),(49,50,⟨24,400,[.z,.z,.z,zI,.z,.z,.z,.z,.z,.z,.z,.z,zI,.z,zI,zI,zI,zI,.v (.bool false),zI,zI,.z,zI,zI],.st [(0,33),(5,34),(6,35),(7,36),(8,37),(9,38),(10,41),(12,44),(14,3),(15,3),(16,3),(17,3),(18,4),(19,48)]⟩),(51,51,⟨1,24,[.z],.sl 256⟩),(52,53,⟨2,32,[zI,.z],.st [(0,3),(1,51)]⟩),(54,55,⟨26,432,[.z,.z,.z,zI,.z,.z,.z,.z,.z,.z,.z,.z,zI,.z,zI,zI,zI,zI,.v (.bool false),zI,zI,.z,zI,zI,zI,.z],.st [(0,50),(24,53)]⟩),(56,57,⟨5,40,[zI,zI,zI,zI,zI],.st [(0,3),(1,3),(2,3),(3,3),(4,3)]⟩),(59,59,⟨2,48,[.z,.z],.st [(0,22),(1,23)]⟩),(60,60,⟨1,24,[.z],.sl 273⟩),(61,62,⟨1,24,[.z],.st [(0,60)]⟩),(63,64,⟨3,72,[.z,.z,.z],.st [(0,59),(2,62)]⟩),(65,66,⟨5,104,[.z,.z,.z,zI,.z],.st [(0,64),(3,3),(4,31)]⟩),(67,67,⟨1,24,[.z],.sl 265⟩),(68,68,⟨1,24,[.z],.sl 219⟩),(69,69,⟨1,24,[.z],.sl 270⟩),(70,70,⟨1,24,[.z],.sl 128⟩),(71,71,⟨1,24,[.z],.sl 167⟩),(72,72,⟨1,24,[.z],.sl 276⟩),(73,74,⟨2,48,[.z,.z],.st [(0,72),(1,22)]⟩),(75,75,⟨1,24,[.z],.sl 164⟩),(76,77,⟨2,32,[zI,.z],.st [(0,3),(1,75)]⟩),(78,78,⟨3,40,[zI,zI,.z],.st [(0,3),(1,3),(2,31)]⟩),(79,80,⟨5,56,[zI,zI,.z,zI,zI],.st [(0,78),(3,3),(4,3)]⟩),(81,82,⟨24,400,[.z,.z,.z,zI,.z,.z,.z,.z,.z,.z,.z,.z,zI,.z,zI,zI,zI,zI,.v (.bool false),zI,zI,.z,zI,zI],.st [(0,66),(5,67),(6,68),(7,69),(8,70),(9,71),(10,74),(12,77),(14,3),(15,3),(16,3),(17,3),(18,4),(19,80)]⟩),(83,83,⟨1,24,[.z],.sl 194⟩),(84,85,⟨2,32,[zI,.z],.st [(0,3),(1,83)]⟩),(86,87,⟨26,432,[.z,.z,.z,zI,.z,.z,.z,.z,.z,.z,.z,.z,zI,.z,zI,zI,zI,zI,.v (.bool false),zI,zI,.z,zI,zI,zI,.z],.st [(0,82),(24,85)]⟩),(91,91,⟨5,40,[zI,zI,zI,zI,zI],.st [(0,3),(1,3),(2,3),(3,3),(4,3)]⟩),(96,97,⟨5,56,[zI,zI,zI,zI,.z],.st [(0,3),(1,3),(2,3),(3,3),(4,31)]⟩),(98,98,⟨1,24,[.z],.sl 57⟩),(103,103,⟨5,56,[zI,zI,zI,zI,.z],.st [(0,3),(1,3),(2,3),(3,3),(4,31)]⟩),(105,105,⟨1,24,[.z],.sl 91⟩),(127,128,⟨4,32,[zI,zI,zI,zI],.st [(0,3),(1,3),(2,3),(3,3)]⟩),(163,164,⟨3,24,[zI,zI,zI],.st [(0,3),(1,3),(2,3)]⟩),(166,167,⟨1,24,[.z],.st [(0,22)]⟩),(193,194,⟨2,32,[zI,.z],.st [(0,3),(1,31)]⟩),(213,213,⟨1,24,[.z],.sl 221⟩),(218,219,⟨3,24,[zI,zI,zI],.st [(0,3),(1,3),(2,3)]⟩),(220,221,⟨2,16,[zI,zI],.st [(0,3),(1,3)]⟩),(250,250,⟨1,24,[.z],.st [(0,22)]⟩),(256,256,⟨2,32,[zI,.z],.st [(0,3),(1,31)]⟩),(264,265,⟨2,16,[zI,zI],.st [(0,3),(1,3)]⟩),(269,270,⟨3,24,[zI,zI,zI],.st [(0,3),(1,3),(2,3)]⟩),(272,273,⟨2,16,[zI,zI],.st [(0,3),(1,3)]⟩),(276,276,⟨1,24,[.z],.sl 278⟩),(277,278,⟨2,16,[zI,zI],.st [(0,3),(1,3)]⟩),(282,283,⟨4,32,[zI,zI,zI,zI],.st [(0,3),(1,3),(2,3),(3,3)]⟩),(293,436,⟨2,16,[zI,zI],.st [(0,3),(1,3)]⟩),(295,297,⟨3,24,[zI,zI,zI],.st [(0,3),(1,3),(2,3)]⟩),(299,299,⟨4,32,[zI,zI,zI,zI],.st [(0,3),(1,3),(2,3),(3,3)]⟩),(307,307,⟨1,8,[.v (.map none)],.mp 3 4 (.bool false)⟩),(312,312,⟨1,8,[.v (.map none)],.mp 3 3 (.int .i64 0)⟩),(371,371,⟨1,24,[.z],.sl 436⟩),(394,394,⟨3,24,[zI,zI,zI],.st [(0,3),(1,3),(2,3)]⟩),(457,457,⟨2,16,[zI,zI],.st [(0,3),(1,3)]⟩),(460,460,⟨1,8,[zI],.sc (.int .i64)⟩),(467,467,⟨1,4,[.v (.int .u32 0)],.sc (.int .u32)⟩),(469,474,⟨1,8,[.v (.int .u64 0)],.sc (.int .u64)⟩),(487,488,⟨0,0,[],.st [(0,486)]⟩),(490,491,⟨1,1,[.v (.int .u8 0)],.sc (.int .u8)⟩),(495,495,⟨1,4,[.v (.int .i32 0)],.sc (.int .i32)⟩)]
abbrev zzA:=ah Tryz.prog
abbrev zzB:=aT Tryz.prog
set_option maxRecDepth 100000 in
def XL:XS Tryz.prog tab:=by repeat' first|exact tV1|refine CK (CK ?_ ?_) ?_|exact ZY|exact ZM|exact ZO|exact ZP
def TE:Nat->Option TI:=Qk tab
def rV:∀t i,TE t=some i->jo Tryz.prog t i:=LI XL
def Yk:C->Value->C
 | .s .own rows,v=>.s (.tag v) rows
 | .s .suf rows,v=>.s (.tagS v) rows
 | c,_=>c
def FS(u:Nat->Value):Nat->List C->List C
 | _,[]=>[]
 | j,c::cs=>Yk c (u j)::FS u (j+1) cs
def BF(u:Nat->Nat->Value):Nat->List MA->List (Nat × AV)
 | _,[]=>[]
 | i,.val a cs::A=>(i,.X (mi a) cs)::BF u (i+1) A
 | i,.mut a cs::A=>(i,.X (mi a) (FS (u i) 0 cs))::BF u (i+1) A
 | i,.ptr cs::A=>(i,.X .box cs)::BF u (i+1) A
def PE(p:Nat->Value):Nat->List MA->List (Nat × Value)
 | _,[]=>[]
 | i,.ptr _::A=>(i,p i)::PE p (i+1) A
 | i,_::A=>PE p (i+1) A
def Mn:Nat->List MA->List (Nat × Nat)->List (Option Nat)
 | i,.val _ _::A,_::pl=>none::Mn (i+1) A pl
 | i,.mut _ _::A,p::pl=>some p.1::Mn (i+1) A pl
 | i,.ptr _::A,_::pl=>some i::Mn (i+1) A pl
 | _,_,_=>[]
def Py:List (Option Nat)->Bool
 | []=>true
 | none::l=>Py l
 | some t::l=>l.all (λx=>match x with|some a=>!Nat.beq t a|none=>true)&&Py l
def sles:List (Option Nat)->List Nat
 | []=>[]
 | none::l=>sles l
 | some t::l=>t::sles l
def Zp(v:Value)(c y o:C):Prop:=
 match c with
 | .s .own _=>(match y with|.s (.tag v') rows=>v'=v/\o=.s .own rows|_=>False)
 | .s (.tag _) _=>False
 | .s .suf _=>(match y with|.s (.tagS v') rows=>v'=v/\o=.s .suf rows|_=>False)
 | .s (.tagS _) _=>False
 | .m _=>False
 | .it _ _=>False
 | c=>o=c
def Xo(u:Nat->Value):Nat->List C->List C->List C->Prop
 | _,[],_,o=>o=[]
 | j,c::cs,y::xs,o::os=>Zp (u j) c y o/\Xo u (j+1) cs xs os
 | _,_,_,_=>False
def kb(u:Nat->Nat->Value)(F:Nat->AV):Nat->List MA->List (Nat × Nat)->List MA->Prop
 | _,[],_,[]=>True
 | i,.val _ _::A,_::pl,.val _ _::B=>kb u F (i+1) A pl B
 | i,.mut ag cs::A,p::pl,.mut a out::B=>(a=ag/\match F p.1 with|.X _ xs=>Xo (u i) 0 cs (xs.drop p.2) out|_=>False)/\kb u F (i+1) A pl B
 | i,.ptr _::A,_::pl,.ptr out::B=>(match F i with|.X .box xs=>xs=out|_=>False)/\kb u F (i+1) A pl B
 | _,_,_,_=>False
inductive aV(k k':Kd)(cs cs':List C)(Q:Prop):Prop
 |mk_ (h:k=k'/\cs=cs'/\Q)
theorem aV.mk{Q:Prop}(h1:k=b)(h2:cs=a)(c:Q):aV k b cs a Q:=by refine .mk_ ?_;grind
def CN:type_of% @aV.mk:=@aV.mk
def aV.out{Q:Prop}(h:aV k b cs a Q):k=b/\cs=a/\Q:=by obtain⟨h⟩:=h;exact h
def XY(TE:Nat->Option TI)(d:List ResultVar)(k:Kd)(rcs:List C)(u:Nat->Nat->Value)(A B:List MA)(a:List (Nat × Nat)):Exit->(Nat->AV)->Prop:=λe F=>
 match e with
 | .normal=>resA TE F d (sles (Mn 0 A a)) λb c=>aV (ix b) k c rcs (kb u F 0 A a B)
 | .ret=>resA TE F d (sles (Mn 0 A a)) λb c=>aV (ix b) k c rcs (kb u F 0 A a B)
 | _=>False
section
variable{P:Program}{w0 w w1:World}{M S0 S:am}{N:gk}{φ:Nat->am}{F:Nat->AV}{a:Act}{TE:Nat->Option TI}
theorem di.tag{Y:am}{c:C}{v:Value}(h:di w S Y c v):di w S Y (Yk c v) v:=by
 cases h with
 | nil _ o a l=>cases o with
  | own=>exact .nil _ _ _ rfl
  | suf=>exact .nil _ _ _ rfl
  | _=>exact .nil _ _ _ l
 | own _ o g k n i d u f l B D e A q F G H t=>cases o with
  | own=>exact .own _ _ g k n i d u f rfl B D e A q F G H t
  | O=>exact l.elim
  | tag z=>exact .own _ _ g k n i d u f l B D e A q F G H t
  | suf=>exact l.elim
  | tagS z=>exact l.elim
 | suf _ o g y k n i d u f l B D e q F G H t=>cases o with
  | suf=>exact .suf _ _ g y k n i d u f rfl B D e q F G H t
  | tagS z=>exact .suf _ _ g y k n i d u f l B D e q F G H t
  | own=>exact l.elim
  | O=>exact l.elim
  | tag z=>exact l.elim
 | v _ x K=>exact .v _ _ K
 | x _ u K=>exact .x _ _ K
 | z _ a=>exact .z _ _
 | O _ g y k n i d u B D e N t=>exact .O _ g y k n i d u B D e N t
 | m _ b j O p q L P M E=>exact .m _ b j O p q L P M E
 | it _ r b since Q j seen p cur left q R L E t M T J=>exact .it _ r b since Q j seen p cur left q R L E t M T J
variable{rows:List (List C)}{Y:am}
def di.untag{z v:Value}(h:di w S Y (.s (.tag z) rows) v):v=z/\di w S Y (.s .own rows) v:=by
 cases h with
 | nil _ o a b=>exact⟨Eq.symm b,.nil _ _ _ tV1⟩
 | own _ o g k n c rows u f b i j d e l p q r t=>exact⟨Eq.symm b,.own _ _ g k n c rows u f tV1 i j d e l p q r t⟩
 | suf _ o g y k n c rows u f b=>exact b.elim
def di.untagS{z v:Value}(h:di w S Y (.s (.tagS z) rows) v):v=z/\di w S Y (.s .suf rows) v:=by
 cases h with
 | nil _ o a b=>exact⟨Eq.symm b,.nil _ _ _ tV1⟩
 | own _ o g k n c rows u f b=>exact b.elim
 | suf _ o g e k n c rows u f b i j d l p q r t=>exact⟨Eq.symm b,.suf _ _ g e k n c rows u f tV1 i j d l p q r t⟩
theorem tE(u:Nat->Value):∀(j:Nat)(cs:List C),(FS u j cs).length=cs.length
 | _,[]=>rfl
 | j,c::cs=>by simp[FS,tE u (j+1) cs]
theorem LR(u:Nat->Value):∀(a:Nat)(cs:List C)(j:Nat),(FS u a cs)[j]? = (cs[j]?).map λc=>Yk c (u (a+j))
 | _,[],j=>by simp[FS]
 | a,c::cs,0=>by simp[FS]
 | a,c::cs,j+1=>by simp only[FS,List.getElem?_cons_succ];rw[LR u (a+1) cs j,show a+1+j=a+(j+1) by omega]
variable{u:Nat->Value}
theorem cz.tag{cs:List C}(h:cz w S Y cs u):cz w S Y (FS u 0 cs) u:=by
 obtain⟨f,i,b,d⟩:=h;refine⟨f,λj c a=>?_,λj a=>b j (by grind [tE]),λj e a g=>d j e (by grind [tE]) (by grind [tE])⟩
 grind [LR,di.tag]
def celF(v:Value)(j:Nat):Value:=v.cells.toList.getD j undef
def bA.celF{Y:am}{ag:Option Nat}{cs:List C}{v:Value}(h:bA w S Y ag cs v):cs.length=ag.getD 1/\v=mkv ag (celF v)/\cz w S Y cs (celF v):=by
 obtain⟨b,u,c,d⟩:=h;have g:=uK (ag:=ag) (u:=u) (λe=>by subst e;exact d.one (by simp at b;omega));have f:∀j,j<ag.getD 1->Ab.celF v j=u j:=λj a=>by
  unfold Ab.celF;rw[c,g];simp[List.getD,a]
 exact⟨b,c.trans (kY λj a=>(f j a).symm),d.congr λj a=>f j ω⟩
def Xz(u:Nat->Nat->Value)(i:Nat):MA->AV
 | .val a cs=>.X (mi a) cs
 | .mut a cs=>.X (mi a) (FS (u i) 0 cs)
 | .ptr cs=>.X .box cs
theorem Gw{u:Nat->Nat->Value} : ∀{A:List MA}{vs:List Value}{V:Nat->am}(i:Nat),Tt w S V A vs->∀t,(lay (BF u i A) t=.dead)\/(∃m v,i<=t/\vs[t - i]? = some v/\A[t - i]? = some m/\lay (BF u i A) t=Xz u t m/\tH w S (V (t - i)) m v)
 | [],_,_,i,_,t=>.inl rfl
 | m::A,[],_,i,h,t=>h.elim
 | m::A,v::vs,V,i,h,t=>by
  have b:lay (BF u i (m::A)) t=bif Nat.beq t i then Xz u i m else lay (BF u (i+1) A) t:=by cases m<;>rfl
  rw[b];cases c:Nat.beq t i with
  | true=>
   have:=v4 c;subst this;exact .inr ⟨m,v,z5 _,by simp,by simp,rfl,by rw[Nat.sub_self];exact h.1⟩
  | false=>
   have d:t≠i:=λe=>by simp_all
   rcases Gw (i+1) h.2 t with a|⟨f,g,a,j,k,l,n⟩
   ·exact .inl a
   grind
def Hj:∀{A:List MA}{vs:List Value}{V:Nat->am},Tt w S V A vs->A.length=vs.length
 | [],[],_,_=>rfl
 | _::_,_::_,_,h=>by simp[Hj h.2]
 | [],_::_,_,h=>h.elim
 | _::_,[],_,h=>h.elim
theorem Qy{p:Nat->Value} : ∀{A:List MA}{i:Nat}{q:Nat × Value},q∈PE p i A->i<=q.1/\q.1<i+A.length/\q.2=p q.1
 | [],_,_,h=>by simp[PE]at h
 | m::A,i,q,h=>by
  have a:q∈PE p (i+1) A->i<=q.1/\q.1<i+(m::A).length/\q.2=p q.1:=λh=>by
   obtain⟨b,c,d⟩:=Qy h
   grind
  cases m with
  | ptr e=>
   rcases List.mem_cons.1 h with rfl|h
   all_goals grind
  | val=>exact a h
  | «mut»=>exact a h
theorem PM{p:Nat->Value} : ∀{A:List MA}{i n:Nat}{cs:List C},A[n]? = some (.ptr cs)->(i+n,p (i+n))∈PE p i A
 | [],_,n,_,h=>by simp at h
 | m::A,i,0,cs,h=>by grind [PE]
 | m::A,i,n+1,cs,h=>by
  have a:=PM (p:=p) (i:=i+1) (show A[n]? = some (.ptr cs) by simpa using h);rw[show i+1+n=i+(n+1) by omega]at a;cases m with
  | ptr cs=>exact CA _ a
  | val=>exact a
  | «mut»=>exact a
def XF(φ:Nat->am):Option (Option Nat)->am
 | some (some t)=>φ t
 | _=>NO
theorem Jv{u:Nat->Value} : ∀{b:Nat}{cs xs a:List C},Xo u b cs xs a->cs.length=a.length/\∀(j:Nat)(c o:C),cs[j]? = some c->a[j]? = some o->∃y,(f6 c=true->xs[j]? = some y)/\Zp (u (b+j)) c y o
 | _,[],xs,a,h=>by grind [Xo]
 | _,_::_,[],_,h=>by grind [Xo]
 | _,_::_,_::_,[],h=>by grind [Xo]
 | b,d::cs,e::xs,f::a,h=>by
  simp only[Xo]at h;obtain⟨g,i⟩:=Jv h.2
  grind
theorem V7{S' t:am}{F:Nat->Value}{cs xs A:List C}{off:Nat}(i:b8 S w w1)(n:∀b o,S b o->S' b o)(h:cz w S Y cs u)(h':cz w1 S' t xs F)(G:Xo u 0 cs (xs.drop off) A):cz w1 S' t A u:=by
 obtain⟨f,H,R,T⟩:=h;obtain⟨B,p,J,K⟩:=h';obtain⟨U,L⟩:=Jv G;refine⟨λj b o=>off+j<xs.length/\B (off+j) b o,λj c D=>?_,ψ,ψ⟩;have M:=(C4.1 D).1;have k:cs[j]? = some cs[j]:=ψ
 obtain⟨y,d,a⟩:=L j _ c k D;rw[SD]at a;have g:=H j _ k;generalize cs[j]=q at k a g d;have keep:f6 q=false->c=q->di w1 S' (λb o=>off+j<xs.length/\B (off+j) b o) c (u j):=λN e=>by
  subst e;exact((g.bare (F':=NO) N).keep i (λ_ _ h=>h.elim)).mono n (λ_ _ h=>h.elim)
 cases q with
 | v V=>exact keep rfl a
 | x=>exact keep rfl a
 | z=>exact keep rfl a
 | m W=>exact a.elim
 | it=>exact a.elim
 | s o E=>
  cases o with
  | O=>exact keep rfl a
  | tag z=>exact a.elim
  | tagS z=>exact a.elim
  | suf=>
   have d:=d rfl;rw[List.getElem?_drop]at d;have r:=(C4.1 d).1;simp only[Zp]at a;split at a
   case h_2=>exact a.elim
   rename_i O l;obtain⟨rfl,rfl⟩:=a;obtain⟨P,Q⟩:=(p _ _ d).untagS
   simp_all
  | own=>
   have d:=d rfl;rw[List.getElem?_drop]at d;have r:=(C4.1 d).1;simp only[Zp]at a;split at a
   case h_2=>exact a.elim
   rename_i O l;obtain⟨rfl,rfl⟩:=a;obtain⟨P,Q⟩:=(p _ _ d).untag
   simp_all
theorem br.backs{C:World}{S':am}{u:Nat->Nat->Value}(h:br w0 M S0 N S' φ F a C)(d:b8 S w C)(f:∀b o,S b o->S' b o):∀{A:List MA}{g:List (Nat × Nat)}{B:List MA}{vs:List Value}{V:Nat->am}{i:Nat},Tt w S V A vs->
  (∀j v,vs[j]? = some v->u (i+j)=celF v)->(∀j v cs,vs[j]? = some v->A[j]? = some (.ptr cs)->tvs a (i+j)=v)->kb u F i A g B->Fr C S' (λn=>XF φ (Mn i A g)[n]?) B vs
 | [],g,B,vs,V,i,l,r,t,c=>by
  cases vs with
  | cons _ _=>exact l.elim
  | nil=>cases B with
   | nil=>trivial
   | cons _ _=>grind [kb]
 | m::A,[],B,vs,V,i,l,r,t,c=>by grind [kb]
 | m::A,p::g,[],vs,V,i,l,r,t,c=>by grind [kb]
 | m::A,p::g,D::B,[],V,i,l,r,t,c=>l.elim
 | m::A,p::g,D::B,v::vs,V,i,l,r,t,c=>by
  have next:kb u F (i+1) A g B->Fr C S' (λn=>XF φ (Mn (i+1) A g)[n]?) B vs:=λc=>
   br.backs h d f l.2 (λj v T=>by rw[show i+1+j=i+(j+1) by omega];simp_all)
    (λj v cs T X=>by rw[show i+1+j=i+(j+1) by omega];simp_all) c
  cases m with
  | val U cs=>
   cases D with
   | val y W=>simp only[kb]at c;exact⟨tV1,next c⟩
   | ptr=>grind [kb]
   | «mut»=>grind [kb]
  | «mut» U cs=>
   cases D with
   | val=>grind [kb]
   | ptr=>grind [kb]
   | «mut» y out=>
    simp only[kb]at c;obtain⟨⟨rfl,e⟩,G⟩:=c;refine⟨?_,next G⟩;have E:=bA.celF (show bA w S (V 0) y cs v from l.1);have H:u i=celF v:=r 0 v (by simp);have q:=h.slot p.1;cases J:F p.1 with
    | X k xs=>
     rw[J]at e q;simp only at e;rw[H]at e;obtain⟨O,Y,P,K,Q,R,L⟩:=q;refine⟨by grind [Jv],celF v,E.2.1,?_⟩;exact(V7 d f E.2.2 L e).mono (λ_ _ h=>h) (λb o c=>by simpa[Mn,XF] using K b o c)
    | _=>grind
  | ptr cs=>
   cases D with
   | val=>grind [kb]
   | «mut»=>grind [kb]
   | ptr out=>
    simp only[kb]at c;refine⟨?_,next c.2⟩;have E:tvs a i=v:=t 0 v cs (by simp) (by simp);have q:=h.slot i;cases J:F i with
    | X k xs=>
     cases k with
     | box=>
      rw[J]at c q;have:=c.1;simp only at this;subst this;rw[E]at q;obtain⟨O,Y,P,K,Q,R,L⟩:=q;exact⟨O,Y,λb o c=>by simpa[Mn,XF] using P b o c,λb o c=>by simpa[Mn,XF] using K b o c,Q,R,L⟩
     | _=>grind
    | _=>grind
theorem yI:∀{l:List (Option Nat)},Py l=true->∀(i a t c:Nat),i≠a->l[i]? = some (some t)->l[a]? = some (some c)->t≠c
 | [],_,i,a,t,c,_,h,_=>by simp at h
 | none::l,b,i,a,t,c,f,h,d=>by
  cases i with
  | zero=>simp at h
  | succ i=>cases a with
   | zero=>simp at d
   | succ a=>exact yI (l:=l) b i a t c ω (by simpa using h) (by simpa using d)
 | some g::l,b,i,a,t,c,f,h,d=>by
  simp only[Py,I0]at b;have k:∀(n s:Nat),l[n]? = some (some s)->g≠s:=λn s j e=>by
   have:=O7.1 b.1 _ (t4 j)
   simp_all
  cases i with
  | zero=>
   grind
  | succ i=>cases a with
   | zero=>grind
   | succ a=>exact yI b.2 i a t c ω (by simpa using h) (by simpa using d)
theorem DG:∀{l:List (Option Nat)}{i t:Nat},l[i]? = some (some t)->t∈sles l
 | [],i,t,h=>by simp at h
 | none::l,i,t,h=>by
  cases i with
  | zero=>simp at h
  | succ i=>exact DG (l:=l) (i:=i) (by simpa using h)
 | some a::l,i,t,h=>by
  cases i with
  | zero=>grind [sles]
  | succ i=>exact CA _ (DG (l:=l) (i:=i) (by simpa using h))
theorem BP{φ:Nat->am}{x:Option (Option Nat)}{b o:Nat}(h:XF φ x b o):∃t,x=some (some t)/\φ t b o:=by
 match x,h with
 | some (some t),h=>exact⟨t,rfl,h⟩
 | some none,h=>exact h.elim
 | none,h=>exact h.elim
theorem QU{f : Nat}{y : Func}{c : Code}{sh : Bool}{A B : List MA}{k : Kd}{rcs : List C}{mo : List (Nat × List Nat)}{n : Nat}(O : List (Nat × Nat))(hTE : ∀t i, TE t = some i -> jo P t i)(hf : P.funcs[f]? = some y)(hn : (y.name == "runtime.NumGoroutine") = false)(d:y.body=some c){ck:Nat->Array Oper->Bool}{D:gk->Nat->Array Oper->((Nat->AV)->Prop)->(Nat->AV)->Prop}(hD:∀N,Dk P N ck (D N))(hc:iy ck c=true)(hN:A.length+(y.ntmps - A.length)=n)(hok:Py (Mn 0 A O)=true)(hsh:sh=true\/gl rcs)(hp:∀(u:Nat->Nat->Value)(p:Nat->Value),aw P TE ⟨n,PE p 0 A,mo⟩ (D ⟨n,PE p 0 A,mo⟩) c (XY TE y.results.toList k rcs u A B O) (lay (BF u 0 A))):aT P f sh A B k rcs:=by
 refine⟨⟨y,hf,hn,by rw[d];rfl⟩,λw S V E hS hV hVd hA=>?_⟩;have hlen:=Hj hA;refine calls_of_wp hf d ?_
 let u:Nat->Nat->Value:=λi=>celF (E.getD i undef)
 let p:Nat->Value:=λi=>E.getD i undef
 have htv:∀t v,E[t]? = some v->tvs {tmps:=E.toArray++Array.replicate (y.ntmps - E.toArray.size) undef,defers:=[]} t=v:=λt v r=>by
  have Q:=(C4.1 r).1;simp only[tvs,CD]
  grind
 have hst:St w (λb o=>∃i,V i b o) S ⟨n,PE p 0 A,mo⟩ (lay (BF u 0 A)) {tmps:=E.toArray++Array.replicate (y.ntmps - E.toArray.size) undef,defers:=[]} w:=by
  refine⟨S,V,λt=>?_,hVd,ψ,ψ,λ_ _ h=>h,ψ,Ck _ _,by simp;omega,rfl,λq hq=>?_⟩
  ·rcases Gw (u:=u) 0 hA t with J|⟨m,v,-,r,h2',K,U⟩
   ·rw[J];trivial
   rw[K];rw[Nat.sub_zero]at r U;rw[htv t v r];have hu:u t=celF v:=ψ
   cases m with
   | val M G=>exact(bA.mono (show bA w S NO M G v from U) (λ_ _ h=>h) (λ_ _ h=>h.elim)).slot
   | «mut» M G=>
    obtain⟨e1,e2,e3⟩:=bA.celF (show bA w S (V t) M G v from U);refine bA.slot ⟨by grind [tE],celF v,e2,?_⟩
    grind [cz.tag]
   | ptr G=>exact U
  obtain⟨-,J,r⟩:=Qy hq
  grind
 refine kL hTE (hD _) c hc _ _ _ _ w (hp u p) hst λe F' W l he hs'=>?_
 obtain⟨S',φ',h⟩:=hs';have fin:resA TE F' y.results.toList (sles (Mn 0 A O)) (λsh G=>aV (ix sh) k G rcs (kb u F' 0 A O B))->W.defers=[]/\∃v,(results y W.tmps).run P l=.ok v l/\(∃v',Ending.returned v=.returned v'/\bK (λb o=>∃i,V i b o) w l/\∃(X:am)(Z:Nat->am)(S1:am),
     (∀b o,X b o->(∃i,V i b o)\/(b<l.heap.size/\w.heap.size<=b))/\(∀i b o,Z i b o->(∃i,V i b o)\/(b<l.heap.size/\w.heap.size<=b))/\
     (∀b o,S1 b o->(sh=true/\S b o)\/(∃i,V i b o)\/(b<l.heap.size/\w.heap.size<=b))/\
     (∀i i',i≠i'->∀b o,Z i b o->¬Z i' b o)/\(∀i b o,X b o->¬Z i b o)/\(∀b o,X b o->¬S1 b o)/\(∀i b o,Z i b o->¬S1 b o)/\
     gG l NO k rcs.length v'/\cz l S1 X rcs (cu l k v')/\Fr l (λb o=>S b o\/S1 b o) Z B E):=by
  intro hr;obtain⟨shs,G,a,u',hfin,hrun,L,hln,hL,hcells,H,hrow⟩:=h.resA hTE hr;obtain⟨rfl,rfl,R⟩:=hfin.out;refine⟨h.defers,?_⟩;have T:(results y W.tmps).run P l=.ok (if h:a.toArray.size=1 then a.toArray[0] else .tuple a.toArray) l:=by
   have e:results y W.tmps=(do let E <-y.results.mapM (GM W.tmps);pure (if h:E.size=1 then E[0] else .tuple E)):=by
    unfold results
    congr 1
   rw[e,<-Array.toArray_toList (xs:=y.results),List.mapM_toArray]
   simp_all
  have hex:∀t b o,φ' t b o->(∃i,V i b o)\/(b<l.heap.size/\w.heap.size<=b):=λt b o d=>(h.ex t b o d).2.elim (λh'=>.inr ⟨(h.ex t b o d).1,h'⟩) .inl
  have hsameS:b8 S w l:=λb o d=>by
   have Q:=hS b o d;exact⟨h.old.cel b o Q ψ,h.old.fro b o Q ψ⟩
  have hm:=h.backs (u:=u) hsameS h.sub hA ψ (λj v G hj hc=>by
    have:=h.par _ (PM (p:=p) (i:=0) hc)
    grind) R
  refine⟨_,T,_,rfl,h.old,λb o=>∃t,t∉sles (Mn 0 A O)/\φ' t b o,λi=>XF φ' (Mn 0 A O)[i]?,λb o=>(sh=true/\S' b o)\/(S' b o/\((∃i,V i b o)\/w.heap.size<=b)),ψ,λi b o d=>?_,λb o d=>?_,λi i' hne b o d g=>?_,λi b o ⟨t,ht,d⟩ g=>?_,λb o ⟨t,_,d⟩ g=>h.disS t b o d ψ,λi b o d g=>?_,?_⟩
  ·grind [BP]
  ·rcases d with⟨J,r⟩|⟨J,r⟩
   ·rcases(h.sup b o r).2 with K|K|K
    ·grind
    ·exact .inr (.inr ⟨(h.sup b o r).1,K⟩)
    grind
   rcases r with r|r
   ·grind
   exact .inr (.inr ⟨(h.sup b o J).1,r⟩)
  ·obtain⟨t,e1,d⟩:=BP d
   obtain⟨t',e2,g⟩:=BP g;exact h.dis t t' (yI hok i i' t t' hne e1 e2) b o d g
  ·obtain⟨t',e2,g⟩:=BP g
   exact h.dis t t' (λe=>ht (by grind [DG])) b o d g
  ·obtain⟨t,-,d⟩:=BP d
   exact h.disS t b o d ψ
  have hk:gG l NO (ix shs) G.length (if h:a.toArray.size=1 then a.toArray[0] else .tuple a.toArray)/\cz l S' (λb o=>∃t,t∉sles (Mn 0 A O)/\φ' t b o) G (cu l (ix shs) (if h:a.toArray.size=1 then a.toArray[0] else .tuple a.toArray)):=by
   match shs,L,H,hL with
   | [],L,_,hL=>
    cases a with
    | cons _ _=>exact L.elim
    | nil=>
     have:G=[]:=ψ
     subst this;exact⟨⟨_,rfl,tV1,rfl⟩,cz.nil _ _ _ _⟩
   | [M],_,H,_=>
    obtain⟨v,rfl,hv⟩:=H M rfl;have:=hv.slot (F:=F') (tv:=tvs W);obtain⟨X1,Y,J,r,K,U,h5⟩:=this;refine⟨?_,h5.mono (λ_ _ h=>h) r⟩;cases M<;>exact U
   | M::ag2::sh,L,_,hL=>
    have hsz:¬a.toArray.size=1:=by
     match a,L with
     | [],L=>simp
     | [v],L=>cases M<;>cases ag2<;>exact L.2.elim
     | _::_::_,_=>simp
    rw[dif_neg hsz];refine⟨⟨_,rfl,L,hL⟩,hrow.congr λj hj=>?_⟩;simp only[cu,ix,nI,hcells];simp[List.getD,hj]
  refine⟨hk.1,?_,hm.mono λb o d=>?_⟩
  ·rcases hsh with J|J
   ·exact hk.2.mono ψ (λ_ _ h=>h)
   exact(hk.2.fresh J).mono (λ_ _ h=>h.elim) (λ_ _ h=>h)
  rcases(h.sup b o d).2 with K|K|K
  all_goals grind
 cases e with
 | normal=>exact fin he
 | ret=>exact fin he
 | _=>exact he.elim
end
abbrev I(z:Int):C:=.v (.int .i64 z)
abbrev B(b:Bool):C:=.v (.bool b)
def rI(_:eL)(z:Int):List C:=[I z]
def rB(_:eL)(b:Bool):List C:=[B b]
def sM(z:Int):gl (rI .own z):=⟨tV1,tV1⟩
def LE(b:Bool):gl (rB .own b):=⟨tV1,tV1⟩
def mY(z:Int):Prop:=-9223372036854775808<=z/\z<=9223372036854775807
def ZI(_:Bool):Prop:=True
def Xj(s:Nat)(left:Int):Int:=if(s:Int)<=left then left - s else -1
def vR : Tryz.prog.follows .mixedOrders=true:=by kernel_rfl
variable{tb: List (Nat × Nat × List Nat)}{rcs: List C}{A: List RA}{mo: List (Nat × List Nat)}{f: Nat}
def YN{a : Func}{c : Code}{sh : Bool}(d : Tryz.prog.funcs[f]? = some a)(e : (a.name == "runtime.NumGoroutine") = false)(g : a.body = some c)(h : iy (rL tb) c = true)(i:A.length+(a.ntmps - A.length)=n)(b:sh=true\/gl rcs)(j:aw Tryz.prog TE ⟨n,[],mo⟩ (DF Tryz.prog TE ⟨n,[],mo⟩ tb) c (WD TE a.results.toList k rcs) (lay (H4 0 A))):zzA f sh A k rcs:=
 Ra rV d e g (wo rV vR ⟨n,[],mo⟩ tb) h i rfl b j
def YA{a : Func}{c : Code}{sh : Bool}{A B : List MA}(b : List (Nat × Nat))(g : Tryz.prog.funcs[f]? = some a)(h : (a.name == "runtime.NumGoroutine") = false)(i : a.body = some c)(j : iy (rL tb) c = true)(l:A.length+(a.ntmps - A.length)=n)(d:Py (Mn 0 A b)=true)(e:sh=true\/gl rcs)(o:∀(u:Nat->Nat->Value)(p:Nat->Value),aw Tryz.prog TE ⟨n,PE p 0 A,mo⟩ (DF Tryz.prog TE ⟨n,PE p 0 A,mo⟩ tb) c (XY TE a.results.toList k rcs u A B b) (lay (BF u 0 A))):zzB f sh A B k rcs:=
 QU b rV g h i (λN=>wo rV vR N tb) j l d e o
theorem ia{x:Int}(h1 : -9223372036854775808<=x)(h2:x<=9223372036854775807):IntKind.i64.wrap x=x:=IntWalk.i64_in x ω
def UB:RA->RA->Prop
 | .val ag cs,.val ag' cs'=>ag=ag'/\cs=cs'
 | .ptr cs,.ptr cs'=>cs=cs'
 | A,a=>A=a
theorem UB.eq{A a:RA}(h:UB A a):A=a:=by
 unfold UB at h
 grind
def Gf:List RA->List RA->Prop
 | [],[]=>True
 | A::As,B::Bs=>UB A B/\Gf As Bs
 | _,_=>False
theorem Gf.eq:∀{A a:List RA},Gf A a->A=a
 | [],[],_=>rfl
 | A::As,B::Bs,h=>by rw[UB.eq h.1,Gf.eq h.2]
 | [],_::_,h=>h.elim
 | _::_,[],h=>h.elim
theorem Cl.eq{b:Bool}{a:List RA}{K:AV->Prop}(h:ah P f false a k rcs)(c:Gf A a)(d:K (.X k rcs)):Cl P f b A K:=by grind [Gf.eq,CF]
def CM:type_of% @Cl.eq:=@Cl.eq
def zc{b:Nat}(h:n<=1048576)(a:b<=1000):n*b<=140737488355328:=C9 (Nat.mul_le_mul h a) qs
theorem Cl.sz{b:Bool}{K:AV->Prop}{s:Nat}{L:Int}(h:ah P f false A .one [I (Xj s L)])(h1:L<s->K (.X .one [I (-1)]))(h2:(s:Int)<=L->K (.X .one [I (L - s)])):Cl P f b A K:=by grind [CF,Xj]
theorem Bf.NB{a b:Bool}{X Y:Prop}(h1:a≠b->X)(h2:a=b->Y):Bf (a != b) X Y:=by grind [Bf.P]
theorem Rw.one{off k j:Nat}{K:List C->Nat->Prop}{o:eL}{rows:List (List C)}{r:List C}(h1:a[off]? = some (.s o rows))(h2:rows[i]? = some r)(c:r.length=k)(b:K r j):Rw a off [(i,k,j)] K:=
 Rw.mk (r:=r) (j:=j) (by grind [cx]) b
def CL:type_of% @Rw.one:=@Rw.one
theorem bc{l:List α}{r r':α}(h:l[i]? = some r):(l.set i r')[i]? = some r':=ψ
def kZ(A B:List α)(i:Nat):List α:=A.take i++B.drop i
section
variable{α:Type}{A B:List α}
def fR:kZ A B 0=B:=by simp[kZ]
theorem gN(i:Nat)(h:A.length=B.length)(a:i=B.length):kZ A B i=A:=by grind [kZ]
def i7(h:A.length=B.length)(i:Nat):(kZ A B i).length=B.length:=by simp[kZ];omega
theorem gQ(h:A.length=B.length)(i:Nat)(a:i<=B.length):(kZ A B i)[i]? = B[i]?:=by grind [kZ]
theorem cH(h:A.length=B.length){i:Nat}{a:α}(b:A[i]? = some a):(kZ A B i).set i a=kZ A B (i+1):=by
 have c:=(C4.1 b).1;unfold kZ
 grind [List.set_append_right,OA,List.drop_eq_getElem_cons]
end
def aa{β:Type}{f:α->β}{l:List α}{k:Nat}{x:α}(h:l[k]? = some x):(l.map f)[k]? = some (f x):=by simp[h]
def Qs{z:α}{k:Nat}(h:k<n):(List.replicate n z)[k]? = some z:=by simp[h]
end Go.Proofs.YtjooeakgbamfnaaGreat.Ab
