/- A region that draws its order may be run in the text's order, where its operations are apart. No condition. -/
import Derived.Test.YtiopgblagimpmaaGreatKxb
import Derived.Orders
import Derived.Test.YtiopgblagimpmaaGreatKxa
import Derived.KernelRfl
import Derived.Test.YtiopgblagimpmaaGreatProg
set_option linter.unusedVariables false
set_option linter.defProp false
set_option linter.unusedSimpArgs false
set_option linter.constructorNameAsVariable false
namespace Go.Proofs.YtiopgblagimpmaaGreat.Ab
open Go.RowKit
def cX(o:Oper)(i:Nat):Bool:=o.after.toList.any λe=>Region.binds .any e&&Nat.beq e.on i
def dt(ops:Array Oper)(i:Nat):Oper:=ops.getD i default
def below(n:Nat)(p:Nat->Bool):Bool:=(List.range n).all p
def vB(ops:Array Oper)(i j:Nat):Bool:=match(dt ops i).dst with|some d=>((dt ops j).looksAt ops).any (Nat.beq d)|none=>false
def Jn:List Nat->Nat
 | []=>0
 | k::a=>2 ^ k ||| Jn a
def ons(o:Oper):List Nat:=(o.after.toList.filter λe=>Region.binds .any e).map (·.on)
variable{α:Type}
def frc(n:Nat)(K:Nat->α):α:=match n with|0=>K 0|n+1=>K (n+1)
def Rp(n:Nat)(K:Nat->α):frc n K=K n:=by cases n<;>rfl
def clo(ops:Array Oper):Nat->Nat->Nat
 | 0,S=>S
 | k+1,S=>bif S.testBit k then frc (S ||| Jn (ons (dt ops k))) (clo ops k) else clo ops k S
def FQ(ops:Array Oper)(m:Nat):Bool:=
 below ops.size λj=>((dt ops j).after.toList.all λe=>!Region.binds .any e || Nat.blt e.on j) &&
  (bif Nat.blt j m then below m (λi=>Nat.beq i j || ((cX (dt ops j) i || cX (dt ops i) j || (dt ops i).apart ops (dt ops j))&&(!vB ops i j || cX (dt ops j) i))) else frc (clo ops j (Jn (ons (dt ops j)))) λS=>below j λi=>S.testBit i)
def zZ:List (Nat × Nat × List Nat)->Nat->Option (Nat × List Nat)
 | [],_=>none
 | p::l,id=>bif Nat.beq id p.1 then some p.2 else zZ l id
def im(P:Program)(TE:Nat->Option TI)(N:fm)(ops:Array Oper)(o:Oper)(K:(Nat->AV)->Prop)(F:Nat->AV):Prop:=
 fY F ops o.guard (λF=>match o.dst with|some d=>df P TE F o.op λa=>bO N F d a K|none=>False)
  (λF=>match o.dst with|some d=>bO N F d (.F (.tup []) []) K|none=>False)
def oZ:Op->Option (Option Nat × Nat)
 | .buildSlice T 1 ps=>(match ps.toList with|[(0,.tmp s)]=>some (some T,s)|_=>none)
 | .move (.tmp s)=>some (none,s)
 | _=>none
def own1(T:Option Nat)(k:Kd)(cs:List C):Bool:=match T with
 | some _=>(match k with
   | .one=>(match cs with|[c]=>eX c|_=>false)
   | .agg=>(match cs with|[c]=>eX c|_=>false)
   | _=>false)
 | none=>(match k with|.tup _=>!bm cs|_=>false)
def V6(TE:Nat->Option TI)(N:fm)(F:Nat->AV)(d:Nat)(T:Option Nat)(s:Nat)(K:(Nat->AV)->Prop):Prop:=match T with
 | some T=>gp TE N F d T 1 [(0,.tmp s)] K
 | none=>js N F d (.tmp s) K
def LP(F:Nat->AV)(o:Oper):Option (Option Nat × Nat):=
 match o.guard with
 | some _=>none
 | none=>match oZ o.op with
  | none=>none
  | some p=>match F p.2 with
   | .F k cs=>bif own1 p.1 k cs then some p else none
   | .dead=>none
   | .ref ..=>none
   | .a7 ..=>none
   | .iref ..=>none
   | .fn ..=>none
   | .fv _=>none
def jA(ops:Array Oper)(o:Oper)(s:Nat):Bool:=
 ((List.range ops.size).any λk=>cX o k&&(match(dt ops k).dst with|some a=>Nat.beq a s|none=>false))&&Nat.ble (ops.toList.filter λk=>(k.looksAt ops).any (Nat.beq s)).length 1
def rV(ds:List Nat)(o:Oper):Bool:=match o.dst with|some d=>ds.any (Nat.beq d)|none=>false
def twk:List Nat->List Nat
 | []=>[]
 | e::l=>bif Nat.ble 1000 e then(e - 1000)::twk l else []
def dec:List Nat->List (Nat × List Nat)
 | []=>[]
 | e::l=>bif Nat.ble 1000 e then dec l else(e,twk l)::dec l
def Uq:Op->Bool
 | .move (.tmp _)=>true
 | .assign _=>true
 | .extract ..=>true
 | .build ..=>true
 | .buildSlice ..=>true
 | .store ..=>true
 | .load ..=>true
 | .fieldAddr ..=>true
 | .field ..=>true
 | .binOp ..=>true
 | .unOp ..=>true
 | .call c=>(sx c).isSome
 | .slice _ _ none (some _) none=>true
 | _=>false
def rj:Op->Bool
 | .call c=>(match c.callee with|.value (.func _)=>true|_=>false)
 | _=>false
def y9(l:List (Nat × List Nat))(i:Nat):Bool:=l.any λp=>Nat.beq p.1 i
def x5(ops:Array Oper)(j i:Nat):Bool:=(clo ops j (Jn (ons (dt ops j)))).testBit i
def VX(o:Oper):Bool:=match o.guard with|none=>true|some _=>false
def WF(sch:List (Nat × List Nat))(i:Nat):Bool:=sch.any λp=>Nat.beq p.1 i&&!p.2.isEmpty
def VQ(ops:Array Oper)(a b:Oper)(nm:Bool):Bool:=match b.dst with
 | none=>false
 | some c=>VX a&&(Uq a.op || rj a.op)&&!(match a.dst with|some d=>Nat.beq d c|none=>false)&&!(a.looksAt ops).any (Nat.beq c)&&VX b&&!(b.looksAt ops).any (Nat.beq c)&&(nm || match oZ b.op with|none=>true|some p=>!jA ops b p.2)
def Ea(ops:Array Oper)(ds:List Nat)(nm:Nat->Bool)(i j:Nat):Bool:=
 bif rV ds (dt ops j) then(bif rV ds (dt ops i) then(cX (dt ops j) i || cX (dt ops i) j || (dt ops i).apart ops (dt ops j))&&(!vB ops i j || cX (dt ops j) i)&&!(match(dt ops i).dst with|some d=>(match(dt ops j).dst with|some e=>Nat.beq d e|none=>false)|none=>false) else true)
 else(bif rV ds (dt ops i) then(x5 ops j i || x5 ops i j || VQ ops (dt ops j) (dt ops i) (nm i))&&(!vB ops i j || cX (dt ops j) i) else true)
def GL(ops:Array Oper)(ds:List Nat):List (Nat × List Nat)->Bool
 | []=>true
 | k::l=>Nat.blt k.1 ops.size&&!y9 l k.1&&((dt ops k.1).after.toList.all λe=>!Region.binds .any e || !(Nat.beq k.1 e.on || y9 l e.on)) &&
  (rV ds (dt ops k.1) || ((l.all λj=>x5 ops j.1 k.1)&&(below ops.size λp=>!rV ds (dt ops p) || y9 l p || x5 ops k.1 p || k.2.any (Nat.beq p))&&(!(l.any λj=>rV ds (dt ops j.1)) || (VX (dt ops k.1)&&(Uq (dt ops k.1).op || rj (dt ops k.1).op)))))&&GL ops ds l
def FH(ops:Array Oper)(ds:List Nat)(sch:List (Nat × List Nat)):Bool:=
 (below ops.size λj=>((dt ops j).after.toList.all λe=>!Region.binds .any e || Nat.blt e.on j)&&y9 sch j&&(!rV ds (dt ops j) || (match oZ (dt ops j).op with|none=>true|some p=>!jA ops (dt ops j) p.2 || ds.any (Nat.beq p.2)))&&below ops.size λi=>Nat.beq i j || Ea ops ds (WF sch) i j)&&Nat.beq sch.length ops.size&&GL ops ds sch
def pb(tb:List (Nat × Nat × List Nat))(id:Nat)(ops:Array Oper):Bool:=
 match zZ tb id with
 | some (m,ds)=>bif Nat.ble 65536 m then true else bif Nat.ble 256 m then FH ops (ds.take (m - 256)) (dec (ds.drop (m - 256))) else(Nat.ble m ops.size&&below m λj=>match(dt ops j).dst with|some d=>ds.any (Nat.beq d)|none=>true)&&FQ ops m
 | none=>false
def my(P:Program)(TE:Nat->Option TI)(N:fm)(ops:Array Oper)(o:Oper)(K:(Nat->AV)->Prop)(F:Nat->AV):Prop:=
 match LP F o with
 | some p=>(match o.dst with|some d=>bif jA ops o p.2 then V6 TE N F d p.1 p.2 K else False|none=>False)
 | none=>im P TE N ops o K F
def Rl(P:Program)(TE:Nat->Option TI)(N:fm)(ops:Array Oper):Nat->List Oper->((Nat->AV)->Prop)->(Nat->AV)->Prop
 | 0,l,K,F=>P0 P TE N ops l K F
 | _+1,[],K,F=>K F
 | m+1,o::l,K,F=>my P TE N ops o (Rl P TE N ops m l K) F
def Tc(ds:List Nat)(t:Nat):Bool:=ds.any (Nat.beq t)
def Xh(ds:List Nat):AV->AV
 | .ref t off st=>bif Tc ds t then .dead else .ref t off st
 | .a7 t off st ag=>bif Tc ds t then .dead else .a7 t off st ag
 | .fn f caps=>bif caps.any (Tc ds) then .dead else .fn f caps
 | .F k cs=>.F k cs
 | .iref r off=>.iref r off
 | .fv Ok=>.fv Ok
 | .dead=>.dead
def clr(ds:List Nat)(F:Nat->AV):Nat->AV:=λt=>Xh ds (F t)
theorem Ej(ds:List Nat)(F:Nat->AV)(t:Nat):clr ds F t=bif ds.any (λd=>(F t).uses d) then .dead else F t:=by
 unfold clr;cases F t with
 | dead=>cases ds.any λd=>AV.uses d .dead<;>rfl
 | F k i=>
  have:ds.any (λd=>(AV.F k i).uses d)=false:=by
   rw[<-S7,C5]
   rintro⟨d,_,h⟩
   cases h
  rw[this];rfl
 | iref r a=>
  have:ds.any (λd=>(AV.iref r a).uses d)=false:=by
   rw[<-S7,C5]
   rintro⟨d,_,h⟩
   cases h
  rw[this];rfl
 | fv Ok=>
  have:ds.any (λd=>(AV.fv Ok).uses d)=false:=by
   rw[<-S7,C5]
   rintro⟨d,_,h⟩
   cases h
  rw[this];rfl
 | ref j a l=>rfl
 | a7 j a l n=>rfl
 | fn f caps=>
  have:ds.any (λd=>(AV.fn f caps).uses d)=caps.any (Tc ds):=by
   rw[X6,C5,C5];constructor
   ·rintro⟨d,b,h⟩
    simp only[AV.uses,C5]at h;obtain⟨c,e,g⟩:=h;exact⟨c,e,C5.2 ⟨d,b,g⟩⟩
   rintro⟨c,e,h⟩
   obtain⟨d,b,g⟩:=C5.1 h
   grind [AV.uses]
  rw[this];rfl
inductive Sm(a b:AV)(K:Prop):Prop
 |mk_ (h:a=b/\K)
def Sm.rf{a:AV}{K:Prop}(h:K):Sm a a K:=.mk_ ⟨rfl,h⟩
def CE:type_of% @Sm.rf:=@Sm.rf
def Sm.out{a b:AV}{K:Prop}(h:Sm a b K):a=b/\K:=h.1
def Wq(P:Program)(TE:Nat->Option TI)(ops:Array Oper)(p:Nat)(K:Prop)(F:Nat->AV):Prop:=
 match(dt ops p).dst with
 | none=>False
 | some d=>(match LP F (dt ops p) with
   | some _=>False
   | none=>df P TE F (dt ops p).op λa=>Sm a (F d) K)
def Rd(P:Program)(TE:Nat->Option TI)(ops:Array Oper):List Nat->Prop->(Nat->AV)->Prop
 | [],K,_=>K
 | p::l,K,F=>Wq P TE ops p (Rd P TE ops l K F) F
def QN(P:Program)(TE:Nat->Option TI)(N:fm)(ops:Array Oper)(nm:Bool)(o:Oper)(K:(Nat->AV)->Prop)(F:Nat->AV):Prop:=
 match nm with
 | false=>my P TE N ops o K F
 | true=>(match LP F o with
   | some _=>False
   | none=>im P TE N ops o K F)
def NW(P:Program)(TE:Nat->Option TI)(N:fm)(ops:Array Oper)(ds:List Nat)(nm:Nat->Bool):List (Nat × List Nat)->((Nat->AV)->Prop)->(Nat->AV)->Prop
 | [],K,F=>K F
 | k::l,K,F=>bif rV ds (dt ops k.1) then QN P TE N ops (nm k.1) (dt ops k.1) (NW P TE N ops ds nm l K) F else jx P TE N ops (dt ops k.1) (λa=>Rd P TE ops k.2 (NW P TE N ops ds nm l K a) a) F
def T8:List Nat->(List Nat->Prop)->Prop
 | [],K=>K []
 | a::l,K=>T8 l λb=>K (a::b)
def M4:∀(l:List Nat)(K:List Nat->Prop),T8 l K=K l
 | [],_=>rfl
 | a::l,K=>by rw[T8,M4 l]
def Ew(l:List Nat)(j:Nat):Bool:=l.any (Nat.beq j)
def Qv(ops:Array Oper)(done:List Nat):List Nat:=(List.range ops.size).filter λj=>!Ew done j&&((dt ops j).after.toList.all λe=>!Region.binds .any e || Ew done e.on)
def Xi(p:Nat->Prop):Nat->List Nat->Prop
 | i,[]=>p i
 | i,j::l=>p i/\Xi p j l
def WQ(l:List Nat)(K:Prop)(p:Nat->Prop):Prop:=match l with
 | []=>K
 | i::l=>Xi p i l
def U9(P:Program)(TE:Nat->Option TI)(N:fm)(ops:Array Oper)(K:(Nat->AV)->Prop):Nat->List Nat->(Nat->AV)->Prop
 | 0,done,F=>WQ (Qv ops done) (K F) λ_=>False
 | n+1,done,F=>WQ (Qv ops done) (K F) λi=>jx P TE N ops (dt ops i) (U9 P TE N ops K n (i::done)) F
def DD(P:Program)(TE:Nat->Option TI)(N:fm)(tb:List (Nat × Nat × List Nat))(id:Nat)(ops:Array Oper)(K:(Nat->AV)->Prop)(F:Nat->AV):Prop:=
 match zZ tb id with
 | some (m,ds)=>bif Nat.ble 65536 m then U9 P TE N ops K ops.size [] F else bif Nat.ble 256 m then T8 (ds.take (m - 256)) λa=>NW P TE N ops a (WF (dec (ds.drop (m - 256)))) (dec (ds.drop (m - 256))) K (clr a F) else Rl P TE N ops m ops.toList K (clr ds F)
 | none=>False
variable{i n:Nat}
theorem hJ{p:Nat->Bool}(h:below n p=true)(a:i<n):p i=true:=I5.1 h i ψ
theorem cn{o:Oper} : cX o i=true↔∃e,e∈o.after/\Region.binds .any e=true/\e.on=i:=by grind [O3,Nat.beq_refl,cX]
theorem bD{ops:Array Oper}{o:Oper}(h:ops[i]? = some o):dt ops i=o:=by simp[dt,t9,h]
section
variable{P:Program}{w0 w w1:World}{M S0 S:ah}{N:fm}{φ:Nat->ah}{F:Nat->AV}{a:Act}{TE:Nat->Option TI}{ops:Array Oper}
variable{d:Nat}
theorem D1{b:Bool}(a:F d=.F .one [.v (.bool b)]):H4 F d b=F:=by grind [O3,H4]
theorem iT(o:Oper)(t:Nat)(h:t∈du o.op):t∈o.looksAt ops:=by grind [Go.Oper.looksAt,du,tm]
structure WW(P:Program)(TE:Nat->Option TI)(N:fm)(ops:Array Oper)(o:Oper)(F:Nat->AV)(d:Nat)(av:AV):Prop where
 dst:o.dst=some d
 lt:N.free d=true
 self:av.uses d=false
 from_:eL F (o.looksAt ops) av
 at_:∀F':Nat->AV,iz F F' (o.looksAt ops)->∀K':(Nat->AV)->Prop,K' (put F' d av)->im P TE N ops o K' F'
def iz.refl(F:Nat->AV)(ts:List Nat):iz F F ts:=λ_ _=>⟨rfl,λ_ _ _ _ h=>h⟩
theorem Ca:type_of% @iz.refl:=@iz.refl
variable{K:(Nat->AV)->Prop}{o:Oper}
theorem zH(h:im P TE N ops o K F):∃d av,WW P TE N ops o F d av/\K (put F d av):=by
 cases e:o.dst with
 | none=>
  exfalso;unfold im at h;rw[e]at h;unfold fY at h
  grind [Bf.out]
 | some d=>
  have put1:∀{a:Nat->AV}{av:AV}{c:(Nat->AV)->Prop},N.free d=true->av.uses d=false->c (put a d av)->bO N a d av c:=λA B E=>by grind [bO]
  have put2:∀{a:Nat->AV}{av:AV}{c:(Nat->AV)->Prop},bO N a d av c->N.free d=true/\av.uses d=false/\c (put a d av):=fun {a av c} n=>by grind [bO]
  have pure1:df P TE F o.op (λav=>bO N F d av K)->∃av,N.free d=true/\av.uses d=false/\K (put F d av)/\eL F (o.looksAt ops) av/\∀a:Nat->AV,iz F a (o.looksAt ops)->∀c:(Nat->AV)->Prop,c (put a d av)->df P TE a o.op (λav=>bO N a d av c):=λn=>by
   obtain⟨av,A,B,E⟩:=k4 n
   grind [eL.mono,iT,iz.mono]
  unfold im at h;rw[e]at h;unfold fY at h;cases r:o.guard with
  | none=>
   rw[r]at h;obtain⟨av,i,k,l,w,C⟩:=pure1 h;exact⟨d,av,⟨e,i,k,w,λa f c t=>by unfold im fY;simp_all⟩,l⟩
  | some p=>
   obtain⟨j,want⟩:=p;rw[r]at h;simp only at h;cases y:(ops[j]?).bind (·.dst) with
   | none=>grind
   | some u=>
    rw[y]at h;simp only at h;have q:u∈o.looksAt ops:=by grind [Go.Oper.looksAt]
    split at h
    case h_3=>exact h.elim
    case h_2=>
     rename_i J L g;obtain⟨i,k,l⟩:=put2 h;refine⟨d,.F (.tup []) [],⟨e,i,k,(λd e=>by cases e),λa f c t=>?_⟩,l⟩;unfold im fY;rw[r,e];simp only;rw[y];simp only;rw[(f u q).1.trans g];exact put1 i k t
    rename_i b g;have same:∀{a:Nat->AV},iz F a (o.looksAt ops)->a u=.F .one [.v (.bool b)]:=λf=>(f u q).1.trans g
    have back:∀{a:Nat->AV}{c:(Nat->AV)->Prop},iz F a (o.looksAt ops)->(b=want->df P TE a o.op (λav=>bO N a d av c))->(b = !want->bO N a d (.F (.tup []) []) c)->im P TE N ops o c a:=fun {a c} f A B=>by
     unfold im fY;rw[r,e];simp only;rw[y];simp only;rw[same f];simp only;refine Bf.P (λG=>?_) (λG=>?_)
     all_goals grind [D1]
    have D:=D1 g;replace h:=Bf.out h;by_cases H:b=want
    ·have n:df P TE F o.op (λav=>bO N F d av K):=ψ
     obtain⟨av,i,k,l,w,C⟩:=pure1 n;exact⟨d,av,⟨e,i,k,w,λa f c t=>back f (λ_=>C a f c t) ψ⟩,l⟩
    have n:bO N F d (.F (.tup []) []) K:=ψ
    obtain⟨i,k,l⟩:=put2 n;exact⟨d,.F (.tup []) [],⟨e,i,k,(λd e=>by cases e),ψ⟩,l⟩
def aft:AV->AV
 | .F k a=>.F k (splice a 0 (List.replicate a.length .x))
 | _=>.F .one [.x]
theorem PV(v:AV)(e:Nat):(aft v).uses e=false:=by unfold aft;split<;>rfl
def eff(a:Option Nat)(d:Nat)(av:AV)(F:Nat->AV):Nat->AV:=λt=>if t=d then av else if a=some t then aft (F t) else F t
theorem E1(av:AV)(a:∀t,(F t).uses d=false):put F d av=eff none d av F:=by grind [qB,ja,Dm,eff]
variable{s:Nat}
theorem UN{v:AV}(h:v.uses s=false):tW s v=v:=by
 cases v with
 | a7 t a b c=>grind [AV.uses,tW]
 | ref t a b=>simp only[AV.uses]at h;cases b<;>simp[tW,h]
 | _=>rfl
theorem RJ{k:Kd}{cs:List C}(av:AV)(a:F s=.F k cs)(c:∀t,(F t).uses d=false)(e:∀t,(F t).uses s=false):put (updH F s k (splice cs 0 (List.replicate cs.length .x))) d av=eff (some s) d av F:=by
 funext t
 unfold eff;by_cases h:t=d
 ·grind [qB]
 rw[ja _ _ h,CD h];by_cases b:t=s
 ·subst b;rw[jc,CG rfl,a];rfl
 grind [Nat.beq_eq,UN,Dm,updH]
theorem JJ{T:Nat}{k:Kd}{c:C}(o:k=.one\/k=.agg)(p:F s=.F k [c])(q:eX c=true)(h:gp TE N F d T 1 [(0,.tmp s)] K) :
  ∃av,N.free d=true/\(∀e,av.uses e=false)/\K (put (updH F s k [.x]) d av)/\∀(F':Nat->AV)(b:(Nat->AV)->Prop),F' s=.F k [c]->b (put (updH F' s k [.x]) d av)->gp TE N F' d T 1 [(0,.tmp s)] b:=by
 have key:∀F':Nat->AV,F' s=.F k [c]->∀b:(Nat->AV)->Prop,gp TE N F' d T 1 [(0,.tmp s)] b=KJ TE T λ_ a=>bif Nat.ble (1*a.size) 16777216 then(bif Nat.beq 1 a.size&&Nat.ble (0*a.size+a.size) (rep a.zero 1).length then bO N (updH F' s k [.x]) d (.F .one [.s .own (chunk a.size 1 (splice (rep a.zero 1) (0*a.size) [c]))]) b else False) else False:=by
  intro F' f b;unfold gp
  congr 1
  funext e a
  rcases o with rfl|rfl<;>simp only[di,fillW,WL,wu,oH,f,iV,bm,q,cond_true,cond_false,ib,qp,List.length_singleton,List.replicate]
  all_goals rfl
 rw[key F p]at h;obtain⟨e,a,g,n⟩:=iM h;cases i:Nat.ble (1*a.size) 16777216 with
 | false=>grind
 | true=>
  cases j:(Nat.beq 1 a.size&&Nat.ble (0*a.size+a.size) (rep a.zero 1).length) with
  | false=>grind
  | true=>
   rw[i,j]at g;simp only[cond_true]at g;unfold bO at g;cases l:N.free d with
   | false=>grind
   | true=>
    rw[l]at g;refine⟨_,rfl,λ_=>rfl,g,λF' b f r=>?_⟩
    grind [bO]
variable{T:Option Nat}
theorem Vp{k:Kd}{cs:List C}(j:F s=.F k cs)(l:own1 T k cs=true)(h:V6 TE N F d T s K) :
  ∃av,N.free d=true/\(∀e,av.uses e=false)/\K (put (updH F s k (splice cs 0 (List.replicate cs.length .x))) d av)/\∀(F':Nat->AV)(a:(Nat->AV)->Prop),F' s=.F k cs->a (put (updH F' s k (splice cs 0 (List.replicate cs.length .x))) d av)->V6 TE N F' d T s a:=by
 cases T with
 | some T=>
  have f:(k=.one\/k=.agg)/\∃c,cs=[c]/\eX c=true:=by
   unfold own1 at l
   grind
  obtain⟨n,c,rfl,o⟩:=f;exact JJ n j o h
 | none=>
  have f:∃b,k=.tup b/\bm cs=false:=by
   unfold own1 at l
   grind
  obtain⟨b,rfl,p⟩:=f;have key:∀F':Nat->AV,F' s=.F (.tup b) cs->∀a,V6 TE N F' d none s a=bO N (updH F' s (.tup b) (splice cs 0 (List.replicate cs.length .x))) d (.F (.tup b) cs) a:=λF' g a=>by grind [V6,js]
  rw[key F j]at h;unfold bO at h;cases i:N.free d with
  | false=>grind
  | true=>
   rw[i]at h;refine⟨_,rfl,λ_=>rfl,h,λF' a g q=>?_⟩
   grind [bO]
structure Yl(P:Program)(TE:Nat->Option TI)(N:fm)(ops:Array Oper)(o:Oper)(F:Nat->AV)(mv:Option Nat)(d:Nat)(av:AV):Prop where
 dst:o.dst=some d
 lt:N.free d=true
 self:av.uses d=false
 from_:eL F (o.looksAt ops) av
 mvl:∀s,mv=some s->o.guard=none/\(∃T,oZ o.op=some (T,s))/\jA ops o s=true
 at_:∀F':Nat->AV,iz F F' (o.looksAt ops)->(∀t,(F' t).uses d=false)->(∀s,mv=some s->∀t,(F' t).uses s=false)->∀K':(Nat->AV)->Prop,K' (eff mv d av F')->my P TE N ops o K' F'
theorem LL{o:Op}(h:oZ o=some (T,s)):(∃a ps,T=some a/\o=.buildSlice a 1 ps/\ps.toList=[(0,.tmp s)])\/(T=none/\o=.move (.tmp s)):=by
 unfold oZ at h
 grind
theorem cT(h:oZ o.op=some (T,s)):s∈o.looksAt ops:=by
 refine iT o s ?_;unfold du;refine List.mem_flatMap.2 ⟨.tmp s,?_,by simp[tm]⟩
 grind [LL,Go.Op.operands]
theorem Hq{p:Option Nat × Nat}(h:LP F o=some p):o.guard=none/\oZ o.op=some p/\∃k cs,F p.2=.F k cs/\own1 p.1 k cs=true:=by grind [LP]
theorem xW{F':Nat->AV}(a:iz F F' (o.looksAt ops)):LP F' o=LP F o:=by
 unfold LP;cases c:o.guard with
 | some _=>rfl
 | none=>
  cases b:oZ o.op with
  | none=>rfl
  | some p=>simp only;rw[(a p.2 (cT b)).1]
theorem uY(c:LP F o=none)(h:im P TE N ops o K F)(e:∀d,o.dst=some d->∀t,(F t).uses d=false):∃d av,Yl P TE N ops o F none d av/\K (eff none d av F):=by
 obtain⟨d,av,a,f⟩:=zH h;refine⟨d,av,⟨a.dst,a.lt,a.self,a.from_,ψ,λg i j _ k b=>?_⟩,by grind [E1,WW.dst]⟩
 grind [xW,WW.at_,E1,my]
theorem rF(h:my P TE N ops o K F)(E:∀d,o.dst=some d->∀t,(F t).uses d=false)(y:∀T s,o.guard=none->oZ o.op=some (T,s)->jA ops o s=true->∀t,(F t).uses s=false) :
  ∃r d av,Yl P TE N ops o F r d av/\K (eff r d av F):=by
 unfold my at h;cases f:LP F o with
 | none=>
  grind [uY]
 | some p=>
  rw[f]at h;obtain⟨G,a,k,H,g,b⟩:=Hq f;simp only at h;cases i:o.dst with
  | none=>grind
  | some d=>
   rw[i]at h;simp only at h;cases c:jA ops o p.2 with
   | false=>grind
   | true=>
    rw[c]at h;simp only[cond_true]at h;obtain⟨av,A,u,J,B⟩:=Vp g b h;refine⟨some p.2,d,av,⟨i,A,u d,λe w=>(by rw[u e]at w;cases w),λs y=>?_,λC j l n D q=>?_⟩,?_⟩
    ·grind
    ·unfold my
     rw[xW j,f];simp only;rw[i];simp only;rw[c];refine B C D ((j p.2 (cT a)).1.trans g) ?_;rw[RJ av ((j p.2 (cT a)).1.trans g) l (n p.2 rfl)];exact q
    grind [RJ]
theorem Pc{nm:Bool}(h:QN P TE N ops nm o K F)(b:∀d,o.dst=some d->∀t,(F t).uses d=false)(c:∀T s,o.guard=none->oZ o.op=some (T,s)->jA ops o s=true->∀t,(F t).uses s=false) :
  ∃a d av,Yl P TE N ops o F a d av/\K (eff a d av F)/\(nm=true->a=none):=by
 unfold QN at h
 grind [rF,uY]
end
section
variable{P:Program}{w0 w w1:World}{M S0 S:ah}{N:fm}{φ:Nat->ah}{F:Nat->AV}{a:Act}{TE:Nat->Option TI}{ops:Array Oper}
def z8(P:Program)(TE:Nat->Option TI)(N:fm)(ops:Array Oper)(m i:Nat)(K:(Nat->AV)->Prop)(F:Nat->AV):Prop:=
 match ops[i]? with
 | none=>K F
 | some o=>if i<m then my P TE N ops o K F else jx P TE N ops o K F
def KY(P:Program)(TE:Nat->Option TI)(N:fm)(ops:Array Oper)(m:Nat)(K:(Nat->AV)->Prop):Nat->Array Bool->(Nat->AV)->Prop
 | 0,listed,F=>Region.ready .any ops listed=[]/\K F
 | fuel+1,listed,F=>(Region.ready .any ops listed=[]->K F)/\∀i,i∈Region.ready .any ops listed->z8 P TE N ops m i (KY P TE N ops m K fuel (listed.setIfInBounds i true)) F
variable{Q:Exit->Act->World->Prop}{Kc:Act->World->Prop}{K:(Nat->AV)->Prop}{o:Oper}
theorem bg.oneP0(h:bg w0 M S0 N S φ F a w)(c:∀t i,TE t=some i->i7 P t i)(b:im P TE N ops o K F)(p:∀F' j e,K F'->St w0 M S0 N F' j e->Kc j e) :
  if Region.wanted o (yielded ops a.tmps) then o.wp P a w Kc Q else Kc (a.put o.dst undef) w:=by
 unfold im at b;rcases zU h b with⟨f,b⟩|⟨f,b⟩
 ·rw[f,CG rfl]
  cases g:o.dst with
  | none=>grind
  | some d=>
   rw[g]at b;obtain⟨av,k,l⟩:=h.pure_ c b;refine l Kc Q λv e q=>?_
   grind [bg.putD_new]
 rw[f,CD (by simp)];cases g:o.dst with
 | none=>grind
 | some d=>
  rw[g]at b;obtain⟨F',k,n⟩:=h.putD_new (v:=undef) (mN.same (av:=.F (.tup []) []) Ra) b
  grind
variable{d:Nat}
def N5{p:Option Nat × Nat}(f:LP F o=some p)(c:o.dst=some d)(h:V6 TE N F d p.1 p.2 K):jx P TE N ops o K F:=by
 obtain⟨e,a,-⟩:=Hq f;obtain⟨T,s⟩:=p;rcases LL a with⟨i,j,rfl,b,g⟩|⟨rfl,b⟩
 ·unfold jx fY
  rw[e];simp only;rw[b];simp only[Df];rw[c];simp only[kV,g];exact h
 unfold jx fY;rw[e];simp only;rw[b];simp only[Df];rw[c];simp only[kV];exact h
theorem bg.oneP(h:bg w0 M S0 N S φ F a w)(c:∀t i,TE t=some i->i7 P t i)(b:my P TE N ops o K F)(g:∀F' j k,K F'->St w0 M S0 N F' j k->Kc j k) :
  if Region.wanted o (yielded ops a.tmps) then o.wp P a w Kc Q else Kc (a.put o.dst undef) w:=by
 unfold my at b;cases e:LP F o with
 | none=>rw[e]at b;exact h.oneP0 c b g
 | some p=>
  rw[e]at b;simp only at b;cases l:o.dst with
  | none=>grind
  | some d=>
   rw[l]at b;simp only at b;cases f:jA ops o p.2 with
   | false=>grind
   | true=>
    rw[f]at b;have:=h.one c (N5 (P:=P) (ops:=ops) e l b) (Q:=Q) g
    grind
variable{m i:Nat}
theorem Li(c:∀t i,TE t=some i->i7 P t i)(b:z8 P TE N ops m i K F)(g:St w0 M S0 N F a w)(d:∀F' e f,K F'->St w0 M S0 N F' e f->Kc e f):wpOp P ops Q i Kc a w:=by
 unfold z8 at b;unfold wpOp;cases j:ops[i]? with
 | none=>grind
 | some o=>
  rw[j]at b;simp only at b |-;obtain⟨S,φ,h⟩:=g;have:if Region.wanted o (yielded ops a.tmps) then o.wp P a w Kc Q else Kc (a.put o.dst undef) w:=by
   split at b
   ·exact h.oneP c b d
   exact h.one c b d
  grind
def DU(b:∀t i,TE t=some i->i7 P t i){m:Nat}{K:(Nat->AV)->Prop}{Q:Exit->Act->World->Prop}(g:∀F' d e,K F'->St w0 M S0 N F' d e->Q .normal d e) :
  ∀(fuel:Nat)(listed:Array Bool)(F:Nat->AV)(a:Act)(w:World),KY P TE N ops m K fuel listed F->St w0 M S0 N F a w->wpAny P .any ops Q fuel listed a w
 | 0,_,F,a,w,c,f=>⟨c.1,g F a w c.2 f⟩
 | fuel+1,_,F,a,w,c,f=>⟨λj=>g F a w (c.1 j) f,λi k=>Li b (c.2 i k) f λF' d e l h=>DU b g fuel _ F' d e l h⟩
structure DK(ops:Array Oper)(m:Nat)(F:Nat->AV)(listed:Array Bool):Prop where
 dst:∀j o d,j<m->ops[j]? = some o->listed.getD j true=false->o.dst=some d->∀t,(F t).uses d=false
 mv:∀j o T s,j<m->ops[j]? = some o->listed.getD j true=false->o.guard=none->oZ o.op=some (T,s)->jA ops o s=true->∀t,(F t).uses s=false
def DC(ops:Array Oper)(listed:Array Bool):Prop:=∀j a,ops[j]? = some a->listed.getD j false=true->∀k,cX a k=true->listed.getD k false=true
variable{e:Nat}
theorem Tb{v:AV}(h:(kl d v).uses e=true):v.uses e=true/\v.uses d=false:=by
 rw[Dm]at h;cases a:v.uses d with
 | true=>rw[a]at h;cases h
 | false=>grind
theorem ym{α:Type}{p:α->Bool} : ∀{l:List α}{i j:Nat}{x y:α},(l.filter p).length<=1->l[i]? = some x->l[j]? = some y->p x=true->p y=true->i=j
 | [],_,_,_,_,_,h,_,_,_=>by simp at h
 | a::l,0,0,_,_,_,_,_,_,_=>rfl
 | a::l,i+1,j+1,x,y,h,b,c,d,e=>by
  rw[ym (l:=l) (Y6 (List.Sublist.length_le ((List.sublist_cons_self a l).filter p)) h) b c d e]
 | a::l,0,j+1,x,y,h,b,c,d,e=>by
  simp only[List.getElem?_cons_zero,O1]at b;subst b;rw[List.filter_cons_of_pos d]at h;have:y∈l.filter p:=Z5.2 ⟨I3 c,e⟩;have:=List.length_pos_of_mem this;rw[List.length_cons]at h;omega
 | a::l,i+1,0,x,y,h,b,c,d,e=>by
  simp only[List.getElem?_cons_zero,O1]at c;subst c;rw[List.filter_cons_of_pos e]at h;have:x∈l.filter p:=Z5.2 ⟨I3 b,d⟩;have:=List.length_pos_of_mem this;rw[List.length_cons]at h;omega
variable{j:Nat}{listed:Array Bool}
theorem jg{a:Nat}(b:(listed.setIfInBounds j true).getD a true=false):a≠j:=λe=>by simp_all
variable{av:AV}{t:Nat}
theorem ku{a:Option Nat}(b:av.uses e=false)(c:(F t).uses e=false):(eff a d av F t).uses e=false:=by grind [PV,eff]
theorem DK.put{o:Option Nat}(h:DK ops m F listed)(p:∀a b g,a<m->a≠j->ops[a]? = some b->listed.getD a true=false->b.dst=some g->av.uses g=false)(q:∀a b T s,a<m->a≠j->ops[a]? = some b->listed.getD a true=false->b.guard=none->oZ b.op=some (T,s)->jA ops b s=true->av.uses s=false) :
  DK ops m (eff o d av F) (listed.setIfInBounds j true):=by
 refine⟨λa b g i c e k t=>?_,λa b T s i c e r l n t=>?_⟩
 ·have f:=jg e
  rw[getD_set_ne true (Ne.symm f)]at e;exact ku ψ (h.dst a b g i c e k t)
 have f:=jg e;rw[getD_set_ne true (Ne.symm f)]at e;exact ku ψ (h.mv a b T s i c e r l n t)
inductive pU(ops:Array Oper):Nat->Nat->Prop
 |one {j i:Nat} (h:cX (dt ops j) i=true):pU ops j i
 |step {j k i:Nat} (h:cX (dt ops j) k=true) (h2:pU ops k i):pU ops j i
def pU.trans{k:Nat}(h:pU ops j k)(a:pU ops k i):pU ops j i:=by
 induction h with
 | one h=>exact .step h a
 | step h _ b=>exact .step h (b a)
theorem G3{i:Nat} : ∀{a:List Nat},(Jn a).testBit i=true->i∈a
 | [],h=>by simp[Jn]at h
 | k::a,h=>by
  rw[Jn,Nat.testBit_or,X8]at h;rcases h with h|h
  ·grind
  exact O7 _ (G3 h)
theorem y1(h:(Jn (ons o)).testBit i=true):cX o i=true:=by
 have:=G3 h
 grind [cn,ons]
def uX{j:Nat} : ∀(k S:Nat),(∀i,S.testBit i=true->pU ops j i)->∀i,(clo ops k S).testBit i=true->pU ops j i
 | 0,_,h,i,a=>h i a
 | k+1,S,h,i,a=>by
  rw[clo,Rp]at a;cases c:S.testBit k with
  | false=>rw[c]at a;exact uX k S h i a
  | true=>
   rw[c]at a;refine uX k _ (λe b=>?_) i a;rw[Nat.testBit_or,X8]at b;rcases b with d|d
   ·exact h e d
   exact(h k c).trans (.one (y1 d))
theorem pm(d:DC ops listed)(b:∀j n,ops[j]? = some n->∀e∈n.after,Region.binds .any e=true->e.on<j)(o:pU ops j i):j<ops.size->(∀k,cX (dt ops j) k=true->listed.getD k false=true)->listed.getD i false=true:=by
 induction o with
 | one h=>grind
 | @step j k i h h2 ih=>
  intro f p;have r:k<j:=by
   have c:=(show ops[j]? = some ops[j] from Y8 f)
   rw[bD c]at h;obtain⟨e,g,l,rfl⟩:=cn.1 h;exact b j _ c e g l
  have a:k<ops.size:=ω
  have c:=(show ops[k]? = some ops[k] from Y8 a)
  exact ih a λq a=>d k _ c (p k h) q (by rw[bD c]at a;exact a)
theorem DC.put(h:DC ops listed)(d:j∈Region.ready .any ops listed):DC ops (listed.setIfInBounds j true):=by
 obtain⟨l,n,f,b⟩:=mem_ready.1 d;intro k ok g c e i;by_cases a:k=j
 ·grind [cn,Go.getD_set_true]
 rw[getD_set_ne false (Ne.symm a)]at c;exact getD_set_true (h k ok g c e i)
theorem gz{s:Nat}(h:jA ops o s=true):(∃k ok,cX o k=true/\ops[k]? = some ok/\ok.dst=some s)/\∀(i j:Nat)(a b:Oper),ops[i]? = some a->ops[j]? = some b->s∈a.looksAt ops->s∈b.looksAt ops->i=j:=by
 unfold jA at h;rw[I0]at h;obtain⟨q,c⟩:=h;constructor
 ·grind [bD,O3]
 intro i j a b d e f g;have l:=C2 c;have n:ops.toList[i]? = some a:=by simpa using d
 have p:ops.toList[j]? = some b:=by simpa using e
 grind [Nat.beq_refl,ym]
structure UM(ops:Array Oper)(m:Nat):Prop where
 back:∀j oj,ops[j]? = some oj->∀e∈oj.after,Region.binds .any e=true->e.on<j
 tail:∀j,m<=j->j<ops.size->∀i,i<j->pU ops j i
 apart:∀i j oi oj,i<m->j<m->i≠j->ops[i]? = some oi->ops[j]? = some oj->cX oj i=true\/cX oi j=true\/oi.apart ops oj=true
 look:∀i j oi oj d,i<m->j<m->i≠j->ops[i]? = some oi->ops[j]? = some oj->oi.dst=some d->d∈oj.looksAt ops->cX oj i=true
theorem Gh(h:FQ ops m=true):UM ops m:=by
 have o:∀j b,ops[j]? = some b->_:=λj b a=>hJ h (Z4.1 a).1
 refine⟨λj b a e t p=>?_,λj u a i f=>?_,λi j q b f a g r k=>?_,λi j q b d f a g r k w y=>?_⟩
 ·grind [bD,Nat.blt_eq]
 ·have l:=(show ops[j]? = some ops[j] from Y8 a)
  have:=o j _ l;simp only[I0]at this;have c:=this.2;rw[show Nat.blt j m=false by rw[<-S7,Nat.blt_eq];omega]at c;simp only[cond_false,Rp]at c;exact uX j _ (λA n=>.one (y1 n)) i (hJ c f)
 ·grind [bD,Nat.blt_eq,hJ,Nat.beq_eq]
 have:=o j b k;rw[bD k]at this;simp only[I0]at this;have c:=this.2;rw[show Nat.blt j m=true by simpa[Nat.blt_eq] using a]at c
 grind [hJ,bD,Nat.beq_eq,vB]
theorem Nv(V:UM ops m){c:Oper}{u:Option Nat}(R:ops[i]? = some c)(w:i<m) :
  ∀(fuel:Nat)(listed:Array Bool)(F:Nat->AV),i∈Region.ready .any ops listed->DK ops m F listed->DC ops listed->Yl P TE N ops c F u d av->KY P TE N ops m K fuel (listed.setIfInBounds i true) (eff u d av F)->KY P TE N ops m K (fuel+1) listed F:=by
 have self:∀(listed:Array Bool)(F:Nat->AV),i∈Region.ready .any ops listed->DK ops m F listed->Yl P TE N ops c F u d av->∀S:(Nat->AV)->Prop,S (eff u d av F)->my P TE N ops c S F:=λlisted F W a g S hK=>by
  have b:=(mem_ready.1 W).1;refine g.at_ F (Ca _ _) (a.dst i c d w R b g.dst) (λs X=>?_) S hK;obtain⟨A,⟨T,h2⟩,h3⟩:=g.mvl s X;exact a.mv i c T s w R b A h2 h3
 intro fuel
 induction fuel with
 | zero=>
  intro listed F W a E g H;refine⟨ψ,λj Y=>?_⟩;by_cases n:j=i
  ·grind [z8]
  have:=ready_mono Y n;rw[H.1]at this;cases this
 | succ fuel ih=>
  intro listed F W a E g H;refine⟨ψ,λj Y=>?_⟩;by_cases n:j=i
  ·grind [z8]
  have A:=H.2 j (ready_mono Y n);obtain⟨B,f,o,hall⟩:=mem_ready.1 Y;have b:=(mem_ready.1 W).1;have unl:∀k,listed.getD k true=false->listed.getD k false=true->False:=ψ
  have noedge:∀k ok,ops[k]? = some ok->listed.getD k true=false->cX f k=false:=λk ok hk Z=>by grind [cn]
  have noedge':∀k ok,ops[k]? = some ok->listed.getD k true=false->cX c k=false:=λk ok hk Z=>by grind [cn,Go.mem_ready]
  have G:j<m:=by
   rcases Nat.lt_or_ge j m with h|h
   ·exact h
   have C:=(Z4.1 o).1;refine(unl i b (pm E V.back (V.tail j h C i ω) C λk hk=>?_)).elim
   grind [bD,cn]
  have hap:c.apart ops f=true:=by grind [UM.apart]
  obtain⟨ap1,ap2,ap3⟩:=Oper.apart_spec hap;unfold z8 at A |-;rw[o]at A |-;simp only[CG G]at A |-;have hdl:d∉f.looksAt ops:=ap1 d g.dst;have cd:∀t,(F t).uses d=false:=a.dst i c d w R b g.dst
  have cdj':∀l,f.dst=some l->∀t,(F t).uses l=false:=λl J=>a.dst j f l G o B J
  have cmv:∀s,u=some s->(∀t,(F t).uses s=false)/\s∉f.looksAt ops/\s∈c.looksAt ops:=λs X=>by
   obtain⟨L,⟨T,q⟩,r⟩:=g.mvl s X;exact⟨a.mv i c T s w R b L q r,λhl=>n ((gz r).2 i j c f R o (cT q) hl).symm,cT q⟩
  have cmvj:∀T s,f.guard=none->oZ f.op=some (T,s)->jA ops f s=true->(∀t,(F t).uses s=false)/\s∉c.looksAt ops/\s∈f.looksAt ops:=λT s L q r=>
   ⟨a.mv j f T s G o B L q r,λhl=>n ((gz r).2 i j c f R o hl (cT q)).symm,cT q⟩
  have avno:∀e,e∉c.looksAt ops->(∀t,(F t).uses e=false)->av.uses e=false:=λe A h2=>by
   cases hu:av.uses e with
   | false=>rfl
   | true=>
    rcases g.from_ e hu with h|⟨t,_,h⟩
    all_goals grind
  obtain⟨mvj,l,avj,p,hKj⟩:=rF A (λl J t=>ku ψ (cdj' l J t)) (λT s L q r t=>by grind [ku]);have hdne:d≠l:=λe=>ap2 d g.dst (by rw[p.dst,e])
  have hdjl:l∉c.looksAt ops:=ap3 l p.dst;have cdj:∀t,(F t).uses l=false:=cdj' l p.dst
  have cmj:∀s,mvj=some s->(∀t,(F t).uses s=false)/\s∉c.looksAt ops/\s∈f.looksAt ops:=λs X=>by
   obtain⟨L,⟨T,q⟩,r⟩:=p.mvl s X
   grind
  have lookj:∀t,t∈f.looksAt ops->eff u d av F t=F t:=λt U=>by grind [eff]
  have looki:∀t,t∈c.looksAt ops->eff mvj l avj F t=F t:=λt U=>by grind [eff]
  have avjno:∀e,e∉f.looksAt ops->(∀t,(F t).uses e=false)->avj.uses e=false:=λe A h2=>by
   cases hu:avj.uses e with
   | false=>rfl
   | true=>
    rcases p.from_ e hu with h|⟨t,U,h⟩
    all_goals grind
  have agrj:iz (eff u d av F) F (f.looksAt ops):=λt U=>by grind [eff]
  refine p.at_ F agrj cdj ψ _ (ih (listed.setIfInBounds j true) (eff mvj l avj F) (ready_mono W (Ne.symm n)) (a.put (λj' o' d' M D y O Q=>?_) (λj' o' T s M D y O L q r=>?_)) (E.put Y) ?_ ?_)
  ·refine avjno d' (λh=>?_) (a.dst j' o' d' M y O Q)
   grind [UM.look]
  ·exact avjno s (λh=>D ((gz r).2 j' j o' f y o (cT q) h)) (a.mv j' o' T s M y O L q r)
  ·refine⟨g.dst,g.lt,g.self,λe he=>?_,g.mvl,λF' hA Q hs' S hK=>g.at_ F' (λt U=>?_) Q hs' S hK⟩
   ·rcases g.from_ e he with h|⟨t,U,h⟩
    all_goals grind
   obtain⟨a1,a2⟩:=hA t U
   grind [eff]
  rw[Array.setIfInBounds_comm _ _ n];have:eff u d av (eff mvj l avj F)=eff mvj l avj (eff u d av F):=by grind [eff]
  grind
theorem jC{o:Op}{K a:AV->Prop}(h:df P TE F o K)(b:∀av,K av->a av):df P TE F o a:=by
 obtain⟨av,c,-,d⟩:=k4 h
 grind [Ca]
theorem bx{a:(Nat->AV)->Prop}(h:bO N F d av K)(b:∀F',K F'->a F'):bO N F d av a:=by grind [bO]
variable{y:Operand}
theorem fx{K b:(Nat->AV)->Option Nat->List C->Prop}(h:ib F y K)(g:∀F' ag cs,K F' ag cs->b F' ag cs):ib F y b:=by
 cases y with
 | tmp t=>
  simp only[ib]at h |-;cases d:F t with
  | F k cs=>
   grind
  | a7 e f c ag=>
   rw[d]at h;cases c with
   | cons s c=>
    simp only at h |-;cases a:F e with
    | F k cs=>
     rw[a]at h;obtain⟨r,j,i,l,n,o⟩:=Lq.out h;exact .mk_ ψ
    | _=>grind
   | nil=>
    grind
  | _=>grind
 | _=>exact h.elim
variable{x:Operand}
theorem DW{K a:AV->Prop}(h:bF F x K)(b:∀av,K av->a av):bF F x a:=by
 obtain⟨av,c,-,d⟩:=kw h
 grind [Ca]
theorem HF{a:(Nat->AV)->Prop}(h:lB N F d x K)(j:∀F',K F'->a F'):lB N F d x a:=by
 have i:∀y,bF F y (λb=>bO N F d b K)->bF F y (λb=>bO N F d b a):=λy h=>DW h λb h=>bx h j
 have k:∀y,ib F y (λF' c e=>bO N F' d (.F (kv c) e) K)->ib F y (λF' c e=>bO N F' d (.F (kv c) e) a):=λy h=>fx h λF' c e h=>bx h j
 cases x with
 | tmp t=>
  grind [lB]
 | const v=>exact i (.const v) h
 | global g=>exact i (.global g) h
 | func f=>exact i (.func f) h
theorem PF{a:(Nat->AV)->Prop}(h:EF N F d x K)(b:∀F',K F'->a F'):EF N F d x a:=by grind [bx,HF,EF,MK]
variable{b:(Nat->AV)->Prop}
theorem Ec{cs:List C}(h:sH F x cs K)(d:∀F',K F'->b F'):sH F x cs b:=by
 cases x with
 | tmp t=>
  simp only[sH]at h |-;cases e:F t with
  | F k f=>
   grind [di]
  | ref g i c=>
   rw[e]at h;cases c with
   | cons s c=>
    simp only at h |-;cases a:F g with
    | F k f=>
     rw[a]at h;obtain⟨r,j,l,n,o,p⟩:=Pu.out h;exact Pu.mk l n o rfl (d _ p)
    | _=>grind
   | nil=>
    grind [di]
  | _=>grind
 | _=>exact h.elim
variable{T:Nat}
theorem zz{a:(Nat->AV)->Prop}(h:nz TE F T x y K)(b:∀F',K F'->a F'):nz TE F T x y a:=by
 unfold nz at h |-;split at h
 all_goals grind [cr,Ca,Ec,fx]
theorem KL{g:Option (Nat × Bool)}{a K1' K0':(Nat->AV)->Prop}(h:fY F ops g a b)(c:∀F,a F->K1' F)(d:∀F,b F->K0' F):fY F ops g K1' K0':=by
 unfold fY at h |-;split at h
 ·exact c _ h
 rename_i j want;split at h
 all_goals grind [Bf.out,Bf.in_]
theorem vq{K a:(Nat->AV)->Option Nat->List C->Prop}(h:wu F x K)(c:∀F' ag cs,K F' ag cs->a F' ag cs):wu F x a:=by
 obtain⟨ag,cs,d,b⟩:=cr h;refine b F (Ca _ _) _ ?_
 grind [fx]
theorem jP{c:Nat->Option (Nat × Nat)} : ∀{parts:List (Nat × Operand)}{cs:List C}{K a:(Nat->AV)->List C->Prop}{F:Nat->AV},fillW c parts cs K F->(∀F' cs,K F' cs->a F' cs)->fillW c parts cs a F
 | [],cs,K,a,F,h,b=>b _ _ h
 | p::rest,cs,K,a,F,h,b=>by
  simp only[fillW]at h |-;split at h
  case h_2=>exact h.elim
  rename_i q e;refine vq h λF' f xs h=>?_
  cases d:(Nat.beq xs.length q.2&&Nat.ble (q.1+q.2) cs.length) with
  | false=>grind
  | true=>
   rw[d]at h;simp only[cond_true,di]at h |-;exact jP h b
variable{parts:List (Nat × Operand)}
theorem HM{a:(Nat->AV)->Prop}(h:lv TE N F d T parts K)(b:∀F',K F'->a F'):lv TE N F d T parts a:=by grind [jP,bx,lv]
theorem FA{n:Nat}{a:(Nat->AV)->Prop}(h:gp TE N F d T n parts K)(c:∀F',K F'->a F'):gp TE N F d T n parts a:=by
 obtain⟨e,f,h,b⟩:=iM h;refine b _ ?_
 grind [bx,di,jP,qp]
theorem Hl{K a:Bool->(Nat->AV)->List (List C)->Prop}(h:F5 F y K)(c:∀b F' xr,K b F' xr->a b F' xr):F5 F y a:=by
 unfold F5 at h |-;split at h
 all_goals grind [fx,cr,Ca]
theorem Dd{K a:(Nat->AV)->List (List C)->Prop}(h:DO F x K)(c:∀F' xr,K F' xr->a F' xr):DO F x a:=by
 obtain⟨d,e,f,b⟩:=cr h;refine b F (Ca _ _) _ ?_
 grind [fx]
theorem NQ{a:(Nat->AV)->Prop}(h:BW TE N F d T x y K)(f:∀F',K F'->a F'):BW TE N F d T x y a:=by
 obtain⟨e,p,h,g⟩:=iM h;refine g _ (Hl h λb F' q h=>Dd h λF'' c h=>?_);obtain⟨i,j,k,l,n,o⟩:=h.out;exact CS i j k l n rfl (bx o f)
theorem GO{a:(Nat->AV)->Prop}(h:rJ TE N F d T x K)(b:∀F',K F'->a F'):rJ TE N F d T x a:=by
 unfold rJ at h |-;split at h
 all_goals grind [fx,bx]
theorem JN(h:js N F d x K)(c:∀F',K F'->b F'):js N F d x b:=by
 have std:∀{y:Operand},bF F y (λa=>bO N F d a K)->bF F y (λa=>bO N F d a b):=λh=>DW h λa h=>bx h c
 cases x with
 | tmp t=>
  simp only[js]at h |-
  grind [bx]
 | const v=>grind [js]
 | global g=>grind [js]
 | func f=>grind [js]
theorem KM{a:(Nat->AV)->Prop}(h:wd N F d x K)(b:∀F',K F'->a F'):wd N F d x a:=by
 unfold wd at h |-;split at h
 case h_2=>exact h.elim
 split at h
 all_goals grind [Nt.out,Nt.mk,bx]
theorem Gk{a:(Nat->AV)->Prop}(h:rM N F d x K)(b:∀F',K F'->a F'):rM N F d x a:=by
 unfold rM at h |-
 grind [bx]
variable{c:(Nat->AV)->Prop}
theorem R9{b:Operand}(h:Jz TE N F d T x b K)(f:∀F',K F'->c F'):Jz TE N F d T x b c:=by
 unfold Jz at h |-;obtain⟨e,q,h,a⟩:=iM h;refine a _ ?_;obtain⟨n,g,i⟩:=pp h;refine i F (Ca _ _) _ (fx g λF' r t h=>?_);split at h
 case h_2=>exact h.elim
 obtain⟨m,y,j,k,l,o,p,h⟩:=h.out;exact .mk_ ⟨m,y,j,k,l,o,p,_,rfl,bx h f⟩
theorem Jj{b:Op}{e:(Nat->AV)->Prop}(h:kV P TE N d b K F)(a:∀F',K F'->e F'):kV P TE N d b e F:=by
 cases b with
 | assign x=>exact PF h a
 | box T x=>grind [vq,bx,kV,R3]
 | build T g=>exact HM h a
 | buildSlice T n g=>exact FA h a
 | range T x=>exact GO h a
 | move x=>exact JN h a
 | next x str=>
  cases str with
  | true=>exact h.elim
  | false=>exact KM h a
 | entry x=>exact Gk h a
 | call c=>
  grind [jC,bx,NQ,kV]
 | slice T x i f j=>
  cases i with
  | some _=>grind [jC,bx,kV]
  | none=>
   cases f with
   | none=>grind [jC,bx,kV]
   | some f=>
    cases j with
    | some _=>grind [jC,bx,kV]
    | none=>
     grind [jC,bx,R9,kV]
 | _=>grind [jC,bx,kV]
theorem f8{off n:Nat}{st:cA}{K a:(Nat->AV)->List C->Prop}(h:lendAt F t off st n K)(b:∀F' cs,K F' cs->a F' cs):lendAt F t off st n a:=by
 unfold lendAt at h |-;split at h
 case h_2=>exact h.elim
 split at h
 ·grind [di]
 obtain⟨r,j,c,d,e,f⟩:=Lq.out h;refine .mk_ ?_
 grind
theorem co:∀{xs:List (Operand × Nat)}{K a:(Nat->AV)->List (MA × tK)->Prop}{F:Nat->AV},lendP xs K F->(∀F' l,K F' l->a F' l)->lendP xs a F
 | [],K,a,F,h,b=>b _ _ h
 | (x,0)::xs,K,a,F,h,b=>co (xs:=xs) h ψ
 | (x,1)::xs,K,a,F,h,b=>by
  simp only[lendP]at h |-;split at h
  case h_2=>exact h.elim
  split at h
  ·exact f8 h λF' c h=>co h ψ
  ·exact f8 h λF' c h=>co h ψ
  ·exact f8 h λF' c h=>co h ψ
  exact h.elim
 | (x,n+2)::xs,K,a,F,h,b=>by
  simp only[lendP]at h |-;split at h
  case h_2=>exact h.elim
  split at h
  ·split at h
   ·exact co h ψ
   exact h.elim
  ·exact co h ψ
  exact h.elim
theorem jT:∀{l:List (MA × tK)}{xs:List Operand}{K a:Bool->List MA->Prop},valsP F l xs K->(∀b A,K b A->a b A)->valsP F l xs a
 | [],[],K,a,h,c=>c _ _ h
 | (m,.no)::l,x::xs,K,a,h,c=>by
  obtain⟨f,g,d,e⟩:=cr h;refine e F (Ca _ _) _ (jT d λb A h=>?_)
  grind
 | (m,.at_ t off st)::l,x::xs,K,a,h,c=>jT (l:=l) (xs:=xs) h ψ
 | (m,.box t)::l,x::xs,K,a,h,c=>jT (l:=l) (xs:=xs) h ψ
 | [],_::_,K,a,h,c=>h.elim
 | (m,.no)::l,[],K,a,h,c=>h.elim
 | (m,.at_ t off st)::l,[],K,a,h,c=>h.elim
 | (m,.box t)::l,[],K,a,h,c=>h.elim
theorem dn{K b:(Nat->AV)->Prop}(a:∀F',K F'->b F'):∀{l:List (MA × tK)}{B:List MA}{F:Nat->AV},iw l B K F->iw l B b F
 | [],[],F,h=>a _ h
 | [],_::_,F,h=>h.elim
 | (m,.no)::l,[],F,h=>h.elim
 | (m,.at_ t off st)::l,[],F,h=>h.elim
 | (m,.box t)::l,[],F,h=>h.elim
 | (m,.no)::l,.val _ _::B,F,h=>dn a (l:=l) (B:=B) h
 | (m,.no)::l,.mut _ _::B,F,h=>dn a (l:=l) (B:=B) h
 | (m,.no)::l,.ptr _::B,F,h=>dn a (l:=l) (B:=B) h
 | (m,.at_ t off st)::l,.val _ _::B,F,h=>h.elim
 | (m,.at_ t off st)::l,.ptr _::B,F,h=>h.elim
 | (m,.box t)::l,.val _ _::B,F,h=>h.elim
 | (m,.box t)::l,.mut _ _::B,F,h=>h.elim
 | (m,.at_ t off st)::l,.mut ag out::B,F,h=>by
  simp only[iw]at h |-;split at h
  case h_2=>exact h.elim
  split at h
  ·rename_i k c _ _
   cases d:Nat.ble (off+out.length) c.length with
   | false=>grind
   | true=>
    rw[d]at h;simp only[cond_true,di]at h |-;exact dn a h
  obtain⟨r,j,e,f,g,i⟩:=Pu.out h;exact Pu.mk e f g rfl (dn a i)
 | (m,.box t)::l,.ptr out::B,F,h=>by
  simp only[iw]at h |-;split at h
  ·exact dn a h
  exact h.elim
variable{modes:List Nat}{args:List Operand}{f:Nat}
theorem Kw{d:Option Nat}{a:(Nat->AV)->Prop}(h:mK P N F d f args modes K)(j:∀F',K F'->a F'):mK P N F d f args modes a:=by
 unfold mK at h |-;refine co h λF' l h=>?_
 cases c:(xd l&&Nat.beq args.length modes.length) with
 | false=>grind
 | true=>
  rw[c]at h;refine jT h λb A h=>?_
  obtain⟨n,B,k,rcs,e,g,i⟩:=cu.out h;refine CI e g (dn (λF'' h=>?_) i)
  grind [bx]
theorem lK{F:Nat->AV}{K a:Nat->Nat->Prop}(h:AN F x K)(b:∀t o,K t o->a t o):AN F x a:=by grind [vh,AN]
theorem Pq{d:Option Nat}{cs:List C}{c a b:Nat}{f:(Nat->AV)->Prop}{k:Kd}{rcs:List C}{B:List MA}(h:yj N F d t cs c a e b K k rcs B)(l:∀F',K F'->f F'):yj N F d t cs c a e b f k rcs B:=by
 unfold yj at h |-;split at h
 case h_2=>exact h.elim
 rename_i g i;cases j:(Nat.beq g.length a&&Nat.beq i.length b) with
 | false=>grind
 | true=>
  rw[j]at h;simp only[cond_true,di]at h |-
  grind [bx]
theorem Kv{d:Option Nat}{a b:Nat}(h:kD P N F d f args a b K)(e:∀F',K F'->c F'):kD P N F d f args a b c:=by
 unfold kD at h |-;split at h
 case h_2=>exact h.elim
 refine lK h λt g h=>lK h λi j h=>?_
 split at h
 all_goals grind [di,cu.out,CI,Pq]
theorem tC{d:Option Nat}{a:(Nat->AV)->Prop}(h:kG P N F d f args modes K)(b:∀F',K F'->a F'):kG P N F d f args modes a:=by grind [Kv,Kw,kG]
theorem J2{off:Nat}{z:Int}{v:Value}{a:(Nat->AV)->Prop}(h:putMap F t off z v K)(f:∀F',K F'->a F'):putMap F t off z v a:=by
 unfold putMap at h |-;cases b:F t with
 | F k d=>
  rw[b]at h;simp only at h |-;cases e:d[off]? with
  | none=>grind
  | some c=>
   rw[e]at h;cases c with
   | m g=>
    simp only at h |-;have:=h.out;refine Mu.mk rfl ?_
    grind [di]
   | _=>exact h.elim
 | _=>grind
theorem wQ{v:Operand}(h:pk TE F T x y v K)(f:∀F',K F'->b F'):pk TE F T x y v b:=by
 unfold pk at h |-;split at h
 case h_2=>exact h.elim
 obtain⟨z,c,d⟩:=ju h;refine d F (Ca F _) _ ?_;obtain⟨g,a,e⟩:=ju c;refine e F (Ca F _) _ ?_;split at a
 case h_2=>exact a.elim
 split at a
 all_goals grind [J2]
theorem kf{a:(Nat->AV)->Prop}(h:jx P TE N ops o K F)(c:∀F',K F'->a F'):jx P TE N ops o a F:=by
 unfold jx at h |-;refine KL h (λF h=>?_) (λF h=>?_)
 ·split at h
  ·rename_i p _
   have lt:u7 P N F o.dst p.1 p.2.1 p.2.2 K->u7 P N F o.dst p.1 p.2.1 p.2.2 a:=λh=>tC h λF' h=>by grind [p9]
   cases b:R1 N o.op with
   | false=>grind
   | true=>
    rw[b]at h;rcases h with h|h
    ·refine .pl ?_
     grind [zz,wQ,Jj,kH]
    exact .lt (lt h)
  grind [zz,wQ,Jj]
 grind [bx]
theorem E6{m:Nat}(a:UM ops m){K:(Nat->AV)->Prop}(hm:m<=ops.size):∀(l:List Oper)(k:Nat)(listed:Array Bool)(F:Nat->AV),(∀j,l[j]? = ops[k+j]?)->listed.size=ops.size->(∀j,j<ops.size->listed.getD j true=decide (j<k))->DK ops m F listed->DC ops listed->
  Rl P TE N ops (m - k) l K F->KY P TE N ops m K l.length listed F
 | [],k,listed,F,C,L,b,_,_,i=>by
  have D:ops.size<=k:=by
   rcases Nat.lt_or_ge k ops.size with h|h
   ·have:=C 0;simp[h]at this
   exact h
  refine⟨?_,?_⟩
  ·apply List.eq_nil_iff_forall_not_mem.2
   grind [Go.mem_ready]
  cases M:m - k with
  | zero=>rw[M]at i;exact i
  | succ x=>omega
 | o::l,k,listed,F,C,L,b,c,n,i=>by
  have w:ops[k]? = some o:=by simpa using (C 0).symm
  have D:=(Z4.1 w).1;have hready:k∈Region.ready .any ops listed:=mem_ready.2 ⟨by rw[b k D];simp,o,w,λe he hb=>by grind [UM.back]⟩;have A:∀j,l[j]? = ops[k+1+j]?:=λj=>by have:=C (j+1);grind
  have r:∀j,j<ops.size->(listed.setIfInBounds k true).getD j true=decide (j<k+1):=λj O=>by
   by_cases y:j=k
   ·simp_all
   rw[getD_set_ne true (Ne.symm y),b j O]
   grind
  show KY P TE N ops m K (l.length+1) listed F;by_cases f:k<m
  ·have e1:m - k=(m - (k+1))+1:=ω
   rw[e1]at i;obtain⟨mv,d,av,Q,i⟩:=rF (show my P TE N ops o (Rl P TE N ops (m - (k+1)) l K) F from i) (λd hd=>c.dst k o d f w (by rw[b k D];simp) hd) (λT s R S U=>c.mv k o T s f w (by rw[b k D];simp) R S U);refine Nv a w f l.length listed F hready c n Q (E6 a hm l (k+1) _ _ A (by simpa using L) r (c.put (λE G H p u q hl'' B=>?_) (λE G T s p u q hl'' R S U=>?_)) (n.put hready) i)
   ·cases V:av.uses H with
    | false=>rfl
    | true=>
     rcases Q.from_ H V with h|⟨t,_,h⟩
     ·have:=a.look E k G o H p f u q w B h
      grind [cn,UM.back]
     rw[c.dst E G H p q hl'' B t]at h;cases h
   cases V:av.uses s with
   | false=>rfl
   | true=>
    rcases Q.from_ s V with h|⟨t,_,h⟩
    ·grind [gz,cT]
    rw[c.mv E G T s p q hl'' R S U t]at h;cases h
  refine⟨ψ,λj O=>?_⟩;have y:j=k:=by
   obtain⟨h1,oj,W,hall⟩:=mem_ready.1 O;have g:=(Z4.1 W).1;rw[b j g]at h1;simp at h1;rcases Nat.lt_or_ge k j with X|hge
   ·exfalso
    have h2:=pm n a.back (a.tail j ω g k X) g λk' hk'=>by grind [bD,cn]
    grind
   omega
  subst y;unfold z8;rw[w];simp only[CD f];have e0:m - j=0:=ω
  rw[e0]at i;have hp':jx P TE N ops o (P0 P TE N ops l K) F:=i;have Y:∀J,P0 P TE N ops l K J->KY P TE N ops m K l.length (listed.setIfInBounds j true) J:=λJ Z=>
   E6 a hm l (j+1) _ J A (by simpa using L) r ⟨ψ,ψ⟩ (n.put hready) (by rw[show m - (j+1)=0 by omega];cases l<;>exact Z)
  grind [kf]
theorem St.clr(h:St w0 M S0 N F a w)(ds:List Nat):St w0 M S0 N (Ab.clr ds F) a w:=by
 obtain⟨S,φ,h⟩:=h;refine⟨S,φ,λt=>?_,h.dis,h.disS,h.ex,h.sub,h.sup,h.old,h.size,h.defers,h.par⟩;rw[Ej];cases b:ds.any (λd=>(F t).uses d) with
 | true=>trivial
 | false=>
  simp only[cond_false];refine(h.slot t).keep (φ:=φ) (λt _ _ _=>h.slot t) (λc _=>⟨λk e f=>?_,rfl,λ_ _ _=>⟨rfl,rfl⟩⟩) (λ_ _ _=>⟨rfl,rfl⟩) (λ_ _ _=>⟨rfl,rfl⟩) (λ_ _ h=>h) (λ_ _ h=>h)
  grind [Ej,AV.uses]
theorem EX(g:∀t i,TE t=some i->i7 P t i)(E:P.follows .mixedOrders=true){id:Nat}{ds:List Nat}(b:((Nat.ble m ops.size&&below m λj=>match(dt ops j).dst with|some d=>ds.any (Nat.beq d)|none=>true)&&FQ ops m)=true)(G:Rl P TE N ops m ops.toList K (Ab.clr ds F))(H:St w0 M S0 N F a w)(J:∀F' u y,K F'->St w0 M S0 N F' u y->Q .normal u y):(Code.region id ops true).wp P Q a w:=by
 simp only[I0]at b;obtain⟨⟨A,L⟩,b⟩:=b;have c:m<=ops.size:=by simp_all
 refine wp_region_any E ?_;have l:St w0 M S0 N (Ab.clr ds F) a {w with drawn:=w.drawn+1}:=by
  have O:=H.clr ds;obtain⟨S,φ,h⟩:=O;exact⟨S,φ,h.more (w1:={w with drawn:=w.drawn+1}) (λ_ _ h=>h) ψ ⟨rfl,rfl,rfl,I4 _,λ_ _ _=>rfl,λ_ _ _ _=>rfl,λ_ _ _ _=>rfl⟩⟩
 refine DU g (m:=m) J ops.size (Array.replicate ops.size false) _ a _ ?_ l;have R:∀d,ds.any (Nat.beq d)=true->∀t,(Ab.clr ds F t).uses d=false:=λd U t=>by
  rw[Ej];cases Z:ds.any (λd=>(F t).uses d) with
  | true=>rfl
  | false=>
   simp_all
 have B:∀j o d,j<m->ops[j]? = some o->o.dst=some d->ds.any (Nat.beq d)=true:=λj o d f C U=>by grind [hJ,bD]
 have D:=Gh b;have:=E6 (P:=P) (TE:=TE) (N:=N) D (K:=K) c ops.toList 0 (Array.replicate ops.size false) (Ab.clr ds F) (by simp) (by simp) (λj f=>by simp[f]) ⟨ψ,λj o T s f C _ _ _ V t=>by
   obtain⟨k,ok,n,W,X⟩:=(gz V).1;obtain⟨e,p,q,rfl⟩:=cn.1 n;have:=D.back j o C e p q
   grind⟩ (λj oj f Y=>by
   have r:=(Z4.1 f).1;simp[r]at Y) G
 simpa using this
end
section
variable{P:Program}{w0 w w1:World}{M S0 S:ah}{N:fm}{φ:Nat->ah}{F:Nat->AV}{a:Act}{TE:Nat->Option TI}{ops:Array Oper}{ds:List Nat}{nm:Nat->Bool}
def Vw(P:Program)(TE:Nat->Option TI)(ops:Array Oper)(p:Nat)(F:Nat->AV):Prop:=∃d,(dt ops p).dst=some d/\LP F (dt ops p)=none/\df P TE F (dt ops p).op λa=>a=F d
def xb(P:Program)(TE:Nat->Option TI)(N:fm)(ops:Array Oper)(ds:List Nat)(listed:Array Bool)(i:Nat)(K:(Nat->AV)->Prop)(F:Nat->AV):Prop:=
 match ops[i]? with
 | none=>K F
 | some o=>if rV ds o=true then my P TE N ops o K F else jx P TE N ops o (λa=>(∀p,listed.getD p false=true->rV ds (dt ops p)=true->x5 ops i p=false->Vw P TE ops p a)/\K a) F
def Jq(P:Program)(TE:Nat->Option TI)(N:fm)(ops:Array Oper)(ds:List Nat)(K:(Nat->AV)->Prop):Nat->Array Bool->(Nat->AV)->Prop
 | 0,listed,F=>Region.ready .any ops listed=[]/\K F
 | fuel+1,listed,F=>(Region.ready .any ops listed=[]->K F)/\∀i,i∈Region.ready .any ops listed->xb P TE N ops ds listed i (Jq P TE N ops ds K fuel (listed.setIfInBounds i true)) F
variable{Q:Exit->Act->World->Prop}{K:(Nat->AV)->Prop}{i:Nat}{listed:Array Bool}
theorem Hu(c:∀t i,TE t=some i->i7 P t i)(b:xb P TE N ops ds listed i K F)(g:St w0 M S0 N F a w){Kc:Act->World->Prop}(d:∀F' e f,K F'->St w0 M S0 N F' e f->Kc e f):wpOp P ops Q i Kc a w:=by
 unfold xb at b;unfold wpOp;cases j:ops[i]? with
 | none=>grind
 | some o=>
  rw[j]at b;simp only at b |-;obtain⟨S,φ,h⟩:=g;have:if Region.wanted o (yielded ops a.tmps) then o.wp P a w Kc Q else Kc (a.put o.dst undef) w:=by
   split at b
   ·exact h.oneP c b d
   exact h.one c (kf b λF' h=>h.2) d
  grind
def tw(b:∀t i,TE t=some i->i7 P t i){K:(Nat->AV)->Prop}{Q:Exit->Act->World->Prop}(g:∀F' d e,K F'->St w0 M S0 N F' d e->Q .normal d e) :
  ∀(fuel:Nat)(listed:Array Bool)(F:Nat->AV)(a:Act)(w:World),Jq P TE N ops ds K fuel listed F->St w0 M S0 N F a w->wpAny P .any ops Q fuel listed a w
 | 0,_,F,a,w,c,f=>⟨c.1,g F a w c.2 f⟩
 | fuel+1,_,F,a,w,c,f=>⟨λj=>g F a w (c.1 j) f,λi k=>Hu b (c.2 i k) f λF' d e l h=>tw b g fuel _ F' d e l h⟩
def bV(ts:List Nat)(F F1:Nat->AV):Prop:=∀t e,(F1 t).uses e=true->e∈ts\/∃a,(F a).uses e=true
theorem bV.refl(ts:List Nat)(F:Nat->AV):bV ts F F:=λt _ h=>.inr ⟨t,h⟩
variable{F1:Nat->AV}{ts:List Nat}
theorem bV.trans{F a:Nat->AV}(b:bV ts F F1)(c:bV ts F1 a):bV ts F a:=λt e h=>by
 rcases c t e h with h|⟨d,h⟩
 ·exact .inl h
 exact b d e h
variable{d:Nat}
theorem bV.clean(h:bV ts F F1)(b:d∉ts)(c:∀t,(F t).uses d=false):∀t,(F1 t).uses d=false:=λt=>by
 cases a:(F1 t).uses d with
 | false=>rfl
 | true=>
  rcases h t d a with h|⟨e,h⟩
  all_goals grind
theorem bV.put{ts:List Nat}{dj:Nat}{av:AV}(h:∀e,av.uses e=true->e∈ts\/∃b,(F b).uses e=true):bV ts F (put F dj av):=λt e a=>by
 by_cases c:t=dj
 ·grind [qB]
 rw[ja _ _ c]at a;exact .inr ⟨t,(Tb a).1⟩
variable{v:AV}{t e:Nat}
theorem QD(h:(tW t v).uses e=true):v.uses e=true:=by
 cases v with
 | a7 a b d f=>simp only[tW]at h;cases c:Nat.beq a t<;>rw[c]at h<;>first|exact h|cases h
 | ref a b d=>cases d<;>simp only[tW]at h<;>first|exact h|(cases c:Nat.beq a t<;>rw[c]at h<;>first|exact h|cases h)
 | _=>exact h
theorem bV.updH{ts:List Nat}{t:Nat}{k:Kd}{cs:List C} : bV ts F (updH F t k cs):=λs e a=>by
 unfold Ab.updH at a;cases b:Nat.beq s t with
 | true=>rw[b]at a;cases a
 | false=>grind [QD]
theorem PI(h:(RR t v).uses e=true):v.uses e=true:=by
 cases v with
 | a7 a b d f=>simp only[RR]at h;cases c:Nat.beq a t<;>rw[c]at h<;>first|exact h|cases h
 | ref a b d=>simp only[RR]at h;cases c:Nat.beq a t<;>rw[c]at h<;>first|exact h|cases h
 | _=>exact h
theorem bV.kill{ts:List Nat}{t:Nat} : bV ts F (kill F t):=λs e a=>by
 unfold Ab.kill at a;cases b:Nat.beq s t with
 | true=>rw[b]at a;cases a
 | false=>grind [PI]
variable{av:AV}
theorem cg(h:t≠d):eff none d av F t=F t:=by grind [eff]
theorem nK{a:Option Nat} : eff a d av F d=av:=by grind [eff]
theorem Qi : eff none d (F d) F=F:=by grind [nK,cg]
theorem nt(a:d∉ts)(b:∀t,(F t).uses d=false):iz (eff none d av F) F ts:=λt c=>by grind [cg]
variable{dj:Nat}
theorem UE(a:dj≠d):put (eff none d v F) dj av=eff none d (kl dj v) (put F dj av):=by grind [qB,cg,ja,nK]
variable{b:Kd}
theorem p7{a:List C}(c:t≠d):updH (eff none d v F) t b a=eff none d (tW t v) (updH F t b a):=by grind [nK,Nat.beq_eq,cg,updH]
theorem yN{a:List C}(c:t≠d):updH F t b a d=tW t (F d):=by grind [Nat.beq_eq,updH]
theorem Mc{a:List C}(c:t≠d):updN (eff none d v F) t b a=eff none d (RO t v) (updN F t b a):=by grind [nK,Nat.beq_eq,cg,updN]
theorem J3{a:List C}(c:t≠d):updN F t b a d=RO t (F d):=by grind [Nat.beq_eq,updN]
theorem RK(h:(RO t v).uses e=true):v.uses e=true:=by
 cases v with
 | a7 b c a f=>
  cases a with
  | nil=>exact h
  | cons s a=>simp only[RO]at h;cases d:Nat.beq b t<;>rw[d]at h<;>first|exact h|cases h
 | ref b c a=>
  cases a with
  | nil=>exact h
  | cons s a=>simp only[RO]at h;cases d:Nat.beq b t<;>rw[d]at h<;>first|exact h|cases h
 | _=>exact h
theorem bV.updN{ts:List Nat}{t:Nat}{k:Kd}{cs:List C} : bV ts F (updN F t k cs):=λs e a=>by
 unfold Ab.updN at a;cases b:Nat.beq s t with
 | true=>rw[b]at a;cases a
 | false=>grind [RK]
def Fq(d:Nat)(ts:List Nat)(v:AV)(F:Nat->AV)(K:(Nat->AV)->Prop)(F1:Nat->AV):Prop:=∃a,(v=F d->a=F1 d)/\K (eff none d a F1)/\bV ts F F1
def WD(d:Nat)(ts:List Nat)(v:AV)(F:Nat->AV)(K:(Nat->AV)->Option Nat->List C->Prop)(F1:Nat->AV)(ag:Option Nat)(cs:List C):Prop:=∃a,(v=F d->a=F1 d)/\K (eff none d a F1) ag cs/\bV ts F F1
def Fq.trans{v1:AV}{a:Nat->AV}(b:v=F d->v1=F1 d)(c:bV ts F F1)(h:Fq d ts v1 F1 K a):Fq d ts v F K a:=by
 obtain⟨f,g,i,j⟩:=h;exact⟨f,λe=>g (b e),i,c.trans j⟩
theorem iv(h:bO N (eff none d v F) dj av K)(a:dj≠d)(b:∀e,av.uses e=true->e∈ts\/∃c,(F c).uses e=true):bO N F dj av (Fq d ts v F K):=by
 unfold bO at h |-;cases f:(N.free dj&&!av.uses dj) with
 | false=>grind
 | true=>
  rw[f]at h;simp only[cond_true]at h |-;rw[UE a]at h;exact⟨kl dj v,λe=>by grind [ja],h,bV.put b⟩
variable{cs:List C}{k:Kd}
def jo : ∀e,(AV.F k cs).uses e=true->e∈ts\/∃a,(F a).uses e=true:=λe h=>by cases h
theorem Et{p:(Nat->AV)->(AV->Prop)->Prop}{ts0:List Nat}(h:pZ p (eff none d v F) ts0 λav=>bO N (eff none d v F) dj av K)(a:dj≠d)(j:∀t,t∈ts0->t∈ts)(k:d∉ts)(b:∀t,(F t).uses d=false) :
  p F λav=>bO N F dj av (Fq d ts v F K):=by
 obtain⟨av,c,f,g⟩:=h;refine g F (nt ψ b) _ (iv c a λe i=>?_);rcases f e i with h|⟨t,l,h⟩
 all_goals grind [cg]
variable{y:Operand}
theorem rC{K:(Nat->AV)->Option Nat->List C->Prop}(h:ib (eff none d v F) y K)(n:d∉tm y)(o:∀t,(F t).uses d=false):ib F y (WD d ts v F K):=by
 have fin:∀{t:Nat}{k:Kd}{b:List C}{a:Option Nat}{xs:List C},t≠d->K (updH (eff none d v F) t k b) a xs->WD d ts v F K (updH F t k b) a xs:=fun {t k b a xs} c h=>by
  rw[p7 c]at h;exact⟨_,λe=>by rw[yN c,e],h,bV.updH⟩
 have eN:∀{t:Nat}{k:Kd}{b:List C}{a:Option Nat}{xs:List C},t≠d->K (updN (eff none d v F) t k b) a xs->WD d ts v F K (updN F t k b) a xs:=fun {t k b a xs} c h=>by
  rw[Mc c]at h;exact⟨_,λe=>by rw[J3 c,e],h,bV.updN⟩
 cases y with
 | tmp t=>
  have c:t≠d:=λe=>n (by simp[tm,e])
  simp only[ib]at h |-;rw[cg c]at h;cases g:F t with
  | F p q=>
   grind
  | a7 i u l a=>
   rw[g]at h;have w:i≠d:=λe=>by have:=o t;rw[g,e]at this;simp[AV.uses]at this
   cases l with
   | cons s l=>
    simp only at h |-;rw[cg w]at h;cases f:F i with
    | F p q=>
     rw[f]at h;obtain⟨r,j,A,B,D,E⟩:=Lq.out h;exact .mk_ ψ
    | _=>grind
   | nil=>
    grind [cg]
  | _=>grind
 | _=>exact h.elim
theorem RY{K:(Nat->AV)->Option Nat->List C->Prop}(h:wu (eff none d v F) y K)(b:d∉tm y)(c:∀t,(F t).uses d=false):wu F y (WD d ts v F K):=by
 obtain⟨i,xs,a,f⟩:=cr h;refine f F (nt b c) _ ?_;cases g:bm xs with
 | true=>rw[g]at a;exact⟨v,λe=>e,a,bV.refl _ _⟩
 | false=>grind [rC]
def Xx(d:Nat)(ts:List Nat)(v:AV)(F:Nat->AV)(K:(Nat->AV)->List C->Prop)(F1:Nat->AV)(cs:List C):Prop:=∃a,(v=F d->a=F1 d)/\K (eff none d a F1) cs/\bV ts F F1
theorem zu{d:Nat}{ts:List Nat}{c:Nat->Option (Nat × Nat)}(a:d∉ts):∀{parts:List (Nat × Operand)}{cs:List C}{K:(Nat->AV)->List C->Prop}{F:Nat->AV}{v:AV},fillW c parts cs K (eff none d v F)->(∀p,p∈parts->d∉tm p.2)->(∀t,(F t).uses d=false)->
  fillW c parts cs (Xx d ts v F K) F
 | [],cs,K,F,v,h,_,b=>⟨v,λe=>e,h,bV.refl _ _⟩
 | p::rest,cs,K,F,v,h,r,b=>by
  simp only[fillW]at h |-;split at h
  case h_2=>exact h.elim
  rename_i q u;refine vq (RY (ts:=ts) h ψ b) λw y xs h=>?_
  obtain⟨A,g,h,f⟩:=h;cases i:(Nat.beq xs.length q.2&&Nat.ble (q.1+q.2) cs.length) with
  | false=>grind
  | true=>
   rw[i]at h;simp only[cond_true,di]at h |-;refine jP (zu a h ψ (f.clean a b)) λB cs2 j=>?_
   obtain⟨k,l,n,o⟩:=j;exact⟨k,λe=>l (g e),n,f.trans o⟩
variable{parts:List (Nat × Operand)}{T:Nat}
theorem NR(h:lv TE N (eff none d v F) dj T parts K)(a:dj≠d)(b:d∉ts)(c:∀p,p∈parts->d∉tm p.2)(e:∀t,(F t).uses d=false) :
  lv TE N F dj T parts (Fq d ts v F K):=by
 unfold lv at h |-;split at h
 case h_2=>exact h.elim
 rename_i size bytes zero flds k;cases f:Fx TE flds with
 | false=>grind
 | true=>
  rw[f]at h;refine jP (zu b h c e) λl n h=>?_
  obtain⟨o,g,h,i⟩:=h;exact bx (iv (ts:=ts) h a jo) λq j=>Fq.trans g i j
variable{n:Nat}
theorem L0(h:gp TE N (eff none d v F) dj T n parts K)(a:dj≠d)(c:d∉ts)(f:∀p,p∈parts->d∉tm p.2)(g:∀t,(F t).uses d=false) :
  gp TE N F dj T n parts (Fq d ts v F K):=by
 unfold gp at h |-;obtain⟨e,i,h,b⟩:=iM h;refine b _ ?_;cases j:Nat.ble (n*i.size) 16777216 with
 | false=>grind
 | true=>
  rw[j]at h;simp only[cond_true]at h |-;cases n with
  | zero=>
   cases parts with
   | nil=>exact iv h a jo
   | cons=>exact h.elim
  | succ n=>
   simp only[di]at h |-;refine jP (zu c h f g) λq r h=>?_
   obtain⟨u,k,h,l⟩:=h;rw[qp]at h |-;exact bx (iv (ts:=ts) h a jo) λw o=>Fq.trans k l o
theorem P8(h:js N (eff none d v F) dj (.tmp t) K)(a:dj≠d)(c:d∉ts)(l:t∈ts)(g:∀t,(F t).uses d=false):js N F dj (.tmp t) (Fq d ts v F K):=by
 have b:t≠d:=ψ
 have std:bF (eff none d v F) (.tmp t) (λf=>bO N (eff none d v F) dj f K)->bF F (.tmp t) (λf=>bO N F dj f (Fq d ts v F K)):=λh=>
  Et (p:=λF K=>bF F (.tmp t) K) (kw h) a (λn o=>by grind [tm]) c g
 simp only[js]at h |-;rw[cg b]at h;split at h
 ·rename_i i xs q
  cases j:bm xs with
  | true=>grind [iv]
  | false=>
   rw[j]at h;simp only[cond_false]at h |-;rw[p7 b]at h;exact bx (iv (ts:=ts) h a jo) λr k=>Fq.trans (F1:=updH F t (.tup i) _) (λe=>by grind [yN]) bV.updH k
 all_goals exact std h
variable{x:Operand}
theorem Vr{b:Operand}(h:Jz TE N (eff none d v F) dj T x b K)(c:dj≠d)(f:d∉tm x)(g:d∉tm b)(j:∀t,(F t).uses d=false):Jz TE N F dj T x b (Fq d ts v F K):=by
 unfold Jz at h |-;obtain⟨e,A,h,a⟩:=iM h;refine a _ ?_;obtain⟨n,k,i⟩:=pp h;refine i F (nt g j) _ ?_;refine fx (rC (ts:=ts) k f j) λB C D h=>?_
 obtain⟨E,l,h,o⟩:=h;split at h
 case h_2=>exact h.elim
 obtain⟨m,y,p,q,r,u,w,h⟩:=h.out;exact .mk_ ⟨m,y,p,q,r,u,w,_,rfl,bx (iv (ts:=ts) h c jo) λG i=>Fq.trans l o i⟩
theorem NM(h:lB N (eff none d v F) dj x K)(a:dj≠d)(j:d∉ts)(k:∀t,t∈tm x->t∈ts)(o:∀t,(F t).uses d=false):lB N F dj x (Fq d ts v F K):=by
 have l:∀y,(∀t,t∈tm y->t∈ts)->bF (eff none d v F) y (λn=>bO N (eff none d v F) dj n K)->bF F y (λn=>bO N F dj n (Fq d ts v F K)):=λy q h=>Et (p:=λF K=>bF F y K) (kw h) a q j o
 have A:∀y,(∀t,t∈tm y->t∈ts)->ib (eff none d v F) y (λb e i=>bO N b dj (.F (kv e) i) K)->ib F y (λb e i=>bO N b dj (.F (kv e) i) (Fq d ts v F K)):=λy q h=>
  fx (rC (ts:=ts) h ψ o) λb e i h=>by
   obtain⟨B,r,h,u⟩:=h;exact bx (iv (ts:=ts) h a jo) λC w=>Fq.trans r u w
 cases x with
 | tmp t=>
  grind [cg,tm,lB]
 | const c=>exact l (.const c) k h
 | global g=>exact l (.global g) k h
 | func f=>exact l (.func f) k h
theorem Ey(a:t≠d):kill (eff none d v F) t=eff none d (RR t v) (kill F t):=by grind [nK,mG,cg,rQ]
theorem UG(h:EF N (eff none d v F) dj x K)(a:dj≠d)(c:d∉ts)(j:∀t,t∈tm x->t∈ts)(l:∀t,(F t).uses d=false):EF N F dj x (Fq d ts v F K):=by
 have f:Je N (eff none d v F) dj x=Je N F dj x:=by
  cases x with
  | tmp t=>
   grind [cg,tm,Je]
  | _=>rfl
 unfold EF at h |-;cases b:Qg N dj x with
 | true=>
  rw[b]at h;simp only[cond_true]at h |-;exact iv (ts:=ts) h a jo
 | false=>
 rw[b]at h;simp only[cond_false]at h |-;unfold MK at h |-;rw[f]at h;cases i:Je N F dj x with
 | none=>grind [NM]
 | some p=>
  rw[i]at h;simp only at h |-;obtain⟨rfl,n⟩:=DG i;have g:p.1≠d:=λe=>c (e ▸ j p.1 (by simp[tm]))
  rw[Ey g]at h;exact bx (iv (ts:=ts) h a jo) λo k=>Fq.trans (F1:=kill F p.1) (λe=>by grind [mG]) bV.kill k
theorem Mo(h:sH (eff none d v F) x cs K)(l:d∉tm x)(n:∀t,(F t).uses d=false):sH F x cs (Fq d ts v F K):=by
 have fin:∀{t:Nat}{k:Kd}{cs:List C},t≠d->K (updH (eff none d v F) t k cs)->Fq d ts v F K (updH F t k cs):=fun {t k cs} a h=>by
  rw[p7 a]at h;exact⟨_,λe=>by rw[yN a,e],h,bV.updH⟩
 have eN:∀{t:Nat}{k:Kd}{cs:List C},t≠d->K (updN (eff none d v F) t k cs)->Fq d ts v F K (updN F t k cs):=fun {t k cs} a h=>by
  rw[Mc a]at h;exact⟨_,λe=>by rw[J3 a,e],h,bV.updN⟩
 have finP:∀{t:Nat}{k:Kd}{cs:List C},t≠d->K (TA (eff none d v F) t k cs)->Fq d ts v F K (TA F t k cs):=fun {t k cs} a h=>by
  cases k with
  | box=>exact fin a h
  | _=>exact eN a h
 cases x with
 | tmp t=>
  have a:t≠d:=λe=>l (by simp[tm,e])
  simp only[sH]at h |-;rw[cg a]at h;cases c:F t with
  | F k o=>
   grind [di]
  | ref f p g=>
   rw[c]at h;have i:f≠d:=λe=>by have:=n t;rw[c,e]at this;simp[AV.uses]at this
   cases g with
   | cons s g=>
    simp only at h |-;rw[cg i]at h;cases b:F f with
    | F k o=>
     rw[b]at h;obtain⟨r,j,q,u,w,y⟩:=Pu.out h;exact Pu.mk q u w rfl (finP i y)
    | _=>grind
   | nil=>
    grind [cg,di]
  | _=>grind
 | _=>exact h.elim
theorem Rg(h:nz TE (eff none d v F) T x y K)(b:d∉ts)(n:d∉tm x)(j:d∉tm y)(c:∀t,(F t).uses d=false):nz TE F T x y (Fq d ts v F K):=by
 unfold nz at h |-;split at h
 ·rename_i i r
  obtain⟨u,k,a,e⟩:=cr h;refine e F (nt j c) _ ?_;cases o:Nat.beq k.length i.size with
  | false=>grind
  | true=>
   rw[o]at a;simp only[cond_true]at a |-;cases p:bm k with
   | true=>grind [Mo]
   | false=>
    rw[p]at a;simp only[cond_false]at a |-;refine fx (rC (ts:=ts) a j c) λw q f h=>?_
    obtain⟨A,a,h,l⟩:=h;cases g:Nat.beq f.length i.size with
    | false=>grind
    | true=>rw[g]at h;exact Ec (Mo (ts:=ts) h n (l.clean b c)) λB e=>Fq.trans a l e
 exact h.elim
def Vg(a:d∉tm y):oH (eff none d v F) y=oH F y:=by
 cases y with
 | tmp t=>exact cg λe=>a (by simp[tm,e])
 | _=>rfl
theorem Vy{K:Bool->(Nat->AV)->List (List C)->Prop}(h:F5 (eff none d v F) y K)(b:d∉tm y)(c:∀t,(F t).uses d=false):F5 F y λe F1 rows=>∃v1,(v=F d->v1=F1 d)/\K e (eff none d v1 F1) rows/\bV ts F F1:=by
 have a:=Vg (F:=F) (v:=v) b;unfold F5 at h |-;rw[a]at h;split at h
 ·refine fx (rC (ts:=ts) h b c) λF1 f g h=>?_
  obtain⟨v1,i,h,j⟩:=h
  grind
 grind [cr,nt,bV.refl]
theorem Td{K:(Nat->AV)->List (List C)->Prop}(h:DO (eff none d v F) y K)(b:d∉tm y)(c:∀t,(F t).uses d=false):DO F y λF1 rows=>∃v1,(v=F d->v1=F1 d)/\K (eff none d v1 F1) rows/\bV ts F F1:=by
 obtain⟨e,xs,a,f⟩:=cr h;refine f F (nt b c) _ ?_;split at a
 ·grind [bV.refl]
 ·refine fx (rC (ts:=ts) a b c) λF1 e g h=>?_
  obtain⟨v1,a,h,i⟩:=h
  grind
 exact a.elim
theorem TM(h:BW TE N (eff none d v F) dj T x y K)(b:dj≠d)(c:d∉ts)(j:d∉tm x)(k:d∉tm y)(f:∀t,(F t).uses d=false):BW TE N F dj T x y (Fq d ts v F K):=by
 obtain⟨e,B,h,a⟩:=iM h;refine a _ (Hl (Vy (ts:=ts) h k f) λC D E h=>?_);obtain⟨G,l,h,g⟩:=h;refine Dd (Td (ts:=ts) h j (g.clean c f)) λH i h=>?_
 obtain⟨J,n,h,o⟩:=h;obtain⟨p,q,r,u,w,h⟩:=Ap.out h;refine CS p q r u w rfl (bx (iv (ts:=ts) h b jo) λL A=>?_);exact Fq.trans l g (Fq.trans n o A)
theorem QU{f:Oper}(B:f.guard=none)(g:Uq f.op=true)(k:f.dst≠some d)(u:d∉f.looksAt ops)(w:∀t,(F t).uses d=false)(h:jx P TE N ops f K (eff none d v F)) :
  jx P TE N ops f (Fq d (f.looksAt ops) v F K) F:=by
 unfold jx fY at h |-;rw[B]at h |-;simp only at h |-;have j:∀t,t∈du f.op->t∈f.looksAt ops:=λt l=>iT f t l
 have pur:∀b,b≠d->df P TE (eff none d v F) f.op (λq=>bO N (eff none d v F) b q K)->df P TE F f.op λq=>bO N F b q (Fq d (f.looksAt ops) v F K):=λb k h=>
  Et (p:=λF K=>df P TE F f.op K) (k4 h) k j u w
 have dne:∀b,f.dst=some b->b≠d:=ψ
 have tmI:∀x,x∈f.op.operands.toList->∀t,t∈tm x->t∈f.looksAt ops:=λx C t l=>j t (List.mem_flatMap.2 ⟨x,C,l⟩)
 cases e:f.op with
 | store T x y=>
  rw[e]at h tmI;simp only[Df]at h |-;cases a:f.dst with
  | some b=>rw[a]at h;simp only[kV]at h;exact h.elim
  | none=>
   grind [Rg,Go.Op.operands]
 | move x=>
  rw[e]at h tmI;cases a:f.dst with
  | none=>rw[a]at h;exact h.elim
  | some b=>
   rw[a]at h;cases x with
   | tmp t=>
    simp only[Df,kV]at h |-;exact P8 h (dne b a) u (tmI (.tmp t) (by simp[Op.operands]) t (by simp[tm])) w
   | _=>rw[e]at g;cases g
 | assign x=>
  rw[e]at h tmI
  grind [UG,Df,kV,Go.Op.operands]
 | build T D=>
  rw[e]at h tmI
  grind [NR,Df,kV,Go.Op.operands]
 | buildSlice T n D=>
  rw[e]at h tmI
  grind [L0,Df,kV,Go.Op.operands]
 | extract x i=>rw[e]at h pur;cases a:f.dst with|none=>rw[a]at h;exact h.elim|some b=>rw[a]at h;exact pur b (dne b a) h
 | load T x=>rw[e]at h pur;cases a:f.dst with|none=>rw[a]at h;exact h.elim|some b=>rw[a]at h;exact pur b (dne b a) h
 | fieldAddr T x i=>rw[e]at h pur;cases a:f.dst with|none=>rw[a]at h;exact h.elim|some b=>rw[a]at h;exact pur b (dne b a) h
 | field T x i=>rw[e]at h pur;cases a:f.dst with|none=>rw[a]at h;exact h.elim|some b=>rw[a]at h;exact pur b (dne b a) h
 | binOp o T x y L=>rw[e]at h pur;cases a:f.dst with|none=>rw[a]at h;exact h.elim|some b=>rw[a]at h;exact pur b (dne b a) h
 | unOp o T x=>rw[e]at h pur;cases a:f.dst with|none=>rw[a]at h;exact h.elim|some b=>rw[a]at h;exact pur b (dne b a) h
 | call c=>
  rw[e]at g h tmI;cases E:sx c with
  | none=>grind [Uq]
  | some p=>
   have r:=y5 E;subst r;cases a:f.dst with
   | none=>rw[a]at h;exact h.elim
   | some b=>
    grind [TM,Df,kV,Go.Op.operands,Go.Call.operands]
 | slice T x G A H=>
  rw[e]at g h tmI pur;cases G with
  | some _=>cases g
  | none=>
   cases A with
   | none=>cases g
   | some A=>
    cases H with
    | some _=>cases g
    | none=>
     cases a:f.dst with
     | none=>rw[a]at h;exact h.elim
     | some b=>
      rw[a]at h;simp only[Df,kV]at h |-;cases J:WT N b with
      | false=>simp_all
      | true=>
       grind [Vr,Go.Op.operands]
 | _=>rw[e]at g;cases g
theorem Va{a:Oper}(c:a.guard=none)(f:Uq a.op=true)(b:a.dst≠some d)(g:d∉a.looksAt ops)(i:∀t,(F t).uses d=false)(h:jx P TE N ops a K F) :
  jx P TE N ops a (λF1=>K F1/\bV (a.looksAt ops) F F1) F:=by
 refine kf (QU (d:=d) (v:=F d) c f b g i (by rw[Qi];exact h)) λF1 j=>?_
 obtain⟨k,e,l,u⟩:=j
 grind [Qi]
theorem bV.setH{ts:List Nat}{t:Nat}{k:Kd}{cs:List C} : bV ts F (setH F t (.F k cs)):=λs e a=>by
 unfold Ab.setH at a;cases b:Nat.beq s t with
 | true=>rw[b]at a;cases a
 | false=>grind
variable{rcs:List C}
theorem LW(h:bO N F d (.F k rcs) K):bO N F d (.F k rcs) λF1=>K F1/\bV ts F F1:=by
 unfold bO at h |-;cases a:(N.free d&&!(AV.F k rcs).uses d) with
 | false=>grind
 | true=>rw[a]at h;exact⟨h,bV.put λe b=>by cases b⟩
theorem vG{off:Nat}{st:cA}{K:(Nat->AV)->List C->Prop}(h:lendAt F t off st n K):lendAt F t off st n λF1 cs=>K F1 cs/\bV ts F F1:=by
 unfold lendAt at h |-;split at h
 all_goals grind [di,bV.updH]
def mw{ts:List Nat} : ∀{xs:List (Operand × Nat)}{K:(Nat->AV)->List (MA × tK)->Prop}{F:Nat->AV},lendP xs K F->lendP xs (λF1 l=>K F1 l/\bV ts F F1) F
 | [],K,F,h=>⟨h,bV.refl _ _⟩
 | (x,0)::xs,K,F,h=>mw (xs:=xs) h
 | (x,1)::xs,K,F,h=>by
  simp only[lendP]at h |-;split at h
  case h_2=>exact h.elim
  split at h
  ·exact f8 (vG (ts:=ts) h) λF1 c h=>co (mw (ts:=ts) h.1) λb l a=>⟨a.1,h.2.trans a.2⟩
  ·exact f8 (vG (ts:=ts) h) λF1 c h=>co (mw (ts:=ts) h.1) λb l a=>⟨a.1,h.2.trans a.2⟩
  ·exact f8 (vG (ts:=ts) h) λF1 c h=>co (mw (ts:=ts) h.1) λb l a=>⟨a.1,h.2.trans a.2⟩
  exact h.elim
 | (x,n+2)::xs,K,F,h=>by
  simp only[lendP]at h |-;split at h
  case h_2=>exact h.elim
  split at h
  ·split at h
   ·exact co (mw (ts:=ts) h) λb l a=>⟨a.1,bV.kill.trans a.2⟩
   exact h.elim
  ·exact co (mw (ts:=ts) h) λb l a=>⟨a.1,bV.kill.trans a.2⟩
  exact h.elim
theorem lY{ts:List Nat}{K:(Nat->AV)->Prop} : ∀{l:List (MA × tK)}{B:List MA}{F:Nat->AV},iw l B K F->iw l B (λF1=>K F1/\bV ts F F1) F
 | [],[],F,h=>⟨h,bV.refl _ _⟩
 | [],_::_,F,h=>h.elim
 | (m,.no)::l,[],F,h=>h.elim
 | (m,.at_ t off st)::l,[],F,h=>h.elim
 | (m,.box t)::l,[],F,h=>h.elim
 | (m,.no)::l,.val _ _::B,F,h=>lY (l:=l) (B:=B) h
 | (m,.no)::l,.mut _ _::B,F,h=>lY (l:=l) (B:=B) h
 | (m,.no)::l,.ptr _::B,F,h=>lY (l:=l) (B:=B) h
 | (m,.at_ t off st)::l,.val _ _::B,F,h=>h.elim
 | (m,.at_ t off st)::l,.ptr _::B,F,h=>h.elim
 | (m,.box t)::l,.val _ _::B,F,h=>h.elim
 | (m,.box t)::l,.mut _ _::B,F,h=>h.elim
 | (m,.at_ t off st)::l,.mut ag out::B,F,h=>by
  simp only[iw]at h |-;split at h
  case h_2=>exact h.elim
  split at h
  ·rename_i k c _ _
   cases d:Nat.ble (off+out.length) c.length with
   | false=>grind
   | true=>
    rw[d]at h;simp only[cond_true,di]at h |-;exact dn (λb a=>⟨a.1,bV.updH.trans a.2⟩) (lY (ts:=ts) h)
  obtain⟨r,j,e,f,g,i⟩:=Pu.out h;exact Pu.mk e f g rfl (dn (λb a=>⟨a.1,bV.updH.trans a.2⟩) (lY (ts:=ts) i))
 | (m,.box t)::l,.ptr out::B,F,h=>by
  simp only[iw]at h |-;split at h
  ·exact dn (λb a=>⟨a.1,bV.setH.trans a.2⟩) (lY (ts:=ts) h)
  exact h.elim
variable{modes:List Nat}{args:List Operand}{f:Nat}
theorem Rf{d:Option Nat}(h:mK P N F d f args modes K):mK P N F d f args modes λF1=>K F1/\bV ts F F1:=by
 unfold mK at h |-;refine co (mw (ts:=ts) h) λn l h=>?_
 obtain⟨h,c⟩:=h;cases e:(xd l&&Nat.beq args.length modes.length) with
 | false=>grind
 | true=>
  rw[e]at h;refine jT h λb A h=>?_
  obtain⟨o,B,k,rcs,g,a,i⟩:=cu.out h;refine CI g a (dn (λF'' h=>?_) (lY (ts:=ts) i));obtain⟨h,j⟩:=h;cases d with
  | none=>grind [bV.trans]
  | some d=>exact bx (LW (ts:=ts) h) λp a=>⟨a.1,(c.trans j).trans a.2⟩
theorem Tr{d:Option Nat}{c a b:Nat}{B:List MA}(h:yj N F d t cs c a e b K k rcs B):yj N F d t cs c a e b (λF1=>K F1/\bV ts F F1) k rcs B:=by
 unfold yj at h |-;split at h
 case h_2=>exact h.elim
 rename_i g i;cases j:(Nat.beq g.length a&&Nat.beq i.length b) with
 | false=>grind
 | true=>
  rw[j]at h;simp only[cond_true,di]at h |-;cases d with
  | none=>exact⟨h,bV.kill.trans bV.setH⟩
  | some d=>exact bx (LW (ts:=ts) h) λl f=>⟨f.1,(bV.kill.trans bV.setH).trans f.2⟩
theorem Qt{d:Option Nat}{a b:Nat}(h:kD P N F d f args a b K):kD P N F d f args a b λF1=>K F1/\bV ts F F1:=by
 unfold kD at h |-;split at h
 case h_2=>exact h.elim
 refine lK h λt e h=>lK h λg c h=>?_
 split at h
 case h_2=>exact h.elim
 rename_i i p;cases j:(Nat.beq g t&&Nat.ble (e+a) c&&Nat.ble (c+b) i.length) with
 | false=>grind
 | true=>
  rw[j]at h;simp only[cond_true,di]at h |-;obtain⟨q,B,k,rcs,l,n,o⟩:=cu.out h;exact CI l n (Tr o)
def QL{d:Option Nat}(h:kG P N F d f args modes K):kG P N F d f args modes λF1=>K F1/\bV ts F F1:=by
 unfold kG at h |-;split
 ·rename_i p a;rw[a]at h;exact Qt h
 rename_i a;rw[a]at h;exact Rf h
variable{s:Nat}
theorem UA{dj:Option Nat}{a:Nat->AV}(u:bV ts F a):bV ts F (rv1 F dj s a):=by
 unfold rv1;split
 case h_2=>exact u
 rename_i t c f;cases g:(dne dj s&&dne dj t) with
 | false=>exact u
 | true=>
  simp only[cond_true];split
  case h_2=>exact u
  split
  case h_2=>exact u
  intro q e b;by_cases d:q=s
  ·grind [rx]
  rw[fI _ _ d]at b;exact u q e b
theorem KB{ts:List Nat}{dj:Option Nat} : ∀{l:List Nat}{a:Nat->AV},bV ts F a->bV ts F (rvE F dj l a)
 | [],_,u=>u
 | _::l,_,u=>KB (l:=l) (UA u)
theorem Ta{a:Oper}(k:a.guard=none)(i:rj a.op=true)(h:jx P TE N ops a K F):jx P TE N ops a (λF1=>K F1/\bV (a.looksAt ops) F F1) F:=by
 have pur:∀d,a.dst=some d->df P TE F a.op (λg=>bO N F d g K)->df P TE F a.op λg=>bO N F d g λF1=>K F1/\bV (a.looksAt ops) F F1:=λd l h=>by
  have n:im P TE N ops a K F:=by grind [im,fY]
  obtain⟨y,g,j,o⟩:=zH n;have b:=j.dst;rw[l]at b;simp only[O1]at b;subst b;have A:=j.at_ F (Ca _ _) (λF1=>K F1/\bV (a.looksAt ops) F F1) ⟨o,bV.put λe q=>(j.from_ e q).imp id ψ⟩
  grind [im,fY]
 unfold jx fY at h |-;rw[k]at h |-;simp only at h |-;cases f:a.op with
 | call c=>
  rw[f]at h i;have r:sx c=none:=by grind [rj,sx]
  have pl:kH P TE N a K F->kH P TE N a (λF1=>K F1/\bV (a.looksAt ops) F F1) F:=λh=>by grind [kH,kV]
  cases t:Df N F (.call c) with
  | some p=>
   rw[t]at h;simp only at h |-;have lt:u7 P N F a.dst p.1 p.2.1 p.2.2 K->u7 P N F a.dst p.1 p.2.1 p.2.2 λF1=>K F1/\bV (a.looksAt ops) F F1:=λh=>tC (QL (ts:=a.looksAt ops) h) λF1 ⟨h,u⟩=>by grind [p9,KB]
   cases w:R1 N (.call c) with
   | false=>grind
   | true=>
    rw[w]at h;rcases h with h|h
    ·exact .pl (pl h)
    exact .lt (lt h)
  | none=>
   grind [kH]
 | _=>rw[f]at i;cases i
theorem T3{a:Oper}(c:a.guard=none)(e:(Uq a.op || rj a.op)=true)(b:a.dst≠some d)(f:d∉a.looksAt ops)(g:∀t,(F t).uses d=false)(h:jx P TE N ops a K F) :
  jx P TE N ops a (λF1=>K F1/\bV (a.looksAt ops) F F1) F:=by grind [Va,Ta]
def Gq(d:Nat)(ts:List Nat)(F:Nat->AV)(K:(Nat->AV)->Prop)(F1:Nat->AV):Prop:=∃a,K (eff none d a F1)/\bV ts F F1
def Gq.trans{a:Nat->AV}(b:bV ts F F1)(h:Gq d ts F1 K a):Gq d ts F K a:=by
 obtain⟨c,e,f⟩:=h;exact⟨c,e,b.trans f⟩
theorem EJ(a:t≠d):setH (eff none d v F) t av=eff none d v (setH F t av):=by grind [nK,fI,cg,setH]
theorem vV{off:Nat}{st:cA}{K:(Nat->AV)->List C->Prop}(h:lendAt (eff none d v F) t off st n K)(a:t≠d):lendAt F t off st n λF1 cs=>∃v1,K (eff none d v1 F1) cs/\bV ts F F1:=by
 unfold lendAt at h |-;rw[cg a]at h;split at h
 case h_2=>exact h.elim
 split at h
 ·grind [di,p7,bV.updH]
 obtain⟨r,j,b,c,e,f⟩:=Lq.out h;refine .mk_ ?_
 grind [p7,bV.updH]
theorem ot{ts:List Nat}{d:Nat}(a:d∉ts):∀{xs:List (Operand × Nat)}{K:(Nat->AV)->List (MA × tK)->Prop}{F:Nat->AV}{v:AV},lendP xs K (eff none d v F)->(∀x,x∈xs->d∉tm x.1)->(∀t,(F t).uses d=false)->
  lendP xs (λF1 l=>(∃v1,K (eff none d v1 F1) l/\bV ts F F1)/\∀q,q∈l->d∉q.2.slot) F
 | [],K,F,v,h,_,_=>⟨⟨v,h,bV.refl _ _⟩,ψ⟩
 | (x,0)::xs,K,F,v,h,w,c=>by
  simp only[lendP]at h |-;refine co (ot a h ψ c) λF1 l h=>⟨h.1,λq b=>?_⟩
  rcases List.mem_cons.1 b with rfl|b
  ·exact λu=>by cases u
  exact h.2 q b
 | (x,1)::xs,K,F,v,h,w,c=>by
  simp only[lendP]at h |-;split at h
  case h_2=>exact h.elim
  rename_i s;have j:s≠d:=λe=>w _ C3 (by simp[tm,e])
  rw[cg j]at h;have y:∀{t:Nat}{F1:Nat->AV}{l:List (MA × tK)}{m:MA}{f:Nat}{A:cA}{K2:(Nat->AV)->List (MA × tK)->Prop},t≠d->((∃v1,K2 (eff none d v1 F1) ((m,.at_ t f A)::l)/\bV ts F F1)/\∀q,q∈l->d∉q.2.slot)->(∃v1,K2 (eff none d v1 F1) ((m,.at_ t f A)::l)/\bV ts F F1)/\∀q,q∈(m,tK.at_ t f A)::l->d∉q.2.slot:=λg h=>⟨h.1,λq b=>by
    rcases List.mem_cons.1 b with rfl|b
    · exact λu=>g (I2.1 u).symm
    exact h.2 q b⟩
  split at h
  ·exact f8 (vV (ts:=ts) h j) λF1 k h=>by
    obtain⟨v1,h,i⟩:=h;exact co (ot a h ψ (i.clean a c)) λB l h=>by
     obtain⟨⟨o,h,p⟩,r⟩:=h;exact y (K2:=K) j ⟨⟨o,h,i.trans p⟩,r⟩
  ·exact f8 (vV (ts:=ts) h j) λF1 k h=>by
    obtain⟨v1,h,i⟩:=h;exact co (ot a h ψ (i.clean a c)) λB l h=>by
     obtain⟨⟨o,h,p⟩,r⟩:=h;exact y (K2:=K) j ⟨⟨o,h,i.trans p⟩,r⟩
  ·rename_i t f A G D
   have g:t≠d:=λe=>by have:=c s;rw[D,e]at this;simp[AV.uses]at this
   exact f8 (vV (ts:=ts) h g) λF1 k h=>by
    obtain⟨v1,h,i⟩:=h;exact co (ot a h ψ (i.clean a c)) λB l h=>by
     obtain⟨⟨o,h,p⟩,r⟩:=h;exact y (K2:=K) g ⟨⟨o,h,i.trans p⟩,r⟩
  exact h.elim
 | (x,n+2)::xs,K,F,v,h,w,c=>by
  simp only[lendP]at h |-;split at h
  case h_2=>exact h.elim
  rename_i s;have j:s≠d:=λe=>w _ C3 (by simp[tm,e])
  rw[cg j]at h;have y:∀{t:Nat}{k:List C},t≠d->lendP xs (λE l=>K E ((.ptr k,.box t)::l)) (kill (eff none d v F) t)->lendP xs (λF1 l=>(∃v1,K (eff none d v1 F1) ((.ptr k,.box t)::l)/\bV ts F F1)/\∀q,q∈(MA.ptr k,tK.box t)::l->d∉q.2.slot) (kill F t):=fun {t k} g h=>by
   rw[Ey g]at h;refine co (ot a h ψ ((bV.kill (ts:=ts)).clean a c)) λB l h=>?_
   obtain⟨⟨o,h,p⟩,r⟩:=h;refine⟨⟨o,h,bV.kill.trans p⟩,λq b=>?_⟩;rcases List.mem_cons.1 b with rfl|b
   ·exact λu=>g (I2.1 u).symm
   exact r q b
  split at h
  ·rename_i t D
   have g:t≠d:=λe=>by have:=c s;rw[D,e]at this;simp[AV.uses]at this
   rw[cg g]at h;split at h
   all_goals simp_all
  all_goals simp_all
theorem uw{d:Nat}{v:AV}(a:∀t,(F t).uses d=false):∀{l:List (MA × tK)}{xs:List Operand}{K:Bool->List MA->Prop},valsP (eff none d v F) l xs K->(∀x,x∈xs->d∉tm x)->valsP F l xs K
 | [],[],K,h,_=>h
 | (m,.no)::l,x::xs,K,h,b=>by
  obtain⟨f,g,c,e⟩:=cr h;exact e F (nt ψ a) _ (uw a c ψ)
 | (m,.at_ t off st)::l,x::xs,K,h,b=>uw (l:=l) (xs:=xs) a h ψ
 | (m,.box t)::l,x::xs,K,h,b=>uw (l:=l) (xs:=xs) a h ψ
 | [],_::_,K,h,_=>h.elim
 | (m,.no)::l,[],K,h,_=>h.elim
 | (m,.at_ t off st)::l,[],K,h,_=>h.elim
 | (m,.box t)::l,[],K,h,_=>h.elim
theorem lV{ts:List Nat}{d:Nat}{K:(Nat->AV)->Prop} : ∀{l:List (MA × tK)}{B:List MA}{F:Nat->AV}{v:AV},iw l B K (eff none d v F)->(∀q,q∈l->d∉q.2.slot)->iw l B (Gq d ts F K) F
 | [],[],F,v,h,_=>⟨v,h,bV.refl _ _⟩
 | [],_::_,F,v,h,_=>h.elim
 | (m,.no)::l,[],F,v,h,_=>h.elim
 | (m,.at_ t off st)::l,[],F,v,h,_=>h.elim
 | (m,.box t)::l,[],F,v,h,_=>h.elim
 | (m,.no)::l,.val _ _::B,F,v,h,b=>lV (l:=l) (B:=B) h ψ
 | (m,.no)::l,.mut _ _::B,F,v,h,b=>lV (l:=l) (B:=B) h ψ
 | (m,.no)::l,.ptr _::B,F,v,h,b=>lV (l:=l) (B:=B) h ψ
 | (m,.at_ t off st)::l,.val _ _::B,F,v,h,_=>h.elim
 | (m,.at_ t off st)::l,.ptr _::B,F,v,h,_=>h.elim
 | (m,.box t)::l,.val _ _::B,F,v,h,_=>h.elim
 | (m,.box t)::l,.mut _ _::B,F,v,h,_=>h.elim
 | (m,.at_ t off st)::l,.mut ag out::B,F,v,h,b=>by
  have c:t≠d:=λe=>b _ C3 (by simp[tK.slot,e])
  have a:∀q,q∈l->d∉q.2.slot:=ψ
  simp only[iw]at h |-;rw[cg c]at h;split at h
  case h_2=>exact h.elim
  split at h
  ·rename_i k n _ _
   cases o:Nat.ble (off+out.length) n.length with
   | false=>grind
   | true=>
    rw[o]at h;simp only[cond_true,di]at h |-;rw[p7 c]at h;exact dn (λg f=>Gq.trans bV.updH f) (lV (ts:=ts) h a)
  obtain⟨r,j,p,u,w,i⟩:=Pu.out h;rw[p7 c]at i;exact Pu.mk p u w rfl (dn (λg f=>Gq.trans bV.updH f) (lV (ts:=ts) i a))
 | (m,.box t)::l,.ptr out::B,F,v,h,b=>by
  have c:t≠d:=λe=>b _ C3 (by simp[tK.slot,e])
  have a:∀q,q∈l->d∉q.2.slot:=ψ
  simp only[iw]at h |-;rw[cg c]at h;split at h
  ·rw[EJ c]at h
   exact dn (λg f=>Gq.trans bV.setH f) (lV (ts:=ts) h a)
  exact h.elim
theorem Rc{dj:Option Nat}(h:mK P N (eff none d v F) dj f args modes K)(n:dj≠some d)(a:d∉ts)(g:∀x,x∈args->d∉tm x)(i:∀t,(F t).uses d=false) :
  mK P N F dj f args modes (Gq d ts F K):=by
 unfold mK at h |-;refine co (ot a h (λx o=>g _ (List.of_mem_zip o).1) i) λE l h=>?_
 obtain⟨⟨G,h,c⟩,p⟩:=h;cases q:(xd l&&Nat.beq args.length modes.length) with
 | false=>grind
 | true=>
  rw[q]at h;refine jT (uw (c.clean a i) h g) λb A h=>?_
  obtain⟨H,B,k,rcs,r,e,u⟩:=cu.out h;refine CI r e (dn (λF'' h=>?_) (lV (ts:=ts) u p));obtain⟨w,h,j⟩:=h;cases dj with
  | none=>exact⟨w,h,c.trans j⟩
  | some dj=>
   refine bx (iv (ts:=ts) h ψ jo) λJ e=>?_
   obtain⟨y,-,C,D⟩:=e;exact⟨y,C,(c.trans j).trans D⟩
theorem Ti{dj:Option Nat}{c a b:Nat}{B:List MA}(f:t≠d)(g:dj≠some d)(h:yj N (eff none d v F) dj t cs c a e b K k rcs B):yj N F dj t cs c a e b (Gq d ts F K) k rcs B:=by
 unfold yj at h |-;split at h
 case h_2=>exact h.elim
 rename_i i j;cases l:(Nat.beq i.length a&&Nat.beq j.length b) with
 | false=>grind
 | true=>
  rw[l]at h;simp only[cond_true,di]at h |-;rw[Ey f,EJ f]at h;cases dj with
  | none=>exact⟨_,h,bV.kill.trans bV.setH⟩
  | some dj=>
   refine bx (iv (ts:=ts) h ψ jo) λr n=>?_
   obtain⟨o,-,p,q⟩:=n;exact⟨o,p,(bV.kill.trans bV.setH).trans q⟩
theorem M6{K:Nat->Nat->Prop}(b:d∉tm x)(c:∀t,(F t).uses d=false)(h:AN (eff none d v F) x K):AN F x λt o=>t≠d/\K t o:=by
 obtain⟨s,t,f,rfl,a,i⟩:=vh h;have g:s≠d:=λe=>b (by simp[tm,e])
 rw[cg g]at a;have j:t≠d:=λe=>by have:=c s;rw[a,e]at this;simp[AV.uses]at this
 grind [AN]
theorem RD{dj:Option Nat}{a b:Nat}(h:kD P N (eff none d v F) dj f args a b K)(g:dj≠some d)(c:∀x,x∈args->d∉tm x)(e:∀t,(F t).uses d=false) :
  kD P N F dj f args a b (Gq d ts F K):=by
 unfold kD at h |-;split at h
 case h_2=>exact h.elim
 refine lK (M6 (c _ (by simp)) e h) λt j h=>?_
 obtain⟨i,h⟩:=h;refine lK (M6 (c _ (by simp)) e h) λk l h=>?_
 replace h:=h.2;rw[cg i]at h;split at h
 all_goals grind [di,cu.out,CI,Ti]
theorem R5{dj:Option Nat}(h:kG P N (eff none d v F) dj f args modes K)(a:dj≠some d)(b:d∉ts)(c:∀x,x∈args->d∉tm x)(e:∀t,(F t).uses d=false) :
  kG P N F dj f args modes (Gq d ts F K):=by grind [RD,Rc,kG]
theorem TJ{dj:Option Nat}{q:Nat}(c:q≠s):rv1 F dj s F1 q=F1 q:=by
 unfold rv1;cases F s with
 | ref t a b=>
  cases b with
  | cons=>rfl
  | nil=>
   simp only;cases(dne dj s&&dne dj t) with
   | false=>rfl
   | true=>
    simp only[cond_true];cases F1 t with
    | F k d=>
     cases k with
     | box=>
      simp only;cases F1 s with
      | dead=>grind [fI]
      | _=>rfl
     | _=>rfl
    | _=>rfl
 | _=>rfl
theorem Vd{dj:Option Nat}{v1:AV}(c:∀t,(F t).uses d=false):∃a,rv1 (eff none d v F) dj s (eff none d v1 F1)=eff none d a (rv1 F dj s F1):=by
 by_cases b:s=d
 ·subst b
  have f:∃a,rv1 (eff none s v F) dj s (eff none s v1 F1)=eff none s a F1:=by
   unfold rv1;rw[nK];have set:∀x:AV,setH (eff none s v1 F1) s x=eff none s x F1:=λx=>by grind [rx,nK,fI,cg]
   grind
  obtain⟨a,g⟩:=f;refine⟨a,g.trans ?_⟩
  grind [nK,cg,TJ]
 refine⟨v1,?_⟩;unfold rv1;rw[cg b];cases h:F s with
 | ref t i j=>
  cases j with
  | cons=>rfl
  | nil=>
   have k:t≠d:=λe=>by have:=c s;rw[h,e]at this;simp[AV.uses]at this
   grind [cg,EJ]
 | _=>rfl
def Q6{d:Nat}{dj:Option Nat}{v:AV}(a:∀t,(F t).uses d=false):∀{l:List Nat}{v1:AV}{F1:Nat->AV},∃b,rvE (eff none d v F) dj l (eff none d v1 F1)=eff none d b (rvE F dj l F1)
 | [],v1,_=>⟨v1,rfl⟩
 | s::l,v1,F1=>by
  simp only[rvE];obtain⟨b,e⟩:=Vd (dj:=dj) (v:=v) (v1:=v1) (s:=s) (F1:=F1) a;rw[e];exact Q6 a
theorem Tn{a:Oper}(B:a.guard=none)(k:rj a.op=true)(g:a.dst≠some d)(w:d∉a.looksAt ops)(n:∀t,(F t).uses d=false)(h:jx P TE N ops a K (eff none d v F)) :
  jx P TE N ops a (Gq d (a.looksAt ops) F K) F:=by
 have f:∀t,t∈du a.op->t∈a.looksAt ops:=λt o=>iT a t o
 have tmI:∀x,x∈a.op.operands.toList->∀t,t∈tm x->t∈a.looksAt ops:=λx y t o=>f t (List.mem_flatMap.2 ⟨x,y,o⟩)
 have pur:∀dj,dj≠d->df P TE (eff none d v F) a.op (λj=>bO N (eff none d v F) dj j K)->df P TE F a.op λj=>bO N F dj j (Fq d (a.looksAt ops) v F K):=λdj g h=>
  Et (p:=λF K=>df P TE F a.op K) (k4 h) g f w n
 unfold jx fY at h |-;rw[B]at h |-;simp only at h |-;cases b:a.op with
 | call c=>
  rw[b]at h k tmI;have q:sx c=none:=by grind [rj,sx]
  have r:Df N (eff none d v F) (.call c)=Df N F (.call c):=by grind [rj,Df]
  rw[r]at h;have pl:kH P TE N a K (eff none d v F)->kH P TE N a (Gq d (a.looksAt ops) F K) F:=λh=>by
   unfold kH at h |-;rw[b]at h |-;cases C:a.dst with
   | none=>grind
   | some dj=>
    rw[C]at h;simp only[kV,q]at h |-;have A:=pur dj ψ;rw[b]at A;obtain⟨j,D,-,E⟩:=k4 (A h);exact E F (Ca _ _) _ (bx D λQ G=>by
      obtain⟨v1,-,H,u⟩:=G;exact⟨v1,H,u⟩)
  cases J:Df N F (.call c) with
  | some p=>
   rw[J]at h;simp only at h |-;have i:∀x,x∈p.2.1->d∉tm x:=λx y L=>by grind [rj,Df,Go.Op.operands,Go.Call.operands]
   have lt:u7 P N (eff none d v F) a.dst p.1 p.2.1 p.2.2 K->u7 P N F a.dst p.1 p.2.1 p.2.2 (Gq d (a.looksAt ops) F K):=λh=>tC (R5 (ts:=a.looksAt ops) h g w i n) λF1 h=>by
    obtain⟨v1,h,u⟩:=h;rw[p9]at h |-;obtain⟨M,e⟩:=Q6 (dj:=a.dst) (v:=v) (l:=WG N.mo) (v1:=v1) (F1:=F1) n;rw[e]at h;exact⟨M,h,KB u⟩
   cases O:R1 N (.call c) with
   | false=>grind
   | true=>
    rw[O]at h;rcases h with h|h
    ·exact .pl (pl h)
    exact .lt (lt h)
  | none=>
   grind [kH]
 | _=>rw[b]at k;cases k
theorem TD{a:Oper}(e:a.guard=none)(b:(Uq a.op || rj a.op)=true)(c:a.dst≠some d)(f:d∉a.looksAt ops)(g:∀t,(F t).uses d=false)(h:jx P TE N ops a K (eff none d v F)) :
  jx P TE N ops a (Gq d (a.looksAt ops) F K) F:=by
 rw[X8]at b;rcases b with b|b
 ·refine kf (QU e b c f g h) λl i=>?_
  obtain⟨j,-,k,u⟩:=i;exact⟨j,k,u⟩
 grind [Tn]
structure nH(ops:Array Oper)(ds:List Nat)(F:Nat->AV)(listed:Array Bool):Prop where
 dst:∀(j:Nat)(o:Oper)(d:Nat),rV ds o=true->ops[j]? = some o->listed.getD j true=false->o.dst=some d->∀t,(F t).uses d=false
 mv:∀(j:Nat)(o:Oper)(T:Option Nat)(s:Nat),rV ds o=true->ops[j]? = some o->listed.getD j true=false->o.guard=none->oZ o.op=some (T,s)->jA ops o s=true->∀t,(F t).uses s=false
variable{j:Nat}
theorem nH.put{o:Option Nat}(h:nH ops ds F listed)(p:∀b a g,rV ds a=true->b≠j->ops[b]? = some a->listed.getD b true=false->a.dst=some g->av.uses g=false)(q:∀b a T s,rV ds a=true->b≠j->ops[b]? = some a->listed.getD b true=false->a.guard=none->oZ a.op=some (T,s)->jA ops a s=true->av.uses s=false) :
  nH ops ds (eff o d av F) (listed.setIfInBounds j true):=by
 refine⟨λb a g i c e k t=>?_,λb a T s i c e r l n t=>?_⟩
 ·have f:=jg e
  rw[getD_set_ne true (Ne.symm f)]at e;exact ku ψ (h.dst b a g i c e k t)
 have f:=jg e;rw[getD_set_ne true (Ne.symm f)]at e;exact ku ψ (h.mv b a T s i c e r l n t)
theorem yE{o:Oper}(h:VX o=true):o.guard=none:=by grind [VX]
theorem Qh(h:(!ts.any (Nat.beq d))=true):d∉ts:=λa=>by grind [Nat.beq_refl]
theorem Rb{a b:Oper}{c:Bool}(h:VQ ops a b c=true)(f:b.dst=some d):a.guard=none/\(Uq a.op || rj a.op)=true/\a.dst≠some d/\d∉a.looksAt ops/\b.guard=none/\d∉b.looksAt ops/\(c=true\/∀T s,oZ b.op=some (T,s)->jA ops b s=false):=by
 unfold VQ at h;rw[f]at h;simp only[I0]at h;obtain⟨⟨⟨⟨⟨⟨g,i⟩,n⟩,j⟩,k⟩,l⟩,o⟩:=h;refine⟨yE g,i,λe=>?_,Qh j,yE k,Qh l,?_⟩
 ·simp_all
 grind
def RB(h:x5 ops j i=true):pU ops j i:=uX j _ (λ_ a=>.one (y1 a)) i h
theorem Mb{o:Oper}(h:rV ds o=true):∃d,o.dst=some d/\ds.any (Nat.beq d)=true:=by grind [rV]
structure Up(ops:Array Oper)(ds:List Nat)(nm:Nat->Bool):Prop where
 back:∀(j:Nat)(oj:Oper),ops[j]? = some oj->∀e∈oj.after,Region.binds .any e=true->e.on<j
 apart:∀(i j:Nat)(oi oj:Oper),rV ds oi=true->rV ds oj=true->i≠j->ops[i]? = some oi->ops[j]? = some oj->cX oj i=true\/cX oi j=true\/oi.apart ops oj=true
 look:∀(i j:Nat)(oi oj:Oper)(d:Nat),rV ds oi=true->i≠j->ops[i]? = some oi->ops[j]? = some oj->oi.dst=some d->d∈oj.looksAt ops->cX oj i=true
 differ:∀(i j:Nat)(oi oj:Oper)(d:Nat),rV ds oi=true->rV ds oj=true->i≠j->ops[i]? = some oi->ops[j]? = some oj->oi.dst=some d->oj.dst≠some d
 nf:∀(i j:Nat)(oi oj:Oper),rV ds oi=true->rV ds oj=false->i≠j->ops[i]? = some oi->ops[j]? = some oj->x5 ops j i=true\/x5 ops i j=true\/VQ ops oj oi (nm i)=true
 mvs:∀(j:Nat)(oj:Oper)(T:Option Nat)(s:Nat),rV ds oj=true->ops[j]? = some oj->oZ oj.op=some (T,s)->jA ops oj s=true->ds.any (Nat.beq s)=true
theorem qy{d:Oper}(a:Up ops ds nm)(b:DC ops listed)(c:ops[j]? = some d)(f:∀e∈d.after,Region.binds .any e=true->listed.getD e.on false=true)(g:x5 ops j i=true):listed.getD i false=true:=
 pm b a.back (RB g) (Z4.1 c).1 λk h=>by grind [bD,cn]
theorem unl{k:Nat}(a:listed.getD k true=false)(b:listed.getD k false=true):False:=ψ
theorem iz.trans{a:Nat->AV}(c:iz F F1 ts)(d:iz F1 a ts):iz F a ts:=λt b=>by
 obtain⟨e,f⟩:=c t b;obtain⟨g,h⟩:=d t b
 grind
theorem nH.us{g:Oper}(n:Up ops ds nm)(h:nH ops ds F listed)(o:ops[j]? = some g)(r:∀e∈g.after,Region.binds .any e=true->listed.getD e.on false=true)(u:bV (g.looksAt ops) F F1):nH ops ds F1 (listed.setIfInBounds j true):=by
 refine⟨λi k t l b c d=>u.clean (λf=>?_) (h.dst i k t l b ?_ d),λi k T s l b c w p q=>u.clean (λf=>?_) (h.mv i k T s l b ?_ w p q)⟩
 ·have a:=jg c
  rw[getD_set_ne true (Ne.symm a)]at c;have:=n.look i j k g t l a b o d f
  grind [cn]
 ·have a:=jg c
  rwa [getD_set_ne true (Ne.symm a)]at c
 ·grind [jg,gz,cT]
 have a:=jg c
 rwa [getD_set_ne true (Ne.symm a)]at c
theorem Vu{p:Nat}{b:Oper}(a:ops[p]? = some b)(j:d∉b.looksAt ops)(k:∀t,(F1 t).uses d=false)(e:b.dst≠some d)(h:Vw P TE ops p (eff none d v F1)):Vw P TE ops p F1:=by
 obtain⟨f,g,i,c⟩:=h;rw[bD a]at g i c;refine⟨f,by grind [bD],?_,?_⟩
 ·grind [bD,xW,nt]
 rw[bD a];obtain⟨l,n,-,o⟩:=k4 c
 grind [cg,nt,iT]
theorem Lt(W:Up ops ds nm){b:Oper}(D:ops[i]? = some b)(w:rV ds b=true) :
  ∀(fuel:Nat)(listed:Array Bool)(F:Nat->AV)(l:Option Nat)(av:AV),i∈Region.ready .any ops listed->nH ops ds F listed->DC ops listed->Yl P TE N ops b F l d av->(nm i=true->l=none)->Jq P TE N ops ds K fuel (listed.setIfInBounds i true) (eff l d av F)->Jq P TE N ops ds K (fuel+1) listed F:=by
 have self:∀(listed:Array Bool)(F:Nat->AV)(l:Option Nat)(av:AV),i∈Region.ready .any ops listed->nH ops ds F listed->Yl P TE N ops b F l d av->∀X:(Nat->AV)->Prop,X (eff l d av F)->my P TE N ops b X F:=λlisted F l av hr a c X hK=>by
  have f:=(mem_ready.1 hr).1;refine c.at_ F (Ca _ _) (a.dst i b d w D f c.dst) (λs hs=>?_) X hK;obtain⟨B,⟨T,h2⟩,h3⟩:=c.mvl s hs;exact a.mv i b T s w D f B h2 h3
 intro fuel
 induction fuel with
 | zero=>
  intro listed F l av hr a E c hnm H;refine⟨ψ,λj hj=>?_⟩;by_cases n:j=i
  ·grind [xb]
  have:=ready_mono hj n;rw[H.1]at this;cases this
 | succ fuel ih=>
  intro listed F l av hr a E c hnm H;refine⟨ψ,λj hj=>?_⟩;by_cases n:j=i
  ·grind [xb]
  have B:=H.2 j (ready_mono hj n);obtain⟨R,g,q,hall⟩:=mem_ready.1 hj;obtain⟨f,oi',C,halli⟩:=mem_ready.1 hr;rw[D]at C;simp only[O1]at C;subst C;have noedge:∀k ok,ops[k]? = some ok->listed.getD k true=false->cX g k=false:=λk ok hk hkun=>by grind [cn]
  have noedge':∀k ok,ops[k]? = some ok->listed.getD k true=false->cX b k=false:=λk ok hk hkun=>by grind [cn]
  have cd:∀t,(F t).uses d=false:=a.dst i b d w D f c.dst
  unfold xb at B |-;rw[q]at B |-;simp only at B |-;by_cases G:rV ds g=true
  case neg=>
   rw[CD G]at B |-;have hji1:x5 ops j i=false:=by grind [qy]
   have hij1:x5 ops i j=false:=by grind [qy]
   have hfb:VQ ops g b (nm i)=true:=by grind [Up.nf]
   obtain⟨J,r,A,g4,g5,g6,g7⟩:=Rb hfb c.dst;have hmv:l=none:=by
    cases l with
    | none=>rfl
    | some s=>
     obtain⟨-,⟨T,q1⟩,q2⟩:=c.mvl s rfl
     grind
   subst hmv;refine kf (TD J r A g4 cd B) λF1 hF1=>?_
   obtain⟨v,⟨S,hrun⟩,u⟩:=hF1;have cd1:∀t,(F1 t).uses d=false:=u.clean g4 cd
   have hisz:i<listed.size:=ψ
   have hrd:Vw P TE ops i (eff none d v F1):=S i (by simp[hisz]) (by grind [bD]) hji1;refine⟨λp hp1 L hp3=>?_,ih (listed.setIfInBounds j true) F1 none v (ready_mono hr (Ne.symm n)) (a.us W q hall u) (E.put hj) ?_ (λ_=>rfl) (by grind [Array.setIfInBounds_comm])⟩
   ·have hpi:p≠i:=ψ
    have hpl:p<ops.size:=by
     rcases Nat.lt_or_ge p ops.size with h|h
     ·exact h
     rw[show dt ops p=default by simp[dt,t9,Array.getElem?_eq_none h]]at L;cases L
    have h0:ops[p]? = some ops[p]:=ψ
    have U:=L;rw[bD h0]at U;refine Vu h0 (λhlk=>?_) cd1 (W.differ i p b _ d w U (Ne.symm hpi) D h0 c.dst) (S p (getD_set_true hp1) L hp3);have:=W.look i p b _ d w (Ne.symm hpi) D h0 c.dst hlk;exact unl f (E p _ h0 hp1 i this)
   obtain⟨dp,q1,q2,q3⟩:=hrd;rw[bD D]at q1 q2 q3;have hdp:dp=d:=by grind [Yl.dst]
   subst hdp;rw[nK]at q3;obtain⟨M,e1,e2,e3⟩:=k4 q3;subst e1;have agr1:iz (eff none dp M F1) F1 (b.looksAt ops):=nt g6 cd1;have fromv:eL F1 (b.looksAt ops) M:=λe he=>by
    rcases e2 e he with h|⟨t,Y,h⟩
    all_goals grind [iT,cg]
   have Z:M.uses dp=false:=by
    cases hu:M.uses dp with
    | false=>rfl
    | true=>
     rcases fromv dp hu with h|⟨t,_,h⟩
     all_goals grind
   refine⟨c.dst,c.lt,Z,fromv,ψ,λF' hA O _ X hK=>?_⟩;have agr2:=agr1.trans hA;unfold my;rw[xW agr2,q2];simp only;unfold im fY
   grind [iz.mono,iT,Yl.lt,E1,bO]
  rw[CG G]at B |-;have hap:b.apart ops g=true:=by grind [Up.apart]
  obtain⟨ap1,ap2,ap3⟩:=Oper.apart_spec hap;have hdl:d∉g.looksAt ops:=ap1 d c.dst;have cdj':∀o,g.dst=some o->∀t,(F t).uses o=false:=λo hdj=>a.dst j g o G q R hdj
  have cmv:∀s,l=some s->(∀t,(F t).uses s=false)/\s∉g.looksAt ops/\s∈b.looksAt ops:=λs hs=>by
   obtain⟨J,⟨T,r⟩,A⟩:=c.mvl s hs;exact⟨a.mv i b T s w D f J r A,λhl=>n ((gz A).2 i j b g D q (cT r) hl).symm,cT r⟩
  have cmvj:∀T s,g.guard=none->oZ g.op=some (T,s)->jA ops g s=true->(∀t,(F t).uses s=false)/\s∉b.looksAt ops/\s∈g.looksAt ops:=λT s J r A=>
   ⟨a.mv j g T s G q R J r A,λhl=>n ((gz A).2 i j b g D q hl (cT r)).symm,cT r⟩
  have avno:∀e,e∉b.looksAt ops->(∀t,(F t).uses e=false)->av.uses e=false:=λe B h2=>by
   cases hu:av.uses e with
   | false=>rfl
   | true=>
    rcases c.from_ e hu with h|⟨t,_,h⟩
    all_goals grind
  obtain⟨mvj,o,avj,y,hKj⟩:=rF B (λo hdj t=>ku ψ (cdj' o hdj t)) (λT s J r A t=>by grind [ku]);have hdne:d≠o:=λe=>ap2 d c.dst (by rw[y.dst,e])
  have hdjl:o∉b.looksAt ops:=ap3 o y.dst;have cdj:∀t,(F t).uses o=false:=cdj' o y.dst
  have cmj:∀s,mvj=some s->(∀t,(F t).uses s=false)/\s∉b.looksAt ops/\s∈g.looksAt ops:=λs hs=>by
   obtain⟨J,⟨T,r⟩,A⟩:=y.mvl s hs
   grind
  have lookj:∀t,t∈g.looksAt ops->eff l d av F t=F t:=λt Y=>by grind [eff]
  have looki:∀t,t∈b.looksAt ops->eff mvj o avj F t=F t:=λt Y=>by grind [eff]
  have avjno:∀e,e∉g.looksAt ops->(∀t,(F t).uses e=false)->avj.uses e=false:=λe B h2=>by
   cases hu:avj.uses e with
   | false=>rfl
   | true=>
    rcases y.from_ e hu with h|⟨t,Y,h⟩
    all_goals grind
  have agrj:iz (eff l d av F) F (g.looksAt ops):=λt Y=>by grind [eff]
  refine y.at_ F agrj cdj ψ _ (ih (listed.setIfInBounds j true) (eff mvj o avj F) l av (ready_mono hr (Ne.symm n)) (a.put (λj' o' d' hm' V Q hl' O=>?_) (λj' o' T s hm' V Q hl' J r A=>?_)) (E.put hj) ?_ hnm ?_)
  ·refine avjno d' (λh=>?_) (a.dst j' o' d' hm' Q hl' O)
   grind [Up.look]
  ·exact avjno s (λh=>V ((gz A).2 j' j o' g Q q (cT r) h)) (a.mv j' o' T s hm' Q hl' J r A)
  ·refine⟨c.dst,c.lt,c.self,λe he=>?_,c.mvl,λF' hA O hs' X hK=>c.at_ F' (λt Y=>?_) O hs' X hK⟩
   ·rcases c.from_ e he with h|⟨t,Y,h⟩
    all_goals grind
   obtain⟨a1,a2⟩:=hA t Y
   grind [eff]
  rw[Array.setIfInBounds_comm _ _ n];have:eff l d av (eff mvj o avj F)=eff mvj o avj (eff l d av F):=by grind [eff]
  grind
theorem Dc:∀{b:List Nat}{X:Prop}{F:Nat->AV},Rd P TE ops b X F->X/\∀p,p∈b->Vw P TE ops p F
 | [],X,F,h=>⟨h,ψ⟩
 | p::l,X,F,h=>by
  simp only[Rd]at h;unfold Wq at h;cases c:(dt ops p).dst with
  | none=>grind
  | some d=>
   rw[c]at h;simp only at h;cases f:LP F (dt ops p) with
   | some q=>grind
   | none=>
    rw[f]at h;simp only at h;obtain⟨g,i,-,-⟩:=k4 h;obtain⟨e,k,j⟩:=(show g=F d/\X/\∀p,p∈l->Vw P TE ops p F from⟨i.out.1,Dc i.out.2⟩)
    refine⟨k,λn a=>?_⟩;rcases List.mem_cons.1 a with rfl|a
    ·exact⟨d,c,f,jC h λg h=>h.out.1⟩
    grind
variable{l:List (Nat × List Nat)}
theorem v7 : y9 l i=true↔∃p,p∈l/\p.1=i:=by grind [O3,Nat.beq_refl,y9]
theorem rO{k:Nat × List Nat} : y9 (k::l) i=(Nat.beq k.1 i || y9 l i):=rfl
theorem EM(b:Up ops ds nm){K:(Nat->AV)->Prop} : ∀(l:List (Nat × List Nat))(listed:Array Bool)(F:Nat->AV),GL ops ds l=true->listed.size=ops.size->(∀j,j<ops.size->listed.getD j true = !y9 l j)->nH ops ds F listed->DC ops listed->
  NW P TE N ops ds nm l K F->Jq P TE N ops ds K l.length listed F
 | [],listed,F,_,hs,E,_,_,c=>by
  refine⟨?_,c⟩;apply List.eq_nil_iff_forall_not_mem.2;intro j R;obtain⟨S,o,ho,-⟩:=mem_ready.1 R;have G:=(Z4.1 ho).1;rw[E j G]at S;cases S
 | k::l,listed,F,A,hs,E,a,H,c=>by
  simp only[GL,I0]at A;obtain⟨⟨⟨⟨q1,q2⟩,q3⟩,Z⟩,q5⟩:=A;have hk:k.1<ops.size:=by simp_all
  have r:ops[k.1]? = some ops[k.1]:=ψ
  have hrf:∀i,i<ops.size->listed.getD i true=true->listed.getD i false=true:=ψ
  have hready:k.1∈Region.ready .any ops listed:=mem_ready.2 ⟨by grind [rO,Nat.beq_refl],_,r,λe he hb=>by
    have G:=b.back k.1 _ r e he hb
    grind [bD,rO]⟩
  have B:∀j,j<ops.size->(listed.setIfInBounds k.1 true).getD j true = !y9 l j:=λj R=>by
   by_cases w:j=k.1
   ·simp_all
   rw[getD_set_ne true (Ne.symm w),E j R,rO,show Nat.beq k.1 j=false by rw[<-S7,Nat.beq_eq];exact Ne.symm w];rfl
  show Jq P TE N ops ds K (l.length+1) listed F;simp only[NW]at c;rw[bD r]at c Z;have U:listed.getD k.1 true=false:=(mem_ready.1 hready).1;cases f:rV ds ops[k.1] with
  | true=>
   rw[f]at c;simp only[cond_true]at c;obtain⟨mv,d,av,hy,c,hnm⟩:=Pc c (λd hd=>a.dst k.1 _ d f r U hd) (λT s g1 g2 g3=>a.mv k.1 _ T s f r U g1 g2 g3);have C:∀e∈ops[k.1].after,Region.binds .any e=true->listed.getD e.on false=true:=by grind [Go.mem_ready]
   refine Lt b r f l.length listed F mv av hready a H hy hnm (EM b l _ _ q5 (by simpa using hs) B (a.put (λO Q V g D n hl'' J=>?_) (λO Q T s g D n hl'' g1 g2 g3=>?_)) (H.put hready) c)
   ·cases hu:av.uses V with
    | false=>rfl
    | true=>
     rcases hy.from_ V hu with h|⟨t,_,h⟩
     ·have:=b.look O k.1 Q _ V g D n r J h
      grind [cn]
     rw[a.dst O Q V g n hl'' J t]at h;cases h
   cases hu:av.uses s with
   | false=>rfl
   | true=>
    rcases hy.from_ s hu with h|⟨t,_,h⟩
    ·grind [gz,cT]
    rw[a.mv O Q T s g n hl'' g1 g2 g3 t]at h;cases h
  | false=>
   rw[f]at c Z;simp only[cond_false]at c;simp only[Bool.false_or,I0]at Z;obtain⟨⟨r1,r2⟩,r3⟩:=Z;refine⟨ψ,λj R=>?_⟩;obtain⟨hjun,oj,y,C⟩:=mem_ready.1 R;have hjlt:=(Z4.1 y).1;have w:j=k.1:=by grind [v7,qy]
   subst w;rw[r]at y;simp only[O1]at y;subst y;unfold xb;rw[r];simp only[f,CD (show ¬false=true by decide)];have post:∀u,Rd P TE ops k.2 (NW P TE N ops ds nm l K u) u->nH ops ds u (listed.setIfInBounds k.1 true)->(∀p,listed.getD p false=true->rV ds (dt ops p)=true->x5 ops k.1 p=false->Vw P TE ops p u)/\Jq P TE N ops ds K l.length (listed.setIfInBounds k.1 true) u:=λu L W=>by
    obtain⟨X,hrd⟩:=Dc L;refine⟨λp hp1 hp2 hp3=>hrd p ?_,EM b l _ _ q5 (by simpa using hs) B W (H.put hready) X⟩;have hpl:p<ops.size:=ψ
    grind [hJ,rO,O3]
   cases hlater:l.any (λj=>rV ds (dt ops j.1)) with
   | false=>
    refine kf c λu L=>post u L ⟨λO Q V g n hl'' J=>?_,λO Q T s g n hl''=>?_⟩
    all_goals grind [v7,bD]
   | true=>
    rw[hlater]at r3;simp only[Bool.not_true,Bool.false_or,I0]at r3;obtain⟨x,hx1,q⟩:=C5.1 hlater;have Y:listed.getD x.1 true=false/\x.1<ops.size:=by
     have G:x.1<ops.size:=by
      rcases Nat.lt_or_ge x.1 ops.size with h|h
      ·exact h
      rw[show dt ops x.1=default by simp[dt,t9,Array.getElem?_eq_none h]]at q;cases q
     grind [v7]
    have M:ops[x.1]? = some ops[x.1]:=ψ
    rw[bD M]at q;obtain⟨d,hd,hdd⟩:=Mb q;have hxk:x.1≠k.1:=ψ
    refine kf (T3 (d:=d) (yE r3.1) r3.2 (λe=>?_) (λhlk=>?_) (a.dst x.1 _ d q M Y.1 hd) c) λu S=>post u S.1 (a.us b r C S.2)
    ·grind [rV]
    have:=b.look x.1 k.1 _ _ d q hxk M r hd hlk
    grind [cn]
theorem EP{sch:List (Nat × List Nat)}(h:FH ops ds sch=true):Up ops ds (WF sch)/\GL ops ds sch=true/\sch.length=ops.size/\∀j,j<ops.size->y9 sch j=true:=by
 unfold FH at h;simp only[I0]at h;obtain⟨⟨p,k⟩,l⟩:=h;have C:=λj (o:j<ops.size)=>hJ p o
 have r:∀(i j:Nat)(c b:Oper),i≠j->ops[i]? = some c->ops[j]? = some b->Ea ops ds (WF sch) i j=true:=λi j c b a f g=>by grind [hJ,Nat.beq_eq]
 refine⟨⟨λj b o e t u=>?_,λi j c b n q a f g=>?_,λi j c b d n a f g w D=>?_,λi j c b d n q a f g w t=>?_,λi j c b n q a f g=>?_,λj b T s n o y A=>?_⟩,l,O3 k,λj o=>?_⟩
 ·grind [bD,Nat.blt_eq]
 ·grind [bD,Ea]
 ·have:=r i j c b a f g
  unfold Ea at this;rw[bD f,bD g,n]at this;have B:vB ops i j=true:=by grind [bD,Nat.beq_refl,vB]
  grind
 ·grind [bD,Nat.beq_refl,Ea]
 all_goals grind [bD,Ea]
theorem wl{l:List Nat} : Ew l j=true↔j∈l:=by grind [O3,Nat.beq_refl,Ew]
def Jp{p:Nat->Prop} : ∀{l:List Nat}{i:Nat},Xi p i l->∀j,j∈i::l->p j
 | [],i,h,j,a=>by rw[I2.1 a];exact h
 | k::l,i,h,j,a=>by
  rcases List.mem_cons.1 a with rfl|a
  ·exact h.1
  exact Jp h.2 j a
theorem GJ{l:List Nat}{K:Prop}{p:Nat->Prop}(h:WQ l K p):(l=[]->K)/\∀j∈l,p j:=by
 cases l with
 | nil=>exact⟨λ_=>h,ψ⟩
 | cons i l=>exact⟨ψ,Jp h⟩
theorem t7{done:List Nat}(h:listed.size=ops.size)(b:∀j,j<ops.size->listed.getD j true=Ew done j)(l:∀k∈done,k<ops.size) : j∈Region.ready .any ops listed↔j∈Qv ops done:=by
 have c:∀i,listed.getD i false=Ew done i:=λi=>by grind [wl]
 rw[mem_ready];unfold Qv;rw[Z5,List.mem_range,I0];constructor
 ·grind [bD]
 rintro⟨a,n,d⟩
 refine⟨ψ,ops[j],Y8 a,λe f g=>?_⟩;have:=I5.1 d e (by rw[bD (Y8 a)];simpa using f)
 grind
theorem Uk{K:(Nat->AV)->Prop} : ∀(n:Nat)(done:List Nat)(listed:Array Bool)(F:Nat->AV),listed.size=ops.size->(∀j,j<ops.size->listed.getD j true=Ew done j)->(∀k∈done,k<ops.size)->U9 P TE N ops K n done F->Jq P TE N ops [] K n listed F
 | 0,done,listed,F,c,a,f,h=>by
  obtain⟨g,l⟩:=GJ h;have o:Qv ops done=[]:=List.eq_nil_iff_forall_not_mem.2 λj b=>l j b
  exact⟨List.eq_nil_iff_forall_not_mem.2 λj b=>(by grind [t7]),g o⟩
 | n+1,done,listed,F,c,a,f,h=>by
  obtain⟨g,l⟩:=GJ h;refine⟨λo=>g (List.eq_nil_iff_forall_not_mem.2 λj b=>(by rw[<-t7 c a f,o]at b;cases b)),λi t=>?_⟩;have d:=(t7 c a f).1 t;have q:=l i d;have u:i<ops.size:=List.mem_range.1 (Z5.1 d).1;have r:ops[i]? = some ops[i]:=ψ
  unfold xb;rw[r];simp only;rw[bD r]at q;have w:rV [] ops[i]=false:=by grind [rV]
  rw[CD (by rw[w];decide)];refine kf q λy A=>⟨λp _ B=>?_,Uk n (i::done) _ y (by simpa using c) (λj b=>?_) (λk C=>?_) A⟩
  ·grind [rV]
  ·by_cases e:j=i
   ·subst e
    rw[show Ew (j::done) j=true from wl.2 ψ];simp[c,b]
   rw[getD_set_ne true (Ne.symm e),a j b]
   grind [wl]
  grind
theorem zd(g:∀t i,TE t=some i->i7 P t i)(y:P.follows .mixedOrders=true){id:Nat}{tb:List (Nat × Nat × List Nat)}(b:pb tb id ops=true)(c:DD P TE N tb id ops K F)(A:St w0 M S0 N F a w)(B:∀F' C D,K F'->St w0 M S0 N F' C D->Q .normal C D):(Code.region id ops true).wp P Q a w:=by
 unfold pb at b;unfold DD at c;cases q:zZ tb id with
 | none=>grind
 | some p=>
  obtain⟨m,L⟩:=p;rw[q]at b c;simp only at b c;cases k:Nat.ble 65536 m with
  | true=>
   rw[k]at c;refine wp_region_any y ?_;have f:St w0 M S0 N F a {w with drawn:=w.drawn+1}:=by
    obtain⟨S,φ,h⟩:=A;exact⟨S,φ,h.more (w1:={w with drawn:=w.drawn+1}) (λ_ _ h=>h) ψ ⟨rfl,rfl,rfl,I4 _,λ_ _ _=>rfl,λ_ _ _ _=>rfl,λ_ _ _ _=>rfl⟩⟩
   refine tw g (ds:=[]) B ops.size (Array.replicate ops.size false) _ a _ ?_ f;exact Uk ops.size [] _ F (by simp) (λj n=>by simp[n,Ew]) ψ c
  | false=>
  rw[k]at b c;simp only[cond_false]at b c;cases r:Nat.ble 256 m with
  | false=>
   grind [EX]
  | true=>
   rw[r]at b c;simp only[cond_true,M4]at b c;generalize L.take (m - 256)=ds at b c;generalize dec (L.drop (m - 256))=sch at b c;obtain⟨E,l,e,G⟩:=EP b;refine wp_region_any y ?_;have f:St w0 M S0 N (Ab.clr ds F) a {w with drawn:=w.drawn+1}:=by
    have O:=A.clr ds;obtain⟨S,φ,h⟩:=O;exact⟨S,φ,h.more (w1:={w with drawn:=w.drawn+1}) (λ_ _ h=>h) ψ ⟨rfl,rfl,rfl,I4 _,λ_ _ _=>rfl,λ_ _ _ _=>rfl,λ_ _ _ _=>rfl⟩⟩
   refine tw g (ds:=ds) B ops.size (Array.replicate ops.size false) _ a _ ?_ f;have u:∀d,ds.any (Nat.beq d)=true->∀t,(Ab.clr ds F t).uses d=false:=λd R t=>by
    rw[Ej];cases X:ds.any (λd=>(F t).uses d) with
    | true=>rfl
    | false=>
     simp_all
   rw[<-e];refine EM E sch _ _ l (by simp[e]) (λj n=>by simp_all) ⟨λj o d H J _ R t=>?_,λj o T s H J _ _ U V t=>u s (E.mvs j o T s H J U V) t⟩ (λj Y n Z=>by
     have W:=(Z4.1 n).1
     simp_all) c
   grind [Mb]
end
def gK:List (Option Nat)->Kd
 | [ag]=>kv ag
 | a=>.tup a
def sV:ResultVar->Nat
 | .tmp t=>t
 | .cell t _=>t
def D7(tmps:Array Value):ResultVar->Sem Value
 | .tmp t=>pure (tmps.getD t undef)
 | .cell a t=>do loadVar t (<-asAddr (tmps.getD a undef))
def resOne(TE:Nat->Option TI)(F:Nat->AV)(r:ResultVar)(K:Option Nat->List C->Prop):Prop:=
 match r with
 | .tmp t=>(match F t with
   | .F .one cs=>K none cs
   | .F .agg cs=>K (some cs.length) cs
   | _=>False)
 | .cell t T=>match TE T with
  | some i=>bif i.agg || Nat.beq i.size 1 then(match F t with
    | .F .box cs=>bif Nat.beq cs.length i.size then K (rW i) cs else False
    | _=>False) else False
  | none=>False
def resA(TE:Nat->Option TI)(F:Nat->AV):List ResultVar->List Nat->(List (Option Nat)->List C->Prop)->Prop
 | [],_,K=>K [] []
 | r::rs,seen,K=>bif seen.any (Nat.beq (sV r)) then False else resOne TE F r λb c=>resA TE F rs (sV r::seen) λd a=>K (b::d) (c++a)
def Xd:RA->AV
 | .val a cs=>.F (kv a) cs
 | .ptr cs=>.iref cs 0
 | .fn Ok=>.fv Ok
def EC:Nat->List RA->List (Nat × AV)
 | _,[]=>[]
 | i,A::As=>(i,Xd A)::EC (i+1) As
inductive Vk:C->C->Prop
 |rfl_ (c:C):Vk c c
 |z_:Vk .z (.s .own [])
 |own_ (rows rows':List (List C)) (hl:rows.length=rows'.length) (hk:∀(i:Nat)(r r':List C),rows[i]? = some r->rows'[i]? = some r'->r.length=r'.length)
   (hr:∀(i j:Nat)(r r':List C)(c c':C),rows[i]? = some r->rows'[i]? = some r'->r[j]? = some c->r'[j]? = some c'->Vk c c'):Vk (.s .own rows) (.s .own rows')
def WH(cs a:List C):Prop:=cs.length=a.length/\∀(j:Nat)(c b:C),cs[j]? = some c->a[j]? = some b->Vk c b
variable{cs a:List C}
theorem WH.cons{c b:C}(h:Vk c b)(d:WH cs a):WH (c::cs) (b::a):=by
 refine⟨by simp[d.1],λj y e f g=>?_⟩;cases j with
 | zero=>grind
 | succ j=>exact d.2 j y e (by simpa using f) (by simpa using g)
theorem Ty{w:World}{S Y:ah}{c:C}{v:Value}(h:ef w S Y c v):∀t,Vk c t->ef w S Y t v:=by
 induction h with
 | z F a=>
  intro t j;cases j with
  | rfl_=>exact .z _ _
  | z_=>exact .nil _ _ _ trivial
 | nil F o a K=>
  intro t j;cases j with
  | rfl_=>exact .nil _ _ _ K
  | own_ d e E=>obtain rfl:e=[]:=S9 (by simpa using E.symm);exact .nil _ _ _ trivial
 | own F o g k n y d u f K J L p A D R T j G X=>
  intro t M;cases M with
  | rfl_=>exact .own _ o g k n y d u f K J L p A D R T j G
  | own_ d e E Z U=>
   have V:∀(i:Nat)(W:List C),e[i]? = some W->∃r,d[i]? = some r:=ψ
   refine .own _ .own g k n y e u f trivial (E.symm.trans J) (λW hr'=>?_) p A D R T j ψ
   all_goals grind [List.mem_iff_getElem?]
 | v F x N=>intro t j;cases j;exact .v _ _ N
 | x F u N=>intro t j;cases j;exact .x _ _ N
 | O F g O k n y d u J L p hS G X=>intro t j;cases j;exact .O _ g O k n y d u J L p hS G
 | m F b l es q D P he Q B=>intro t j;cases j;exact .m _ b l es q D P he Q B
 | it F r b since c0 l seen q cur left D U P B G Q E H=>intro t j;cases j;exact .it _ r b since c0 l seen q cur left D U P B G Q E H
def WK(cs a:List C):Prop:=RP cs a\/WH cs a
inductive qr(k k':Kd)(cs cs':List C):Prop
 |mk_ (h:k=k'/\WK cs cs')
def qt:∀(cs:List C),RP cs cs
 | []=>trivial
 | c::cs=>by
  refine⟨?_,qt cs⟩;cases c with
  | s o a=>cases o<;>rfl
  | x=>trivial
  | _=>rfl
variable{k b:Kd}
def qr.mk(c:k=b)(d:cs=a):qr k b cs a:=by refine .mk_ ?_;exact⟨c,.inl (d ▸ qt cs)⟩
def qr.wk(c:k=b)(d:RP cs a):qr k b cs a:=.mk_ ⟨c,.inl d⟩
def qr.out(h:qr k b cs a):k=b/\WK cs a:=by obtain⟨h⟩:=h;exact h
theorem WK.len(h:WK cs a):cs.length=a.length:=h.elim (λh=>(tP h).1) (λh=>h.1)
theorem WK.row{w:World}{S Y:ah}{c:List C}{u:Nat->Value}(a:WK cs c)(h:cy w S Y cs u):cy w S Y c u:=by
 rcases a with a|a
 ·exact FL a h
 obtain⟨f,k,l,n⟩:=h;refine⟨f,λj i b=>?_,λj b=>l j (by rw[a.1];exact b),λj o b e=>n j o (by rw[a.1];exact b) (by rw[a.1];exact e)⟩;have g:=(Y3.1 b).1;have d:cs[j]? = some (cs[j]'(by rw[a.1];exact g)):=ψ
 exact Ty (k j _ d) i (a.2 j _ i d b)
def TT(TE:Nat->Option TI)(c:List ResultVar)(k:Kd)(rcs:List C):Exit->(Nat->AV)->Prop:=λe F=>
 match e with
 | .normal=>resA TE F c [] λa b=>qr (gK a) k b rcs
 | .ret=>resA TE F c [] λa b=>qr (gK a) k b rcs
 | _=>False
section
variable{P:Program}{w0 w w1:World}{M S0 S:ah}{N:fm}{φ:Nat->ah}{F:Nat->AV}{a:Act}{TE:Nat->Option TI}
theorem bg.resOne(h:bg w0 M S0 N S φ F a w)(n:∀t i,TE t=some i->i7 P t i){r:ResultVar}{K:Option Nat->List C->Prop}(b:resOne TE F r K) :
  ∃ag cs v,K ag cs/\bw w S (φ (sV r)) ag cs v/\(D7 a.tmps r).run P w=.ok v w:=by
 cases r with
 | tmp t=>
  have e:=h.slot t;simp only[Ab.resOne]at b;cases p:F t with
  | F k cs=>
   rw[p]at b e;obtain⟨E,Y,G,j,H,A,l⟩:=e;cases k with
   | one=>exact⟨none,cs,tvs a t,b,⟨A,_,rfl,l.mono (λ_ _ h=>h) j⟩,rfl⟩
   | agg=>
    obtain⟨arr,q,u⟩:=A;refine⟨some cs.length,cs,tvs a t,b,⟨rfl,bZ w .agg (tvs a t),?_,l.mono (λ_ _ h=>h) j⟩,rfl⟩;rw[q];have:=oU arr;rw[u]at this;exact this
   | _=>exact b.elim
  | _=>grind
 | cell t T=>
  have e:=h.slot t;simp only[Ab.resOne]at b;split at b
  case h_2=>exact b.elim
  rename_i i J;have L:=n _ _ J;cases B:(i.agg || Nat.beq i.size 1) with
  | false=>grind
  | true=>
   rw[B]at b;simp only[cond_true]at b;cases p:F t with
   | F k cs=>
    rw[p]at b e;cases k with
    | box=>
     simp only at b;cases D:Nat.beq cs.length i.size with
     | false=>grind
     | true=>
      rw[D]at b;have O:=O3 D;obtain⟨E,Y,G,j,H,⟨g,o,q,Q⟩,l⟩:=e;have c:∀d,d<i.size->cel w g (o+d)=some (bZ w .box (tvs a t) d):=λd R=>by grind [bZ]
      have f:=yR (w:=w) L B c;refine⟨_,cs,_,b,⟨by grind [qz],_,rfl,l.mono (λ_ _ h=>h) j⟩,?_⟩;have y:a.tmps.getD t undef=.pointer (some ⟨g,o,none⟩):=q;simp only[D7,y,asAddr];exact f
    | _=>exact b.elim
   | _=>grind
def Kg{ag:Option Nat}{cs:List C}{v:Value}{Y:ah}(h:bw w S Y ag cs v):∃u,v.cells.toList=(List.range cs.length).map u/\cy w S Y cs u/\v=mkv ag u:=by
 obtain⟨a,u,rfl,b⟩:=h;refine⟨u,?_,b,rfl⟩;rw[ro (λe=>by subst e;exact b.one (by simp at a;omega)),a]
theorem yX{d e:ah}{cs a:List C}{u g:Nat->Value}(h:cy w S d cs u)(h':cy w S e a g)(p:∀b o,d b o->¬e b o) :
  cy w S (λb o=>d b o\/e b o) (cs++a) (λj=>if j<cs.length then u j else g (j - cs.length)):=by
 obtain⟨f,q,r,t⟩:=h;obtain⟨i,k,l,n⟩:=h';refine⟨λj=>if j<cs.length then f j else i (j - cs.length),λj c y=>?_,ψ,ψ⟩
 all_goals grind
theorem bg.resA(h:bg w0 M S0 N S φ F a w)(e:∀t i,TE t=some i->i7 P t i):∀{p:List ResultVar}{seen:List Nat}{K:List (Option Nat)->List C->Prop},resA TE F p seen K->
  ∃sh cs vs u,K sh cs/\(p.mapM (D7 a.tmps)).run P w=.ok vs w/\yz sh vs/\sh.length=p.length/\xl sh=cs.length/\
   (vs.flatMap λv=>v.cells.toList)=(List.range cs.length).map u/\(∀ag,sh=[ag]->∃v,vs=[v]/\bw w S (λb o=>∃t,t∉seen/\φ t b o) ag cs v)/\cy w S (λb o=>∃t,t∉seen/\φ t b o) cs u
 | [],seen,K,c=>⟨[],[],[],λ_=>undef,c,rfl,trivial,rfl,rfl,rfl,ψ,cy.nil _ _ _ _⟩
 | r::p,seen,K,c=>by
  simp only[Ab.resA]at c;cases d:seen.any (Nat.beq (sV r)) with
  | true=>grind
  | false=>
   rw[d]at c;simp only[cond_false]at c;have L:sV r∉seen:=λY=>by grind [Nat.beq_refl]
   obtain⟨ag,cs,v,c,q,G⟩:=h.resOne e c;obtain⟨sh,f,vs,O,Q,y,A,B,R,hcells,-,g⟩:=bg.resA h e c;obtain⟨u,D,H,k⟩:=Kg q;have T:∀b o,φ (sV r) b o->¬∃t,t∉sV r::seen/\φ t b o:=λb o U ⟨t,Z,E⟩=>h.dis _ _ ψ b o U E
   refine⟨ag::sh,cs++f,v::vs,λj=>if j<cs.length then u j else O (j - cs.length),Q,?_,?_,by simp[B],?_,?_,?_,?_⟩
   ·simp_all
   ·obtain⟨V,-⟩:=q
    cases ag with
    | none=>
     refine⟨?_,A⟩;rw[k];have J:(u 0).oneCell'=true:=H.one (by simp at V;omega);show(u 0).cells = #[u 0];cases W:u 0<;>first|(rw[W]at J;cases J;done)|rfl
    | some n=>exact⟨⟨_,by rw[k];rfl,by simp⟩,A⟩
   ·rw[te,X4,R,q.1]
   ·simp only[List.flatMap_cons,D,hcells,X4]
    apply List.ext_getElem?
    grind
   ·intro X l
    simp only[List.cons.injEq]at l;obtain⟨rfl,rfl⟩:=l;cases vs with
    | cons _ _=>exact A.elim
    | nil=>
     have:f=[]:=S9 (by simp_all);subst this;exact⟨v,rfl,by rw[List.append_nil];exact q.mono (λ_ _ h=>h) ψ⟩
   exact(yX H g T).mono (λ_ _ h=>h) ψ
theorem Dv:∀{A:List RA}{vs:List Value}(i:Nat),AG w S A vs->∀t,(lay (EC i A) t=.dead)\/(∃a v,i<=t/\vs[t - i]? = some v/\lay (EC i A) t=Xd a/\qa w S a v)
 | [],_,i,_,t=>.inl rfl
 | a::A,[],i,h,t=>h.elim
 | a::A,v::vs,i,h,t=>by
  simp only[EC,lay];cases b:Nat.beq t i with
  | true=>
   have:=O3 b;subst this;exact .inr ⟨a,v,I4 _,by simp,rfl,h.1⟩
  | false=>
   have c:t≠i:=λe=>by simp_all
   rcases Dv (i+1) h.2 t with d|⟨f,g,d,j,k⟩
   all_goals grind
theorem qa.slot{A:RA}{v:Value}(h:qa w S A v){tv:Nat->Value} : cC w S F tv NO (Xd A) v:=by
 cases A with
 | val f a=>exact bw.slot h
 | ptr a=>obtain⟨g,b,u,c,d,e⟩:=h;exact⟨g,b,u,by rw[c,Nat.add_zero],d,e⟩
 | fn Ok=>exact h
def Mm:∀{A:List RA}{vs:List Value},AG w S A vs->A.length=vs.length
 | [],[],_=>rfl
 | _::_,_::_,h=>by simp[Mm h.2]
 | [],_::_,h=>h.elim
 | _::_,[],h=>h.elim
theorem MR{D : Nat -> Array Oper -> ((Nat -> AV) -> Prop) -> (Nat -> AV) -> Prop}{f : Nat}{d : Func}{c : Code}{sh : Bool}{A : List RA}{k : Kd}{rcs : List C}(K : ∀t i, TE t = some i -> i7 P t i)(hf : P.funcs[f]? = some d)(hn : (d.name == "runtime.NumGoroutine") = false)(p:d.body=some c){ck:Nat->Array Oper->Bool}(hD:yu P N ck D)(hc:gJ ck c=true)(hN:A.length+(d.ntmps - A.length)=N.n)(hkp:N.kp=[])(U:sh=true\/gk rcs)(hp:aw P TE N D c (TT TE d.results.toList k rcs) (lay (EC 0 A))):am P f sh A k rcs:=by
 refine⟨⟨d,hf,hn,by rw[p];rfl⟩,λw S r hS hA=>?_⟩;have hlen:=Mm hA;refine calls_of_wp hf p ?_;have V:St w NO S N (lay (EC 0 A)) {tmps:=r.toArray++Array.replicate (d.ntmps - r.toArray.size) undef,defers:=[]} w:=by
  refine⟨S,λ_=>NO,λt=>?_,λ_ _ _ _ _ h=>h.elim,λ_ _ _ h=>h.elim,λ_ _ _ h=>h.elim,λ_ _ h=>h,ψ,CZ _ _,by simp;omega,rfl,ψ⟩;rcases Dv 0 hA t with y|⟨A0,v,-,B,G,h4⟩
  ·rw[y];trivial
  rw[G];have hv:tvs {tmps:=r.toArray++Array.replicate (d.ntmps - r.toArray.size) undef,defers:=[]} t=v:=by
   have hlt:=(Y3.1 B).1;simp only[tvs,t9]
   grind
  grind [qa.slot]
 refine jq K hD c hc _ _ _ _ w hp V λe F' J g W Z=>?_
 obtain⟨S',φ',h⟩:=Z;have fin:resA TE F' d.results.toList [] (λsh L=>qr (gK sh) k L rcs)->J.defers=[]/\∃v,(results d J.tmps).run P g=.ok v g/\(∃v',Ending.returned v=.returned v'/\bC NO w g/\∃X S1:ah,(∀b o,X b o->b<g.heap.size/\w.heap.size<=b)/\
     (∀b o,S1 b o->(sh=true/\S b o)\/(b<g.heap.size/\w.heap.size<=b))/\(∀b o,X b o->¬S1 b o)/\fL g NO k rcs.length v'/\cy g S1 X rcs (bZ g k v')):=by
  intro hr;obtain⟨shs,L,a,u,M,hrun,q,hln,R,hcells,l,O⟩:=h.resA K hr;obtain⟨rfl,hwk⟩:=M.out;refine⟨h.defers,?_⟩;have H:(results d J.tmps).run P g=.ok (if h:a.toArray.size=1 then a.toArray[0] else .tuple a.toArray) g:=by
   have e:results d J.tmps=(do let r <-d.results.mapM (D7 J.tmps);pure (if h:r.size=1 then r[0] else .tuple r)):=by
    unfold results
    congr 1
   rw[e,<-Array.toArray_toList (xs:=d.results),List.mapM_toArray]
   simp_all
  refine⟨_,H,_,rfl,h.old,λb o=>∃t,φ' t b o,λb o=>(sh=true/\S' b o)\/(S' b o/\w.heap.size<=b),λb o ⟨t,p⟩=>⟨(h.ex t b o p).1,(h.ex t b o p).2.resolve_right (λh=>h)⟩,λb o p=>?_,λb o ⟨t,p⟩ hb'=>h.disS t b o p ψ,?_⟩
  ·rcases p with⟨y,B⟩|⟨y,B⟩
   ·rcases(h.sup b o B).2 with G|G|G
    ·grind
    ·exact .inr ⟨(h.sup b o B).1,G⟩
    exact G.elim
   exact .inr ⟨(h.sup b o y).1,B⟩
  have Q:fL g NO (gK shs) L.length (if h:a.toArray.size=1 then a.toArray[0] else .tuple a.toArray)/\cy g S' (λb o=>∃t,φ' t b o) L (bZ g (gK shs) (if h:a.toArray.size=1 then a.toArray[0] else .tuple a.toArray)):=by
   have E:∀b o,(∃t,t∉([]:List Nat)/\φ' t b o)->∃t,φ' t b o:=ψ
   match shs,q,l,R with
   | [],q,_,R=>
    cases a with
    | cons _ _=>exact q.elim
    | nil=>
     have:L=[]:=ψ
     subst this;exact⟨⟨_,rfl,trivial,rfl⟩,cy.nil _ _ _ _⟩
   | [T],_,l,_=>
    obtain⟨v,rfl,hv⟩:=l T rfl;have:=(hv.mono (λ_ _ h=>h) E).slot (F:=F') (tv:=tvs J);obtain⟨X1,Y,y,B,G,h4,h5⟩:=this;refine⟨?_,h5.mono (λ_ _ h=>h) B⟩;cases T<;>exact h4
   | T::ag2::sh,q,_,R=>
    have hsz:¬a.toArray.size=1:=by
     match a,q with
     | [],q=>simp
     | [v],q=>cases T<;>cases ag2<;>exact q.2.elim
     | _::_::_,_=>simp
    rw[dif_neg hsz];refine⟨⟨_,rfl,q,R⟩,(O.mono (λ_ _ h=>h) E).congr λj hj=>?_⟩;simp only[bZ,gK,m7,hcells];simp[List.getD,hj]
  replace Q:=CC Q.1 (hwk.row Q.2);refine⟨by grind [WK.len],?_⟩;rcases U with y|y
  ·exact Q.2.mono ψ (λ_ _ h=>h)
  exact(Q.2.fresh y).mono (λ_ _ h=>h.elim) (λ_ _ h=>h)
 cases e with
 | normal=>exact fin W
 | ret=>exact fin W
 | _=>exact W.elim
end
def DF(P:Program)(TE:Nat->Option TI)(N:fm)(tb:List (Nat × Nat × List Nat))(id:Nat)(ops:Array Oper)(K:(Nat->AV)->Prop)(F:Nat->AV):Prop:=
 match zZ tb (id+1048576) with
 | some (t,offs)=>uk t offs (DD P TE N tb id ops K) F
 | none=>DD P TE N tb id ops K F
variable{P:Program}
def tI{TE:Nat->Option TI}(a:∀t i,TE t=some i->i7 P t i)(e:P.follows .mixedOrders=true)(N:fm)(tb:List (Nat × Nat × List Nat)):yu P N (pb tb) (DF P TE N tb):=
 λ_ _ b _ _ _ _ _ _ _ _ c f g=>by
  unfold DF at c;split at c
  ·obtain⟨j,h,d⟩:=zw c f
   exact zd a e b h d g
  exact zd a e b c f g
def LQ:List (Nat × TI)->Nat->Option TI
 | [],_=>none
 | p::l,t=>bif Nat.beq t p.1 then some p.2 else LQ l t
def UP(P:Program):List (Nat × TI)->Prop
 | []=>True
 | p::l=>i7 P p.1 p.2/\UP P l
def Jd{P:Program} : ∀{l:List (Nat × TI)},UP P l->∀t i,LQ l t=some i->i7 P t i
 | [],_,t,i,h=>by cases h
 | p::l,b,t,i,h=>by
  simp only[LQ]at h;cases a:Nat.beq t p.1 with
  | true=>
   rw[a]at h;simp only[cond_true,O1]at h;have:=O3 a;subst this h;exact b.1
  | false=>rw[a]at h;exact Jd b.2 t i h
def WP:TypeDesc->Prop
 | .struct _=>False
 | .array _ _=>False
 | _=>True
variable{t:Nat}
def Fy{i:TI}{d:TypeDesc}(h:P.underlying t=some d)(k:i.kind=.sc d:=by rfl)(a:(P.info? t).map (λx=>(x.zero.map (·.cells.toList),x.size,x.bytes))=some (some (i.zero.map cval),i.size,i.bytes):=by kernel_rfl)(z:kK i.zero:=by repeat' first|exact trivial|refine CC rfl ?_)(n:WP d:=by trivial):i7 P t i:=⟨a,z,by rw[k];refine⟨h,?_⟩;revert n;cases d<;>exact id⟩
def vM{e:Nat}{i:TI}(h:P.underlying t=some (.slice e))(k:i.kind=.sl e:=by rfl)(a:(P.info? t).map (λx=>(x.zero.map (·.cells.toList),x.size,x.bytes))=some (some (i.zero.map cval),i.size,i.bytes):=by kernel_rfl)(z:kK i.zero:=by repeat' first|exact trivial|refine CC rfl ?_):i7 P t i:=⟨a,z,by rw[k];exact h⟩
def fR{i:TI}{fs}(h:P.underlying t=some (.struct fs))(k:i.kind=.st (fs.toList.map (λf=>(f.offset,f.type))):=by rfl)(a:(P.info? t).map (λx=>(x.zero.map (·.cells.toList),x.size,x.bytes))=some (some (i.zero.map cval),i.size,i.bytes):=by kernel_rfl)(z:kK i.zero:=by repeat' first|exact trivial|refine CC rfl ?_):i7 P t i:=⟨a,z,by rw[k];exact⟨_,h,rfl⟩⟩
def Xp{e:Nat}{i:TI}{v:Value}(h:P.underlying t=some (.map 3 e))(d:P.underlying 3=some (.int .i64))(k:i.kind=.mp 3 e v:=by rfl)(a:(P.info? t).map (λx=>(x.zero.map (·.cells.toList),x.size,x.bytes))=some (some (i.zero.map cval),i.size,i.bytes):=by kernel_rfl)(z:kK i.zero:=by repeat' first|exact trivial|refine CC rfl ?_)(b:(P.info? e).bind (·.zero)=some v:=by kernel_rfl)(c:v.oneCell'=true:=by rfl):i7 P t i:=⟨a,z,by rw[k];exact⟨h,d,b,c⟩⟩
def ti3:TI:=⟨1,8,[.v (.int .i64 0)],.sc (.int .i64)⟩
def ti4:TI:=⟨1,1,[.v (.bool false)],.sc .bool⟩
def ti2:TI:=⟨1,8,[.v (.int .i64 0)],.sc (.int .i64)⟩
def ti5:TI:=⟨1,1,[.v (.int .u8 0)],.sc (.int .u8)⟩
def ti6:TI:=⟨1,1,[.v (.int .u8 0)],.sc (.int .u8)⟩
def ti7:TI:=⟨4,24,[.v (.int .i64 0),.v (.int .i64 0),.v (.bool false),.v (.int .u8 0)],.st [(0,2),(1,3),(2,4),(3,6)]⟩
def ti8:TI:=⟨4,24,[.v (.int .i64 0),.v (.int .i64 0),.v (.bool false),.v (.int .u8 0)],.st [(0,2),(1,3),(2,4),(3,6)]⟩
def ti9:TI:=⟨1,16,[.v (.string ⟨#[]⟩)],.sc .string⟩
def ti10:TI:=⟨1,16,[.v (.string ⟨#[]⟩)],.sc .string⟩
def ti11:TI:=⟨1,16,[.v (.string ⟨#[]⟩)],.sc .string⟩
def ti12:TI:=⟨1,8,[.v (.int .u64 0)],.sc (.int .u64)⟩
def ti13:TI:=⟨2,24,[.v (.string ⟨#[]⟩),.v (.int .u64 0)],.st [(0,9),(1,12)]⟩
def ti14:TI:=⟨2,24,[.v (.string ⟨#[]⟩),.v (.int .u64 0)],.st [(0,9),(1,12)]⟩
def ti21:TI:=⟨1,4,[.v (.int .i32 0)],.sc (.int .i32)⟩
def ti22:TI:=⟨1,24,[.z],.sl 5⟩
def ti24:TI:=⟨1,24,[.z],.sl 33⟩
def ti25:TI:=⟨1,24,[.z],.sl 4⟩
def ti26:TI:=⟨2,48,[.z,.z],.st [(0,24),(1,25)]⟩
def ti27:TI:=⟨2,48,[.z,.z],.st [(0,24),(1,25)]⟩
def ti28:TI:=⟨1,24,[.z],.sl 82⟩
def ti29:TI:=⟨1,24,[.z],.st [(0,28)]⟩
def ti30:TI:=⟨1,24,[.z],.st [(0,28)]⟩
def ti31:TI:=⟨3,72,[.z,.z,.z],.st [(0,27),(2,30)]⟩
def ti32:TI:=⟨3,72,[.z,.z,.z],.st [(0,27),(2,30)]⟩
def ti33:TI:=⟨1,24,[.z],.sl 3⟩
def ti34:TI:=⟨5,104,[.z,.z,.z,.v (.int .i64 0),.z],.st [(0,32),(3,3),(4,33)]⟩
def ti35:TI:=⟨5,104,[.z,.z,.z,.v (.int .i64 0),.z],.st [(0,32),(3,3),(4,33)]⟩
def ti36:TI:=⟨1,24,[.z],.sl 180⟩
def ti37:TI:=⟨1,24,[.z],.sl 267⟩
def ti38:TI:=⟨1,24,[.z],.sl 175⟩
def ti39:TI:=⟨1,24,[.z],.sl 74⟩
def ti40:TI:=⟨1,24,[.z],.sl 158⟩
def ti41:TI:=⟨1,24,[.z],.sl 192⟩
def ti42:TI:=⟨2,48,[.z,.z],.st [(0,41),(1,24)]⟩
def ti43:TI:=⟨2,48,[.z,.z],.st [(0,41),(1,24)]⟩
def ti44:TI:=⟨1,24,[.z],.sl 190⟩
def ti45:TI:=⟨2,32,[.v (.int .i64 0),.z],.st [(0,3),(1,44)]⟩
def ti46:TI:=⟨2,32,[.v (.int .i64 0),.z],.st [(0,3),(1,44)]⟩
def ti47:TI:=⟨3,40,[.v (.int .i64 0),.v (.int .i64 0),.z],.st [(0,3),(1,3),(2,33)]⟩
def ti48:TI:=⟨3,40,[.v (.int .i64 0),.v (.int .i64 0),.z],.st [(0,3),(1,3),(2,33)]⟩
def ti49:TI:=⟨5,56,[.v (.int .i64 0),.v (.int .i64 0),.z,.v (.int .i64 0),.v (.int .i64 0)],.st [(0,48),(3,3),(4,3)]⟩
def ti50:TI:=⟨5,56,[.v (.int .i64 0),.v (.int .i64 0),.z,.v (.int .i64 0),.v (.int .i64 0)],.st [(0,48),(3,3),(4,3)]⟩
def ti51:TI:=⟨24,400,[.z,.z,.z,.v (.int .i64 0),.z,.z,.z,.z,.z,.z,.z,.z,.v (.int .i64 0),.z,.v (.int .i64 0),.v (.int .i64 0),.v (.int .i64 0),.v (.int .i64 0),.v (.bool false),.v (.int .i64 0),.v (.int .i64 0),.z,.v (.int .i64 0),.v (.int .i64 0)],.st [(0,35),(5,36),(6,37),(7,38),(8,39),(9,40),(10,43),(12,46),(14,3),(15,3),(16,3),(17,3),(18,4),(19,50)]⟩
def ti52:TI:=⟨24,400,[.z,.z,.z,.v (.int .i64 0),.z,.z,.z,.z,.z,.z,.z,.z,.v (.int .i64 0),.z,.v (.int .i64 0),.v (.int .i64 0),.v (.int .i64 0),.v (.int .i64 0),.v (.bool false),.v (.int .i64 0),.v (.int .i64 0),.z,.v (.int .i64 0),.v (.int .i64 0)],.st [(0,35),(5,36),(6,37),(7,38),(8,39),(9,40),(10,43),(12,46),(14,3),(15,3),(16,3),(17,3),(18,4),(19,50)]⟩
def ti53:TI:=⟨1,24,[.z],.sl 325⟩
def ti54:TI:=⟨2,32,[.v (.int .i64 0),.z],.st [(0,3),(1,53)]⟩
def ti55:TI:=⟨2,32,[.v (.int .i64 0),.z],.st [(0,3),(1,53)]⟩
def ti56:TI:=⟨26,432,[.z,.z,.z,.v (.int .i64 0),.z,.z,.z,.z,.z,.z,.z,.z,.v (.int .i64 0),.z,.v (.int .i64 0),.v (.int .i64 0),.v (.int .i64 0),.v (.int .i64 0),.v (.bool false),.v (.int .i64 0),.v (.int .i64 0),.z,.v (.int .i64 0),.v (.int .i64 0),.v (.int .i64 0),.z],.st [(0,52),(24,55)]⟩
def ti57:TI:=⟨26,432,[.z,.z,.z,.v (.int .i64 0),.z,.z,.z,.z,.z,.z,.z,.z,.v (.int .i64 0),.z,.v (.int .i64 0),.v (.int .i64 0),.v (.int .i64 0),.v (.int .i64 0),.v (.bool false),.v (.int .i64 0),.v (.int .i64 0),.z,.v (.int .i64 0),.v (.int .i64 0),.v (.int .i64 0),.z],.st [(0,52),(24,55)]⟩
def ti73:TI:=⟨4,32,[.v (.int .i64 0),.v (.int .i64 0),.v (.int .i64 0),.v (.int .i64 0)],.st [(0,3),(1,3),(2,3),(3,3)]⟩
def ti74:TI:=⟨4,32,[.v (.int .i64 0),.v (.int .i64 0),.v (.int .i64 0),.v (.int .i64 0)],.st [(0,3),(1,3),(2,3),(3,3)]⟩
def ti77:TI:=⟨1,24,[.z],.sl 168⟩
def ti81:TI:=⟨2,16,[.v (.int .i64 0),.v (.int .i64 0)],.st [(0,3),(1,3)]⟩
def ti82:TI:=⟨2,16,[.v (.int .i64 0),.v (.int .i64 0)],.st [(0,3),(1,3)]⟩
def ti86:TI:=⟨5,56,[.v (.int .i64 0),.v (.int .i64 0),.v (.int .i64 0),.v (.int .i64 0),.z],.st [(0,3),(1,3),(2,3),(3,3),(4,33)]⟩
def ti87:TI:=⟨5,56,[.v (.int .i64 0),.v (.int .i64 0),.v (.int .i64 0),.v (.int .i64 0),.z],.st [(0,3),(1,3),(2,3),(3,3),(4,33)]⟩
def ti88:TI:=⟨1,24,[.z],.sl 199⟩
def ti97:TI:=⟨2,48,[.z,.z],.st [(0,24),(1,25)]⟩
def ti98:TI:=⟨1,24,[.z],.sl 515⟩
def ti99:TI:=⟨1,24,[.z],.st [(0,98)]⟩
def ti100:TI:=⟨1,24,[.z],.st [(0,98)]⟩
def ti101:TI:=⟨3,72,[.z,.z,.z],.st [(0,97),(2,100)]⟩
def ti102:TI:=⟨3,72,[.z,.z,.z],.st [(0,97),(2,100)]⟩
def ti103:TI:=⟨5,104,[.z,.z,.z,.v (.int .i64 0),.z],.st [(0,102),(3,3),(4,33)]⟩
def ti104:TI:=⟨5,104,[.z,.z,.z,.v (.int .i64 0),.z],.st [(0,102),(3,3),(4,33)]⟩
def ti105:TI:=⟨1,24,[.z],.sl 343⟩
def ti106:TI:=⟨1,24,[.z],.sl 345⟩
def ti107:TI:=⟨1,24,[.z],.sl 347⟩
def ti108:TI:=⟨1,24,[.z],.sl 349⟩
def ti109:TI:=⟨1,24,[.z],.sl 336⟩
def ti110:TI:=⟨1,24,[.z],.sl 436⟩
def ti111:TI:=⟨2,48,[.z,.z],.st [(0,110),(1,24)]⟩
def ti112:TI:=⟨2,48,[.z,.z],.st [(0,110),(1,24)]⟩
def ti113:TI:=⟨1,24,[.z],.sl 441⟩
def ti114:TI:=⟨2,32,[.v (.int .i64 0),.z],.st [(0,3),(1,113)]⟩
def ti115:TI:=⟨2,32,[.v (.int .i64 0),.z],.st [(0,3),(1,113)]⟩
def ti116:TI:=⟨3,40,[.v (.int .i64 0),.v (.int .i64 0),.z],.st [(0,3),(1,3),(2,33)]⟩
def ti117:TI:=⟨5,56,[.v (.int .i64 0),.v (.int .i64 0),.z,.v (.int .i64 0),.v (.int .i64 0)],.st [(0,116),(3,3),(4,3)]⟩
def ti118:TI:=⟨5,56,[.v (.int .i64 0),.v (.int .i64 0),.z,.v (.int .i64 0),.v (.int .i64 0)],.st [(0,116),(3,3),(4,3)]⟩
def ti119:TI:=⟨24,400,[.z,.z,.z,.v (.int .i64 0),.z,.z,.z,.z,.z,.z,.z,.z,.v (.int .i64 0),.z,.v (.int .i64 0),.v (.int .i64 0),.v (.int .i64 0),.v (.int .i64 0),.v (.bool false),.v (.int .i64 0),.v (.int .i64 0),.z,.v (.int .i64 0),.v (.int .i64 0)],.st [(0,104),(5,105),(6,106),(7,107),(8,108),(9,109),(10,112),(12,115),(14,3),(15,3),(16,3),(17,3),(18,4),(19,118)]⟩
def ti120:TI:=⟨24,400,[.z,.z,.z,.v (.int .i64 0),.z,.z,.z,.z,.z,.z,.z,.z,.v (.int .i64 0),.z,.v (.int .i64 0),.v (.int .i64 0),.v (.int .i64 0),.v (.int .i64 0),.v (.bool false),.v (.int .i64 0),.v (.int .i64 0),.z,.v (.int .i64 0),.v (.int .i64 0)],.st [(0,104),(5,105),(6,106),(7,107),(8,108),(9,109),(10,112),(12,115),(14,3),(15,3),(16,3),(17,3),(18,4),(19,118)]⟩
def ti126:TI:=⟨5,56,[.v (.int .i64 0),.v (.int .i64 0),.v (.int .i64 0),.v (.int .i64 0),.z],.st [(0,3),(1,3),(2,3),(3,3),(4,33)]⟩
def ti127:TI:=⟨1,24,[.z],.sl 254⟩
def ti157:TI:=⟨1,24,[.z],.st [(0,24)]⟩
def ti158:TI:=⟨1,24,[.z],.st [(0,24)]⟩
def ti167:TI:=⟨3,24,[.v (.int .i64 0),.v (.int .i64 0),.v (.int .i64 0)],.st [(0,3),(1,3),(2,3)]⟩
def ti168:TI:=⟨3,24,[.v (.int .i64 0),.v (.int .i64 0),.v (.int .i64 0)],.st [(0,3),(1,3),(2,3)]⟩
def ti174:TI:=⟨3,24,[.v (.int .i64 0),.v (.int .i64 0),.v (.int .i64 0)],.st [(0,3),(1,3),(2,3)]⟩
def ti175:TI:=⟨3,24,[.v (.int .i64 0),.v (.int .i64 0),.v (.int .i64 0)],.st [(0,3),(1,3),(2,3)]⟩
def ti179:TI:=⟨2,16,[.v (.int .i64 0),.v (.int .i64 0)],.st [(0,3),(1,3)]⟩
def ti180:TI:=⟨2,16,[.v (.int .i64 0),.v (.int .i64 0)],.st [(0,3),(1,3)]⟩
def ti185:TI:=⟨2,16,[.v (.int .i64 0),.v (.int .i64 0)],.st [(0,3),(1,3)]⟩
def ti186:TI:=⟨2,16,[.v (.int .i64 0),.v (.int .i64 0)],.st [(0,3),(1,3)]⟩
def ti189:TI:=⟨3,24,[.v (.int .i64 0),.v (.int .i64 0),.v (.int .i64 0)],.st [(0,3),(1,3),(2,3)]⟩
def ti190:TI:=⟨3,24,[.v (.int .i64 0),.v (.int .i64 0),.v (.int .i64 0)],.st [(0,3),(1,3),(2,3)]⟩
def ti192:TI:=⟨1,24,[.z],.sl 186⟩
def ti198:TI:=⟨5,40,[.v (.int .i64 0),.v (.int .i64 0),.v (.int .i64 0),.v (.int .i64 0),.v (.int .i64 0)],.st [(0,3),(1,3),(2,3),(3,3),(4,3)]⟩
def ti199:TI:=⟨5,40,[.v (.int .i64 0),.v (.int .i64 0),.v (.int .i64 0),.v (.int .i64 0),.v (.int .i64 0)],.st [(0,3),(1,3),(2,3),(3,3),(4,3)]⟩
def ti210:TI:=⟨8,64,[.v (.int .i64 0),.v (.int .i64 0),.v (.int .i64 0),.v (.int .i64 0),.v (.int .i64 0),.v (.int .i64 0),.v (.int .i64 0),.v (.int .i64 0)],.st [(0,3),(1,3),(2,3),(3,3),(4,3),(5,3),(6,3),(7,3)]⟩
def ti211:TI:=⟨8,64,[.v (.int .i64 0),.v (.int .i64 0),.v (.int .i64 0),.v (.int .i64 0),.v (.int .i64 0),.v (.int .i64 0),.v (.int .i64 0),.v (.int .i64 0)],.st [(0,3),(1,3),(2,3),(3,3),(4,3),(5,3),(6,3),(7,3)]⟩
def ti254:TI:=⟨5,40,[.v (.int .i64 0),.v (.int .i64 0),.v (.int .i64 0),.v (.int .i64 0),.v (.int .i64 0)],.st [(0,3),(1,3),(2,3),(3,3),(4,3)]⟩
def ti256:TI:=⟨3,40,[.z,.v (.int .i64 0),.v (.int .i64 0)],.st [(0,22),(1,3),(2,3)]⟩
def ti257:TI:=⟨3,40,[.z,.v (.int .i64 0),.v (.int .i64 0)],.st [(0,22),(1,3),(2,3)]⟩
def ti266:TI:=⟨3,24,[.v (.int .i64 0),.v (.int .i64 0),.v (.int .i64 0)],.st [(0,3),(1,3),(2,3)]⟩
def ti267:TI:=⟨3,24,[.v (.int .i64 0),.v (.int .i64 0),.v (.int .i64 0)],.st [(0,3),(1,3),(2,3)]⟩
def ti281:TI:=⟨1,8,[.v (.map none)],.mp 3 4 (.bool false)⟩
def ti289:TI:=⟨4,32,[.v (.int .i64 0),.v (.int .i64 0),.v (.int .i64 0),.v (.int .i64 0)],.st [(0,3),(1,3),(2,3),(3,3)]⟩
def ti290:TI:=⟨4,32,[.v (.int .i64 0),.v (.int .i64 0),.v (.int .i64 0),.v (.int .i64 0)],.st [(0,3),(1,3),(2,3),(3,3)]⟩
def ti292:TI:=⟨1,8,[.v (.map none)],.mp 3 3 (.int .i64 0)⟩
def ti304:TI:=⟨1,8,[.v (.int .u64 0)],.sc (.int .u64)⟩
def ti324:TI:=⟨2,32,[.v (.int .i64 0),.z],.st [(0,3),(1,33)]⟩
def ti325:TI:=⟨2,32,[.v (.int .i64 0),.z],.st [(0,3),(1,33)]⟩
def ti336:TI:=⟨1,24,[.z],.st [(0,24)]⟩
def ti343:TI:=⟨2,16,[.v (.int .i64 0),.v (.int .i64 0)],.st [(0,3),(1,3)]⟩
def ti345:TI:=⟨3,24,[.v (.int .i64 0),.v (.int .i64 0),.v (.int .i64 0)],.st [(0,3),(1,3),(2,3)]⟩
def ti347:TI:=⟨3,24,[.v (.int .i64 0),.v (.int .i64 0),.v (.int .i64 0)],.st [(0,3),(1,3),(2,3)]⟩
def ti349:TI:=⟨4,32,[.v (.int .i64 0),.v (.int .i64 0),.v (.int .i64 0),.v (.int .i64 0)],.st [(0,3),(1,3),(2,3),(3,3)]⟩
def ti398:TI:=⟨1,24,[.z],.sl 404⟩
def ti403:TI:=⟨2,16,[.v (.int .i64 0),.v (.int .i64 0)],.st [(0,3),(1,3)]⟩
def ti404:TI:=⟨2,16,[.v (.int .i64 0),.v (.int .i64 0)],.st [(0,3),(1,3)]⟩
def ti408:TI:=⟨1,8,[.v (.int .i64 0)],.sc (.int .i64)⟩
def ti415:TI:=⟨1,4,[.v (.int .u32 0)],.sc (.int .u32)⟩
def ti417:TI:=⟨1,8,[.v (.int .u64 0)],.sc (.int .u64)⟩
def ti436:TI:=⟨1,24,[.z],.sl 491⟩
def ti441:TI:=⟨3,24,[.v (.int .i64 0),.v (.int .i64 0),.v (.int .i64 0)],.st [(0,3),(1,3),(2,3)]⟩
def ti470:TI:=⟨1,8,[.v (.int .u64 0)],.sc (.int .u64)⟩
def ti491:TI:=⟨2,16,[.v (.int .i64 0),.v (.int .i64 0)],.st [(0,3),(1,3)]⟩
def ti515:TI:=⟨2,16,[.v (.int .i64 0),.v (.int .i64 0)],.st [(0,3),(1,3)]⟩
def ti528:TI:=⟨0,0,[],.st [(0,527)]⟩
def ti529:TI:=⟨0,0,[],.st [(0,527)]⟩
def ti531:TI:=⟨1,1,[.v (.int .u8 0)],.sc (.int .u8)⟩
def ti532:TI:=⟨1,1,[.v (.int .u8 0)],.sc (.int .u8)⟩
def ti535:TI:=⟨1,4,[.v (.int .i32 0)],.sc (.int .i32)⟩
def ti536:TI:=⟨1,4,[.v (.int .i32 0)],.sc (.int .i32)⟩
def tab:List (Nat × TI):=[(3,ti3),(4,ti4),(2,ti2),(5,ti5),(6,ti6),(7,ti7),(8,ti8),(9,ti9),(10,ti10),(11,ti11),(12,ti12),(13,ti13),(14,ti14),(21,ti21),(22,ti22),(24,ti24),(25,ti25),(26,ti26),(27,ti27),(28,ti28),(29,ti29),(30,ti30),(31,ti31),(32,ti32),(33,ti33),(34,ti34),(35,ti35),(36,ti36),(37,ti37),(38,ti38),(39,ti39),(40,ti40),(41,ti41),(42,ti42),(43,ti43),(44,ti44),(45,ti45),(46,ti46),(47,ti47),(48,ti48),(49,ti49),(50,ti50),(51,ti51),(52,ti52),(53,ti53),(54,ti54),(55,ti55),(56,ti56),(57,ti57),(73,ti73),(74,ti74),(77,ti77),(81,ti81),(82,ti82),(86,ti86),(87,ti87),(88,ti88),(97,ti97),(98,ti98),(99,ti99),(100,ti100),(101,ti101),(102,ti102),(103,ti103),(104,ti104),(105,ti105),(106,ti106),(107,ti107),(108,ti108),(109,ti109),(110,ti110),(111,ti111),(112,ti112),(113,ti113),(114,ti114),(115,ti115),(116,ti116),(117,ti117),(118,ti118),(119,ti119),(120,ti120),(126,ti126),(127,ti127),(157,ti157),(158,ti158),(167,ti167),(168,ti168),(174,ti174),(175,ti175),(179,ti179),(180,ti180),(185,ti185),(186,ti186),(189,ti189),(190,ti190),(192,ti192),(198,ti198),(199,ti199),(210,ti210),(211,ti211),(254,ti254),(256,ti256),(257,ti257),(266,ti266),(267,ti267),(281,ti281),(289,ti289),(290,ti290),(292,ti292),(304,ti304),(324,ti324),(325,ti325),(336,ti336),(343,ti343),(345,ti345),(347,ti347),(349,ti349),(398,ti398),(403,ti403),(404,ti404),(408,ti408),(415,ti415),(417,ti417),(436,ti436),(441,ti441),(470,ti470),(491,ti491),(515,ti515),(528,ti528),(529,ti529),(531,ti531),(532,ti532),(535,ti535),(536,ti536)]
abbrev zzA:=am Tryz.prog
abbrev zzB:=aR Tryz.prog
def Vh:UP Tryz.prog tab:=⟨Fy Tryz.underlying3,Fy Tryz.underlying4,Fy Tryz.underlying2,Fy Tryz.underlying5,Fy Tryz.underlying6,fR Tryz.underlying7,fR Tryz.underlying8,Fy Tryz.underlying9,Fy Tryz.underlying10,Fy Tryz.underlying11,Fy Tryz.underlying12,fR Tryz.underlying13,fR Tryz.underlying14,Fy Tryz.underlying21,vM Tryz.underlying22,vM Tryz.underlying24,vM Tryz.underlying25,fR Tryz.underlying26,fR Tryz.underlying27,vM Tryz.underlying28,fR Tryz.underlying29,fR Tryz.underlying30,fR Tryz.underlying31,fR Tryz.underlying32,vM Tryz.underlying33,fR Tryz.underlying34,fR Tryz.underlying35,vM Tryz.underlying36,vM Tryz.underlying37,vM Tryz.underlying38,vM Tryz.underlying39,vM Tryz.underlying40,vM Tryz.underlying41,fR Tryz.underlying42,fR Tryz.underlying43,vM Tryz.underlying44,fR Tryz.underlying45,fR Tryz.underlying46,fR Tryz.underlying47,fR Tryz.underlying48,fR Tryz.underlying49,fR Tryz.underlying50,fR Tryz.underlying51,fR Tryz.underlying52,vM Tryz.underlying53,fR Tryz.underlying54,fR Tryz.underlying55,fR Tryz.underlying56,fR Tryz.underlying57,fR Tryz.underlying73,fR Tryz.underlying74,vM Tryz.underlying77,fR Tryz.underlying81,fR Tryz.underlying82,fR Tryz.underlying86,fR Tryz.underlying87,vM Tryz.underlying88,fR Tryz.underlying97,vM Tryz.underlying98,fR Tryz.underlying99,fR Tryz.underlying100,fR Tryz.underlying101,fR Tryz.underlying102,fR Tryz.underlying103,fR Tryz.underlying104,vM Tryz.underlying105,vM Tryz.underlying106,vM Tryz.underlying107,vM Tryz.underlying108,vM Tryz.underlying109,vM Tryz.underlying110,fR Tryz.underlying111,fR Tryz.underlying112,vM Tryz.underlying113,fR Tryz.underlying114,fR Tryz.underlying115,fR Tryz.underlying116,fR Tryz.underlying117,fR Tryz.underlying118,fR Tryz.underlying119,fR Tryz.underlying120,fR Tryz.underlying126,vM Tryz.underlying127,fR Tryz.underlying157,fR Tryz.underlying158,fR Tryz.underlying167,fR Tryz.underlying168,fR Tryz.underlying174,fR Tryz.underlying175,fR Tryz.underlying179,fR Tryz.underlying180,fR Tryz.underlying185,fR Tryz.underlying186,fR Tryz.underlying189,fR Tryz.underlying190,vM Tryz.underlying192,fR Tryz.underlying198,fR Tryz.underlying199,fR Tryz.underlying210,fR Tryz.underlying211,fR Tryz.underlying254,fR Tryz.underlying256,fR Tryz.underlying257,fR Tryz.underlying266,fR Tryz.underlying267,Xp Tryz.underlying281 Tryz.underlying3,fR Tryz.underlying289,fR Tryz.underlying290,Xp Tryz.underlying292 Tryz.underlying3,Fy Tryz.underlying304,fR Tryz.underlying324,fR Tryz.underlying325,fR Tryz.underlying336,fR Tryz.underlying343,fR Tryz.underlying345,fR Tryz.underlying347,fR Tryz.underlying349,vM Tryz.underlying398,fR Tryz.underlying403,fR Tryz.underlying404,Fy Tryz.underlying408,Fy Tryz.underlying415,Fy Tryz.underlying417,vM Tryz.underlying436,fR Tryz.underlying441,Fy Tryz.underlying470,fR Tryz.underlying491,fR Tryz.underlying515,fR Tryz.underlying528,fR Tryz.underlying529,Fy Tryz.underlying531,Fy Tryz.underlying532,Fy Tryz.underlying535,Fy Tryz.underlying536,trivial⟩
def TE:Nat->Option TI:=LQ tab
def od:∀t i,TE t=some i->i7 Tryz.prog t i:=Jd Vh
def Vi:C->Value->C
 | .s .own rows,v=>.s (.tag v) rows
 | c,_=>c
def B4(u:Nat->Value):Nat->List C->List C
 | _,[]=>[]
 | j,c::cs=>Vi c (u j)::B4 u (j+1) cs
def Ae(u:Nat->Nat->Value):Nat->List MA->List (Nat × AV)
 | _,[]=>[]
 | i,.val a cs::A=>(i,.F (kv a) cs)::Ae u (i+1) A
 | i,.mut a cs::A=>(i,.F (kv a) (B4 (u i) 0 cs))::Ae u (i+1) A
 | i,.ptr cs::A=>(i,.F .box cs)::Ae u (i+1) A
def MO(p:Nat->Value):Nat->List MA->List (Nat × Value)
 | _,[]=>[]
 | i,.ptr _::A=>(i,p i)::MO p (i+1) A
 | i,_::A=>MO p (i+1) A
def GA:Nat->List MA->List (Nat × Nat)->List (Option Nat)
 | i,.val _ _::A,_::pl=>none::GA (i+1) A pl
 | i,.mut _ _::A,p::pl=>some p.1::GA (i+1) A pl
 | i,.ptr _::A,_::pl=>some i::GA (i+1) A pl
 | _,_,_=>[]
def Lz:List (Option Nat)->Bool
 | []=>true
 | none::l=>Lz l
 | some t::l=>l.all (λx=>match x with|some a=>!Nat.beq t a|none=>true)&&Lz l
def sles:List (Option Nat)->List Nat
 | []=>[]
 | none::l=>sles l
 | some t::l=>t::sles l
def WM(v:Value)(c y o:C):Prop:=
 match c with
 | .s .own _=>(match y with|.s (.tag v') rows=>v'=v/\o=.s .own rows|_=>False)
 | .s (.tag _) _=>False
 | .m _=>False
 | .it _ _=>False
 | c=>o=c
def Un(u:Nat->Value):Nat->List C->List C->List C->Prop
 | _,[],_,o=>o=[]
 | j,c::cs,y::xs,o::os=>WM (u j) c y o/\Un u (j+1) cs xs os
 | _,_,_,_=>False
def jl(u:Nat->Nat->Value)(F:Nat->AV):Nat->List MA->List (Nat × Nat)->List MA->Prop
 | _,[],_,[]=>True
 | i,.val _ _::A,_::pl,.val _ _::B=>jl u F (i+1) A pl B
 | i,.mut ag cs::A,p::pl,.mut a out::B=>(a=ag/\match F p.1 with|.F _ xs=>Un (u i) 0 cs (xs.drop p.2) out|_=>False)/\jl u F (i+1) A pl B
 | i,.ptr _::A,_::pl,.ptr out::B=>(match F i with|.F .box xs=>xs=out|_=>False)/\jl u F (i+1) A pl B
 | _,_,_,_=>False
inductive bj(k k':Kd)(cs cs':List C)(Q:Prop):Prop
 |mk_ (h:k=k'/\cs=cs'/\Q)
theorem bj.mk{Q:Prop}(c:k=b)(d:cs=a)(e:Q):bj k b cs a Q:=by refine .mk_ ?_;grind
def CL:type_of% @bj.mk:=@bj.mk
def bj.out{Q:Prop}(h:bj k b cs a Q):k=b/\cs=a/\Q:=by obtain⟨h⟩:=h;exact h
def UR(TE:Nat->Option TI)(d:List ResultVar)(k:Kd)(rcs:List C)(u:Nat->Nat->Value)(A B:List MA)(a:List (Nat × Nat)):Exit->(Nat->AV)->Prop:=λe F=>
 match e with
 | .normal=>resA TE F d (sles (GA 0 A a)) λb c=>bj (gK b) k c rcs (jl u F 0 A a B)
 | .ret=>resA TE F d (sles (GA 0 A a)) λb c=>bj (gK b) k c rcs (jl u F 0 A a B)
 | _=>False
section
variable{P:Program}{w0 w w1:World}{M S0 S:ah}{N:fm}{φ:Nat->ah}{F:Nat->AV}{a:Act}{TE:Nat->Option TI}
theorem ef.tag{Y:ah}{c:C}{v:Value}(h:ef w S Y c v):ef w S Y (Vi c v) v:=by
 cases h with
 | nil _ o a B=>cases o with
  | own=>exact .nil _ _ _ rfl
  | _=>exact .nil _ _ _ B
 | own _ o g k n l e u f B D E i p t K L M y=>cases o with
  | own=>exact .own _ _ g k n l e u f rfl D E i p t K L M y
  | O=>exact B.elim
  | tag z=>exact .own _ _ g k n l e u f B D E i p t K L M y
 | v _ x F=>exact .v _ _ F
 | x _ u F=>exact .x _ _ F
 | z _ a=>exact .z _ _
 | O _ g G k n l e u D E i N y=>exact .O _ g G k n l e u D E i N y
 | m _ b d O j t H P J q=>exact .m _ b d O j t H P J q
 | it _ r b since Q d seen j cur left t R H q y J T A=>exact .it _ r b since Q d seen j cur left t R H q y J T A
def ef.untag{Y:ah}{z v:Value}{rows:List (List C)}(h:ef w S Y (.s (.tag z) rows) v):v=z/\ef w S Y (.s .own rows) v:=by
 cases h with
 | nil _ o a d=>exact⟨Eq.symm d,.nil _ _ _ trivial⟩
 | own _ o g k n e rows u f d i j b c l p q r t=>exact⟨Eq.symm d,.own _ _ g k n e rows u f trivial i j b c l p q r t⟩
theorem qM(u:Nat->Value):∀(j:Nat)(cs:List C),(B4 u j cs).length=cs.length
 | _,[]=>rfl
 | j,c::cs=>by simp[B4,qM u (j+1) cs]
theorem Jw(u:Nat->Value):∀(a:Nat)(cs:List C)(j:Nat),(B4 u a cs)[j]? = (cs[j]?).map λc=>Vi c (u (a+j))
 | _,[],j=>by simp[B4]
 | a,c::cs,0=>by simp[B4]
 | a,c::cs,j+1=>by simp only[B4,List.getElem?_cons_succ];rw[Jw u (a+1) cs j,show a+1+j=a+(j+1) by omega]
variable{u:Nat->Value}
theorem cy.tag{Y:ah}{cs:List C}(h:cy w S Y cs u):cy w S Y (B4 u 0 cs) u:=by
 obtain⟨f,i,b,d⟩:=h;refine⟨f,λj c a=>?_,λj a=>b j (by grind [qM]),λj e a g=>d j e (by grind [qM]) (by grind [qM])⟩
 grind [Jw,ef.tag]
def celF(v:Value)(j:Nat):Value:=v.cells.toList.getD j undef
def bw.celF{Y:ah}{ag:Option Nat}{cs:List C}{v:Value}(h:bw w S Y ag cs v):cs.length=ag.getD 1/\v=mkv ag (celF v)/\cy w S Y cs (celF v):=by
 obtain⟨b,u,c,d⟩:=h;have g:=ro (ag:=ag) (u:=u) (λe=>by subst e;exact d.one (by simp at b;omega));have f:∀j,j<ag.getD 1->Ab.celF v j=u j:=λj a=>by
  unfold Ab.celF;rw[c,g];simp[List.getD,a]
 exact⟨b,c.trans (jJ λj a=>(f j a).symm),d.congr λj a=>f j ω⟩
def Uz(u:Nat->Nat->Value)(i:Nat):MA->AV
 | .val a cs=>.F (kv a) cs
 | .mut a cs=>.F (kv a) (B4 (u i) 0 cs)
 | .ptr cs=>.F .box cs
theorem De{u:Nat->Nat->Value} : ∀{A:List MA}{vs:List Value}{V:Nat->ah}(i:Nat),P4 w S V A vs->∀t,(lay (Ae u i A) t=.dead)\/(∃m v,i<=t/\vs[t - i]? = some v/\A[t - i]? = some m/\lay (Ae u i A) t=Uz u t m/\qo w S (V (t - i)) m v)
 | [],_,_,i,_,t=>.inl rfl
 | m::A,[],_,i,h,t=>h.elim
 | m::A,v::vs,V,i,h,t=>by
  have b:lay (Ae u i (m::A)) t=bif Nat.beq t i then Uz u i m else lay (Ae u (i+1) A) t:=by cases m<;>rfl
  rw[b];cases c:Nat.beq t i with
  | true=>
   have:=O3 c;subst this;exact .inr ⟨m,v,I4 _,by simp,by simp,rfl,by rw[Nat.sub_self];exact h.1⟩
  | false=>
   have d:t≠i:=λe=>by simp_all
   rcases De (i+1) h.2 t with a|⟨f,g,a,j,k,l,n⟩
   ·exact .inl a
   grind
def Ga:∀{A:List MA}{vs:List Value}{V:Nat->ah},P4 w S V A vs->A.length=vs.length
 | [],[],_,_=>rfl
 | _::_,_::_,_,h=>by simp[Ga h.2]
 | [],_::_,_,h=>h.elim
 | _::_,[],_,h=>h.elim
theorem Ma{p:Nat->Value} : ∀{A:List MA}{i:Nat}{q:Nat × Value},q∈MO p i A->i<=q.1/\q.1<i+A.length/\q.2=p q.1
 | [],_,_,h=>by simp[MO]at h
 | m::A,i,q,h=>by
  have a:q∈MO p (i+1) A->i<=q.1/\q.1<i+(m::A).length/\q.2=p q.1:=λh=>by
   obtain⟨b,c,d⟩:=Ma h
   grind
  cases m with
  | ptr e=>
   rcases List.mem_cons.1 h with rfl|h
   all_goals grind
  | val=>exact a h
  | «mut»=>exact a h
theorem LJ{p:Nat->Value} : ∀{A:List MA}{i n:Nat}{cs:List C},A[n]? = some (.ptr cs)->(i+n,p (i+n))∈MO p i A
 | [],_,n,_,h=>by simp at h
 | m::A,i,0,cs,h=>by grind [MO]
 | m::A,i,n+1,cs,h=>by
  have a:=LJ (p:=p) (i:=i+1) (show A[n]? = some (.ptr cs) by simpa using h);rw[show i+1+n=i+(n+1) by omega]at a;cases m with
  | ptr cs=>exact O7 _ a
  | val=>exact a
  | «mut»=>exact a
def UD(φ:Nat->ah):Option (Option Nat)->ah
 | some (some t)=>φ t
 | _=>NO
theorem Fb{u:Nat->Value} : ∀{b:Nat}{cs xs a:List C},Un u b cs xs a->cs.length=a.length/\∀(j:Nat)(c o:C),cs[j]? = some c->a[j]? = some o->∃y,(eX c=true->xs[j]? = some y)/\WM (u (b+j)) c y o
 | _,[],xs,a,h=>by grind [Un]
 | _,_::_,[],_,h=>by grind [Un]
 | _,_::_,_::_,[],h=>by grind [Un]
 | b,d::cs,e::xs,f::a,h=>by
  simp only[Un]at h;obtain⟨g,i⟩:=Fb h.2
  grind
theorem PL{S' Y r:ah}{E:Nat->Value}{cs xs t:List C}{off:Nat}(g:bq S w w1)(l:∀b o,S b o->S' b o)(h:cy w S Y cs u)(h':cy w1 S' r xs E)(F:Un u 0 cs (xs.drop off) t):cy w1 S' r t u:=by
 obtain⟨f,G,O,P⟩:=h;obtain⟨A,n,H,J⟩:=h';obtain⟨Q,K⟩:=Fb F;refine⟨λj b o=>off+j<xs.length/\A (off+j) b o,λj c B=>?_,ψ,ψ⟩;have L:=(Y3.1 B).1;have i:cs[j]? = some cs[j]:=ψ
 obtain⟨y,k,a⟩:=K j _ c i B;rw[z9]at a;have d:=G j _ i;generalize cs[j]=p at i a d k;have keep:eX p=false->c=p->ef w1 S' (λb o=>off+j<xs.length/\A (off+j) b o) c (u j):=λM e=>by
  subst e;exact((d.bare (F':=NO) M).keep g (λ_ _ h=>h.elim)).mono l (λ_ _ h=>h.elim)
 cases p with
 | v R=>exact keep rfl a
 | x=>exact keep rfl a
 | z=>exact keep rfl a
 | m T=>exact a.elim
 | it=>exact a.elim
 | s o D=>
  cases o with
  | O=>exact keep rfl a
  | tag z=>exact a.elim
  | own=>
   have k:=k rfl;rw[List.getElem?_drop]at k;have N:=(Y3.1 k).1;simp only[WM]at a;split at a
   case h_2=>exact a.elim
   rename_i U q;obtain⟨rfl,rfl⟩:=a;obtain⟨V,W⟩:=(n _ _ k).untag
   simp_all
theorem bg.backs{C:World}{S':ah}{u:Nat->Nat->Value}(h:bg w0 M S0 N S' φ F a C)(d:bq S w C)(f:∀b o,S b o->S' b o):∀{A:List MA}{g:List (Nat × Nat)}{B:List MA}{vs:List Value}{V:Nat->ah}{i:Nat},P4 w S V A vs->
  (∀j v,vs[j]? = some v->u (i+j)=celF v)->(∀j v cs,vs[j]? = some v->A[j]? = some (.ptr cs)->tvs a (i+j)=v)->jl u F i A g B->BM C S' (λn=>UD φ (GA i A g)[n]?) B vs
 | [],g,B,vs,V,i,l,r,t,c=>by
  cases vs with
  | cons _ _=>exact l.elim
  | nil=>cases B with
   | nil=>trivial
   | cons _ _=>grind [jl]
 | m::A,[],B,vs,V,i,l,r,t,c=>by grind [jl]
 | m::A,p::g,[],vs,V,i,l,r,t,c=>by grind [jl]
 | m::A,p::g,D::B,[],V,i,l,r,t,c=>l.elim
 | m::A,p::g,D::B,v::vs,V,i,l,r,t,c=>by
  have next:jl u F (i+1) A g B->BM C S' (λn=>UD φ (GA (i+1) A g)[n]?) B vs:=λc=>
   bg.backs h d f l.2 (λj v T=>by rw[show i+1+j=i+(j+1) by omega];simp_all)
    (λj v cs T X=>by rw[show i+1+j=i+(j+1) by omega];simp_all) c
  cases m with
  | val U cs=>
   cases D with
   | val y W=>simp only[jl]at c;exact⟨trivial,next c⟩
   | ptr=>grind [jl]
   | «mut»=>grind [jl]
  | «mut» U cs=>
   cases D with
   | val=>grind [jl]
   | ptr=>grind [jl]
   | «mut» y out=>
    simp only[jl]at c;obtain⟨⟨rfl,e⟩,G⟩:=c;refine⟨?_,next G⟩;have E:=bw.celF (show bw w S (V 0) y cs v from l.1);have H:u i=celF v:=r 0 v (by simp);have q:=h.slot p.1;cases J:F p.1 with
    | F k xs=>
     rw[J]at e q;simp only at e;rw[H]at e;obtain⟨O,Y,P,K,Q,R,L⟩:=q;refine⟨by grind [Fb],celF v,E.2.1,?_⟩;exact(PL d f E.2.2 L e).mono (λ_ _ h=>h) (λb o c=>by simpa[GA,UD] using K b o c)
    | _=>grind
  | ptr cs=>
   cases D with
   | val=>grind [jl]
   | «mut»=>grind [jl]
   | ptr out=>
    simp only[jl]at c;refine⟨?_,next c.2⟩;have E:tvs a i=v:=t 0 v cs (by simp) (by simp);have q:=h.slot i;cases J:F i with
    | F k xs=>
     cases k with
     | box=>
      rw[J]at c q;have:=c.1;simp only at this;subst this;rw[E]at q;obtain⟨O,Y,P,K,Q,R,L⟩:=q;exact⟨O,Y,λb o c=>by simpa[GA,UD] using P b o c,λb o c=>by simpa[GA,UD] using K b o c,Q,R,L⟩
     | _=>grind
    | _=>grind
theorem vX:∀{l:List (Option Nat)},Lz l=true->∀(i a t c:Nat),i≠a->l[i]? = some (some t)->l[a]? = some (some c)->t≠c
 | [],_,i,a,t,c,_,h,_=>by simp at h
 | none::l,b,i,a,t,c,f,h,d=>by
  cases i with
  | zero=>simp at h
  | succ i=>cases a with
   | zero=>simp at d
   | succ a=>exact vX (l:=l) b i a t c ω (by simpa using h) (by simpa using d)
 | some g::l,b,i,a,t,c,f,h,d=>by
  simp only[Lz,I0]at b;have k:∀(n s:Nat),l[n]? = some (some s)->g≠s:=λn s j e=>by
   have:=I5.1 b.1 _ (I3 j)
   simp_all
  cases i with
  | zero=>
   grind
  | succ i=>cases a with
   | zero=>grind
   | succ a=>exact vX b.2 i a t c ω (by simpa using h) (by simpa using d)
theorem zE:∀{l:List (Option Nat)}{i t:Nat},l[i]? = some (some t)->t∈sles l
 | [],i,t,h=>by simp at h
 | none::l,i,t,h=>by
  cases i with
  | zero=>simp at h
  | succ i=>exact zE (l:=l) (i:=i) (by simpa using h)
 | some a::l,i,t,h=>by
  cases i with
  | zero=>grind [sles]
  | succ i=>exact O7 _ (zE (l:=l) (i:=i) (by simpa using h))
theorem zY{φ:Nat->ah}{x:Option (Option Nat)}{b o:Nat}(h:UD φ x b o):∃t,x=some (some t)/\φ t b o:=by
 match x,h with
 | some (some t),h=>exact⟨t,rfl,h⟩
 | some none,h=>exact h.elim
 | none,h=>exact h.elim
theorem NL{f : Nat}{y : Func}{c : Code}{sh : Bool}{A B : List MA}{k : Kd}{rcs : List C}{mo : List (Nat × List Nat)}{n : Nat}(O : List (Nat × Nat))(hTE : ∀t i, TE t = some i -> i7 P t i)(hf : P.funcs[f]? = some y)(hn : (y.name == "runtime.NumGoroutine") = false)(d:y.body=some c){ck:Nat->Array Oper->Bool}{D:fm->Nat->Array Oper->((Nat->AV)->Prop)->(Nat->AV)->Prop}(hD:∀N,yu P N ck (D N))(hc:gJ ck c=true)(hN:A.length+(y.ntmps - A.length)=n)(hok:Lz (GA 0 A O)=true)(hsh:sh=true\/gk rcs)(hp:∀(u:Nat->Nat->Value)(p:Nat->Value),aw P TE ⟨n,MO p 0 A,mo⟩ (D ⟨n,MO p 0 A,mo⟩) c (UR TE y.results.toList k rcs u A B O) (lay (Ae u 0 A))):aR P f sh A B k rcs:=by
 refine⟨⟨y,hf,hn,by rw[d];rfl⟩,λw S V E hS hV hVd hA=>?_⟩;have hlen:=Ga hA;refine calls_of_wp hf d ?_
 let u:Nat->Nat->Value:=λi=>celF (E.getD i undef)
 let p:Nat->Value:=λi=>E.getD i undef
 have htv:∀t v,E[t]? = some v->tvs {tmps:=E.toArray++Array.replicate (y.ntmps - E.toArray.size) undef,defers:=[]} t=v:=λt v r=>by
  have Q:=(Y3.1 r).1;simp only[tvs,t9]
  grind
 have hst:St w (λb o=>∃i,V i b o) S ⟨n,MO p 0 A,mo⟩ (lay (Ae u 0 A)) {tmps:=E.toArray++Array.replicate (y.ntmps - E.toArray.size) undef,defers:=[]} w:=by
  refine⟨S,V,λt=>?_,hVd,ψ,ψ,λ_ _ h=>h,ψ,CZ _ _,by simp;omega,rfl,λq hq=>?_⟩
  ·rcases De (u:=u) 0 hA t with J|⟨m,v,-,r,h2',K,U⟩
   ·rw[J];trivial
   rw[K];rw[Nat.sub_zero]at r U;rw[htv t v r];have hu:u t=celF v:=ψ
   cases m with
   | val M G=>exact(bw.mono (show bw w S NO M G v from U) (λ_ _ h=>h) (λ_ _ h=>h.elim)).slot
   | «mut» M G=>
    obtain⟨e1,e2,e3⟩:=bw.celF (show bw w S (V t) M G v from U);refine bw.slot ⟨by grind [qM],celF v,e2,?_⟩
    grind [cy.tag]
   | ptr G=>exact U
  obtain⟨-,J,r⟩:=Ma hq
  grind
 refine jq hTE (hD _) c hc _ _ _ _ w (hp u p) hst λe F' W l he hs'=>?_
 obtain⟨S',φ',h⟩:=hs';have fin:resA TE F' y.results.toList (sles (GA 0 A O)) (λsh G=>bj (gK sh) k G rcs (jl u F' 0 A O B))->W.defers=[]/\∃v,(results y W.tmps).run P l=.ok v l/\(∃v',Ending.returned v=.returned v'/\bC (λb o=>∃i,V i b o) w l/\∃(X:ah)(Z:Nat->ah)(S1:ah),
     (∀b o,X b o->(∃i,V i b o)\/(b<l.heap.size/\w.heap.size<=b))/\(∀i b o,Z i b o->(∃i,V i b o)\/(b<l.heap.size/\w.heap.size<=b))/\
     (∀b o,S1 b o->(sh=true/\S b o)\/(∃i,V i b o)\/(b<l.heap.size/\w.heap.size<=b))/\
     (∀i i',i≠i'->∀b o,Z i b o->¬Z i' b o)/\(∀i b o,X b o->¬Z i b o)/\(∀b o,X b o->¬S1 b o)/\(∀i b o,Z i b o->¬S1 b o)/\
     fL l NO k rcs.length v'/\cy l S1 X rcs (bZ l k v')/\BM l (λb o=>S b o\/S1 b o) Z B E):=by
  intro hr;obtain⟨shs,G,a,u',hfin,hrun,L,hln,hL,hcells,H,hrow⟩:=h.resA hTE hr;obtain⟨rfl,rfl,R⟩:=hfin.out;refine⟨h.defers,?_⟩;have T:(results y W.tmps).run P l=.ok (if h:a.toArray.size=1 then a.toArray[0] else .tuple a.toArray) l:=by
   have e:results y W.tmps=(do let E <-y.results.mapM (D7 W.tmps);pure (if h:E.size=1 then E[0] else .tuple E)):=by
    unfold results
    congr 1
   rw[e,<-Array.toArray_toList (xs:=y.results),List.mapM_toArray]
   simp_all
  have hex:∀t b o,φ' t b o->(∃i,V i b o)\/(b<l.heap.size/\w.heap.size<=b):=λt b o d=>(h.ex t b o d).2.elim (λh'=>.inr ⟨(h.ex t b o d).1,h'⟩) .inl
  have hsameS:bq S w l:=λb o d=>by
   have Q:=hS b o d;exact⟨h.old.cel b o Q ψ,h.old.fro b o Q ψ⟩
  have hm:=h.backs (u:=u) hsameS h.sub hA ψ (λj v G hj hc=>by
    have:=h.par _ (LJ (p:=p) (i:=0) hc)
    grind) R
  refine⟨_,T,_,rfl,h.old,λb o=>∃t,t∉sles (GA 0 A O)/\φ' t b o,λi=>UD φ' (GA 0 A O)[i]?,λb o=>(sh=true/\S' b o)\/(S' b o/\((∃i,V i b o)\/w.heap.size<=b)),ψ,λi b o d=>?_,λb o d=>?_,λi i' hne b o d g=>?_,λi b o ⟨t,ht,d⟩ g=>?_,λb o ⟨t,_,d⟩ g=>h.disS t b o d ψ,λi b o d g=>?_,?_⟩
  ·grind [zY]
  ·rcases d with⟨J,r⟩|⟨J,r⟩
   ·rcases(h.sup b o r).2 with K|K|K
    ·grind
    ·exact .inr (.inr ⟨(h.sup b o r).1,K⟩)
    grind
   rcases r with r|r
   ·grind
   exact .inr (.inr ⟨(h.sup b o J).1,r⟩)
  ·obtain⟨t,e1,d⟩:=zY d
   obtain⟨t',e2,g⟩:=zY g;exact h.dis t t' (vX hok i i' t t' hne e1 e2) b o d g
  ·obtain⟨t',e2,g⟩:=zY g
   exact h.dis t t' (λe=>ht (by grind [zE])) b o d g
  ·obtain⟨t,-,d⟩:=zY d
   exact h.disS t b o d ψ
  have hk:fL l NO (gK shs) G.length (if h:a.toArray.size=1 then a.toArray[0] else .tuple a.toArray)/\cy l S' (λb o=>∃t,t∉sles (GA 0 A O)/\φ' t b o) G (bZ l (gK shs) (if h:a.toArray.size=1 then a.toArray[0] else .tuple a.toArray)):=by
   match shs,L,H,hL with
   | [],L,_,hL=>
    cases a with
    | cons _ _=>exact L.elim
    | nil=>
     have:G=[]:=ψ
     subst this;exact⟨⟨_,rfl,trivial,rfl⟩,cy.nil _ _ _ _⟩
   | [M],_,H,_=>
    obtain⟨v,rfl,hv⟩:=H M rfl;have:=hv.slot (F:=F') (tv:=tvs W);obtain⟨X1,Y,J,r,K,U,h5⟩:=this;refine⟨?_,h5.mono (λ_ _ h=>h) r⟩;cases M<;>exact U
   | M::ag2::sh,L,_,hL=>
    have hsz:¬a.toArray.size=1:=by
     match a,L with
     | [],L=>simp
     | [v],L=>cases M<;>cases ag2<;>exact L.2.elim
     | _::_::_,_=>simp
    rw[dif_neg hsz];refine⟨⟨_,rfl,L,hL⟩,hrow.congr λj hj=>?_⟩;simp only[bZ,gK,m7,hcells];simp[List.getD,hj]
  refine⟨hk.1,?_,hm.mono λb o d=>?_⟩
  ·rcases hsh with J|J
   ·exact hk.2.mono ψ (λ_ _ h=>h)
   exact(hk.2.fresh J).mono (λ_ _ h=>h.elim) (λ_ _ h=>h)
  rcases(h.sup b o d).2 with K|K|K
  all_goals grind
 cases e with
 | normal=>exact fin he
 | ret=>exact fin he
 | _=>exact he.elim
end
abbrev I(z:Int):C:=.v (.int .i64 z)
abbrev B(b:Bool):C:=.v (.bool b)
def rI(_:dY)(z:Int):List C:=[I z]
def rB(_:dY)(b:Bool):List C:=[B b]
def zt(z:Int):gk (rI .own z):=⟨trivial,trivial⟩
def Ho(b:Bool):gk (rB .own b):=⟨trivial,trivial⟩
def oh(z:Int):Prop:=-9223372036854775808<=z/\z<=9223372036854775807
def WE(_:Bool):Prop:=True
def k5(s:Nat)(left:Int):Int:=if(s:Int)<=left then left - s else -1
def td : Tryz.prog.follows .mixedOrders=true:=by kernel_rfl
variable{tb: List (Nat × Nat × List Nat)}{rcs: List C}{A: List RA}{mo: List (Nat × List Nat)}{f: Nat}
def Wb{a : Func}{c : Code}{sh : Bool}(d : Tryz.prog.funcs[f]? = some a)(e : (a.name == "runtime.NumGoroutine") = false)(g : a.body = some c)(h : gJ (pb tb) c = true)(i:A.length+(a.ntmps - A.length)=n)(b:sh=true\/gk rcs)(j:aw Tryz.prog TE ⟨n,[],mo⟩ (DF Tryz.prog TE ⟨n,[],mo⟩ tb) c (TT TE a.results.toList k rcs) (lay (EC 0 A))):zzA f sh A k rcs:=
 MR od d e g (tI od td ⟨n,[],mo⟩ tb) h i rfl b j
def VY{a : Func}{c : Code}{sh : Bool}{A B : List MA}(b : List (Nat × Nat))(g : Tryz.prog.funcs[f]? = some a)(h : (a.name == "runtime.NumGoroutine") = false)(i : a.body = some c)(j : gJ (pb tb) c = true)(l:A.length+(a.ntmps - A.length)=n)(d:Lz (GA 0 A b)=true)(e:sh=true\/gk rcs)(o:∀(u:Nat->Nat->Value)(p:Nat->Value),aw Tryz.prog TE ⟨n,MO p 0 A,mo⟩ (DF Tryz.prog TE ⟨n,MO p 0 A,mo⟩ tb) c (UR TE a.results.toList k rcs u A B b) (lay (Ae u 0 A))):zzB f sh A B k rcs:=
 NL b od g h i (λN=>tI od td N tb) j l d e o
theorem gV{x:Int}(a : -9223372036854775808<=x)(b:x<=9223372036854775807):IntKind.i64.wrap x=x:=IntWalk.i64_in x ω
def R0:RA->RA->Prop
 | .val ag cs,.val ag' cs'=>ag=ag'/\cs=cs'
 | .ptr cs,.ptr cs'=>cs=cs'
 | A,a=>A=a
theorem R0.eq{A a:RA}(h:R0 A a):A=a:=by
 unfold R0 at h
 grind
def DB:List RA->List RA->Prop
 | [],[]=>True
 | A::As,B::Bs=>R0 A B/\DB As Bs
 | _,_=>False
theorem DB.eq:∀{A a:List RA},DB A a->A=a
 | [],[],_=>rfl
 | A::As,B::Bs,h=>by rw[R0.eq h.1,DB.eq h.2]
 | [],_::_,h=>h.elim
 | _::_,[],h=>h.elim
theorem Cl.eq{b:Bool}{a:List RA}{K:AV->Prop}(h:am P f false a k rcs)(c:DB A a)(d:K (.F k rcs)):Cl P f b A K:=by grind [DB.eq,CA]
def CJ:type_of% @Cl.eq:=@Cl.eq
def v8{b:Nat}(h:n<=1048576)(a:b<=1000):n*b<=140737488355328:=Y6 (Nat.mul_le_mul h a) (by decide)
theorem Cl.sz{b:Bool}{K:AV->Prop}{s:Nat}{L:Int}(h:am P f false A .one [I (k5 s L)])(a:L<s->K (.F .one [I (-1)]))(c:(s:Int)<=L->K (.F .one [I (L - s)])):Cl P f b A K:=by grind [CA,k5]
def CV:type_of% @Cl.sz:=@Cl.sz
theorem Bf.NB{a b:Bool}{X Y:Prop}(c:a≠b->X)(d:a=b->Y):Bf (a != b) X Y:=by grind [Bf.P]
theorem Rw.one{off k j:Nat}{K:List C->Nat->Prop}{o:dY}{rows:List (List C)}{r:List C}(c:a[off]? = some (.s o rows))(d:rows[i]? = some r)(e:r.length=k)(b:K r j):Rw a off [(i,k,j)] K:=
 Rw.mk (r:=r) (j:=j) (by grind [ch]) b
def CK:type_of% @Rw.one:=@Rw.one
theorem bo{l:List α}{r a:α}(h:l[i]? = some r):(l.set i a)[i]? = some a:=ψ
def gM(A B:List α)(i:Nat):List α:=A.take i++B.drop i
section
variable{α:Type}{A B:List α}
def cj:gM A B 0=B:=by simp[gM]
theorem cY(i:Nat)(h:A.length=B.length)(a:i=B.length):gM A B i=A:=by grind [gM]
def gR(h:A.length=B.length)(i:Nat):(gM A B i).length=B.length:=by simp[gM];omega
theorem cW(h:A.length=B.length)(i:Nat)(a:i<=B.length):(gM A B i)[i]? = B[i]?:=by grind [gM]
theorem bE(h:A.length=B.length){i:Nat}{a:α}(b:A[i]? = some a):(gM A B i).set i a=gM A B (i+1):=by
 have c:=(Y3.1 b).1;unfold gM
 grind [List.set_append_right,X7,List.drop_eq_getElem_cons]
end
def aa{β:Type}{f:α->β}{l:List α}{k:Nat}{x:α}(h:l[k]? = some x):(l.map f)[k]? = some (f x):=by simp[h]
def iP{z:α}{k:Nat}(h:k<n):(List.replicate n z)[k]? = some z:=by simp[h]
end Go.Proofs.YtiopgblagimpmaaGreat.Ab
