/- A region that draws its order may be run in the text's order, where its operations are apart. No condition. -/
import Derived.Test.YtiopgblagimpmaaGreatKyb
import Derived.Orders
import Derived.Test.YtiopgblagimpmaaGreatKya
import Derived.KernelRfl
import Derived.Test.YtiopgblagimpmaaGreatProg
set_option linter.unusedVariables false
set_option linter.defProp false
set_option linter.unusedSimpArgs false
set_option linter.constructorNameAsVariable false
namespace Go.Proofs.YtiopgblagimpmaaGreat.Ab
open Go.RowKit
def df(o:Oper)(i:Nat):Bool:=o.after.toList.any λe=>Region.binds .any e&&Nat.beq e.on i
def dv(ops:Array Oper)(i:Nat):Oper:=ops.getD i default
def below(n:Nat)(p:Nat->Bool):Bool:=(List.range n).all p
def u5(ops:Array Oper)(i j:Nat):Bool:=match(dv ops i).dst with|some d=>((dv ops j).looksAt ops).any (Nat.beq d)|none=>false
def FC:List Nat->Nat
 | []=>0
 | k::a=>2 ^ k ||| FC a
def ons(o:Oper):List Nat:=(o.after.toList.filter λe=>Region.binds .any e).map (·.on)
variable{α:Type}
def frc(n:Nat)(K:Nat->α):α:=match n with|0=>K 0|n+1=>K (n+1)
def PS(n:Nat)(K:Nat->α):frc n K=K n:=by cases n<;>rfl
def clo(ops:Array Oper):Nat->Nat->Nat
 | 0,S=>S
 | k+1,S=>bif S.testBit k then frc (S ||| FC (ons (dv ops k))) (clo ops k) else clo ops k S
def D5(ops:Array Oper)(m:Nat):Bool:=
 below ops.size λj=>((dv ops j).after.toList.all λe=>!Region.binds .any e || Nat.blt e.on j) &&
  (bif Nat.blt j m then below m (λi=>Nat.beq i j || ((df (dv ops j) i || df (dv ops i) j || (dv ops i).apart ops (dv ops j))&&(!u5 ops i j || df (dv ops j) i))) else frc (clo ops j (FC (ons (dv ops j)))) λS=>below j λi=>S.testBit i)
def zq:List (Nat × Nat × List Nat)->Nat->Option (Nat × List Nat)
 | [],_=>none
 | p::l,id=>bif Nat.beq id p.1 then some p.2 else zq l id
def gJ(P:Program)(TE:Nat->Option TI)(N:f7)(ops:Array Oper)(o:Oper)(K:(Nat->AV)->Prop)(F:Nat->AV):Prop:=
 fS F ops o.guard (λF=>match o.dst with|some d=>dm P TE F o.op λa=>bV N F d a K|none=>False)
  (λF=>match o.dst with|some d=>bV N F d (.H (.tup []) []) K|none=>False)
def od:Op->Option (Option Nat × Nat)
 | .buildSlice T 1 ps=>(match ps.toList with|[(0,.tmp s)]=>some (some T,s)|_=>none)
 | .move (.tmp s)=>some (none,s)
 | _=>none
def own1(T:Option Nat)(k:Kd)(cs:List C):Bool:=match T with
 | some _=>(match k with
   | .one=>(match cs with|[c]=>eD c|_=>false)
   | .agg=>(match cs with|[c]=>eD c|_=>false)
   | _=>false)
 | none=>(match k with|.tup _=>!bk cs|_=>false)
def Ue(TE:Nat->Option TI)(N:f7)(F:Nat->AV)(d:Nat)(T:Option Nat)(s:Nat)(K:(Nat->AV)->Prop):Prop:=match T with
 | some T=>gp TE N F d T 1 [(0,.tmp s)] K
 | none=>jr N F d (.tmp s) K
def KT(F:Nat->AV)(o:Oper):Option (Option Nat × Nat):=
 match o.guard with
 | some _=>none
 | none=>match od o.op with
  | none=>none
  | some p=>match F p.2 with
   | .H k cs=>bif own1 p.1 k cs then some p else none
   | .dead=>none
   | .ref ..=>none
   | .b9 ..=>none
   | .iref ..=>none
   | .fn ..=>none
   | .fv _=>none
def jy(ops:Array Oper)(o:Oper)(s:Nat):Bool:=
 ((List.range ops.size).any λk=>df o k&&(match(dv ops k).dst with|some a=>Nat.beq a s|none=>false))&&Nat.ble (ops.toList.filter λk=>(k.looksAt ops).any (Nat.beq s)).length 1
def qQ(ds:List Nat)(o:Oper):Bool:=match o.dst with|some d=>ds.any (Nat.beq d)|none=>false
def twk:List Nat->List Nat
 | []=>[]
 | e::l=>bif Nat.ble 1000 e then(e - 1000)::twk l else []
def dec:List Nat->List (Nat × List Nat)
 | []=>[]
 | e::l=>bif Nat.ble 1000 e then dec l else(e,twk l)::dec l
def Th:Op->Bool
 | .move (.tmp _)=>true
 | .assign _=>true
 | .extract ..=>true
 | .build ..=>true
 | .buildSlice ..=>true
 | .store ..=>true
 | .load ..=>true
 | .fieldAddr ..=>true
 | .field ..=>true
 | .binOp ..=>true
 | .unOp ..=>true
 | .call c=>(r8 c).isSome
 | .slice _ _ none (some _) none=>true
 | _=>false
def pn:Op->Bool
 | .call c=>(match c.callee with|.value (.func _)=>true|_=>false)
 | _=>false
def xR(l:List (Nat × List Nat))(i:Nat):Bool:=l.any λp=>Nat.beq p.1 i
def wz(ops:Array Oper)(j i:Nat):Bool:=(clo ops j (FC (ons (dv ops j)))).testBit i
def Us(o:Oper):Bool:=match o.guard with|none=>true|some _=>false
def UJ(sch:List (Nat × List Nat))(i:Nat):Bool:=sch.any λp=>Nat.beq p.1 i&&!p.2.isEmpty
def UC(ops:Array Oper)(a b:Oper)(nm:Bool):Bool:=match b.dst with
 | none=>false
 | some c=>Us a&&(Th a.op || pn a.op)&&!(match a.dst with|some d=>Nat.beq d c|none=>false)&&!(a.looksAt ops).any (Nat.beq c)&&Us b&&!(b.looksAt ops).any (Nat.beq c)&&(nm || match od b.op with|none=>true|some p=>!jy ops b p.2)
def AU(ops:Array Oper)(ds:List Nat)(nm:Nat->Bool)(i j:Nat):Bool:=
 bif qQ ds (dv ops j) then(bif qQ ds (dv ops i) then(df (dv ops j) i || df (dv ops i) j || (dv ops i).apart ops (dv ops j))&&(!u5 ops i j || df (dv ops j) i)&&!(match(dv ops i).dst with|some d=>(match(dv ops j).dst with|some e=>Nat.beq d e|none=>false)|none=>false) else true)
 else(bif qQ ds (dv ops i) then(wz ops j i || wz ops i j || UC ops (dv ops j) (dv ops i) (nm i))&&(!u5 ops i j || df (dv ops j) i) else true)
def Ge(ops:Array Oper)(ds:List Nat):List (Nat × List Nat)->Bool
 | []=>true
 | k::l=>Nat.blt k.1 ops.size&&!xR l k.1&&((dv ops k.1).after.toList.all λe=>!Region.binds .any e || !(Nat.beq k.1 e.on || xR l e.on)) &&
  (qQ ds (dv ops k.1) || ((l.all λj=>wz ops j.1 k.1)&&(below ops.size λp=>!qQ ds (dv ops p) || xR l p || wz ops k.1 p || k.2.any (Nat.beq p))&&(!(l.any λj=>qQ ds (dv ops j.1)) || (Us (dv ops k.1)&&(Th (dv ops k.1).op || pn (dv ops k.1).op)))))&&Ge ops ds l
def Eg(ops:Array Oper)(ds:List Nat)(sch:List (Nat × List Nat)):Bool:=
 (below ops.size λj=>((dv ops j).after.toList.all λe=>!Region.binds .any e || Nat.blt e.on j)&&xR sch j&&(!qQ ds (dv ops j) || (match od (dv ops j).op with|none=>true|some p=>!jy ops (dv ops j) p.2 || ds.any (Nat.beq p.2)))&&below ops.size λi=>Nat.beq i j || AU ops ds (UJ sch) i j)&&Nat.beq sch.length ops.size&&Ge ops ds sch
def nO(tb:List (Nat × Nat × List Nat))(id:Nat)(ops:Array Oper):Bool:=
 match zq tb id with
 | some (m,ds)=>bif Nat.ble 65536 m then true else bif Nat.ble 256 m then Eg ops (ds.take (m - 256)) (dec (ds.drop (m - 256))) else(Nat.ble m ops.size&&below m λj=>match(dv ops j).dst with|some d=>ds.any (Nat.beq d)|none=>true)&&D5 ops m
 | none=>false
def lQ(P:Program)(TE:Nat->Option TI)(N:f7)(ops:Array Oper)(o:Oper)(K:(Nat->AV)->Prop)(F:Nat->AV):Prop:=
 match KT F o with
 | some p=>(match o.dst with|some d=>bif jy ops o p.2 then Ue TE N F d p.1 p.2 K else False|none=>False)
 | none=>gJ P TE N ops o K F
def NJ(P:Program)(TE:Nat->Option TI)(N:f7)(ops:Array Oper):Nat->List Oper->((Nat->AV)->Prop)->(Nat->AV)->Prop
 | 0,l,K,F=>MF P TE N ops l K F
 | _+1,[],K,F=>K F
 | m+1,o::l,K,F=>lQ P TE N ops o (NJ P TE N ops m l K) F
def R0(ds:List Nat)(t:Nat):Bool:=ds.any (Nat.beq t)
def UQ(ds:List Nat):AV->AV
 | .ref t off st=>bif R0 ds t then .dead else .ref t off st
 | .b9 t off st ag=>bif R0 ds t then .dead else .b9 t off st ag
 | .fn f caps=>bif caps.any (R0 ds) then .dead else .fn f caps
 | .H k cs=>.H k cs
 | .iref r off=>.iref r off
 | .fv Ok=>.fv Ok
 | .dead=>.dead
def clr(ds:List Nat)(F:Nat->AV):Nat->AV:=λt=>UQ ds (F t)
theorem Dt(ds:List Nat)(F:Nat->AV)(t:Nat):clr ds F t=bif ds.any (λd=>(F t).uses d) then .dead else F t:=by
 unfold clr;cases F t with
 | dead=>cases ds.any λd=>AV.uses d .dead<;>rfl
 | H k i=>
  have:ds.any (λd=>(AV.H k i).uses d)=false:=by
   rw[<-C6,I4]
   rintro⟨d,_,h⟩
   cases h
  rw[this];rfl
 | iref r a=>
  have:ds.any (λd=>(AV.iref r a).uses d)=false:=by
   rw[<-C6,I4]
   rintro⟨d,_,h⟩
   cases h
  rw[this];rfl
 | fv Ok=>
  have:ds.any (λd=>(AV.fv Ok).uses d)=false:=by
   rw[<-C6,I4]
   rintro⟨d,_,h⟩
   cases h
  rw[this];rfl
 | ref j a l=>rfl
 | b9 j a l n=>rfl
 | fn f caps=>
  have:ds.any (λd=>(AV.fn f caps).uses d)=caps.any (R0 ds):=by
   rw[C5,I4,I4];constructor
   ·rintro⟨d,b,h⟩
    simp only[AV.uses,I4]at h;obtain⟨c,e,g⟩:=h;exact⟨c,e,I4.2 ⟨d,b,g⟩⟩
   rintro⟨c,e,h⟩
   obtain⟨d,b,g⟩:=I4.1 h
   grind [AV.uses]
  rw[this];rfl
inductive Sm(a b:AV)(K:Prop):Prop
 |mk_ (h:a=b/\K)
def Sm.rf{a:AV}{K:Prop}(h:K):Sm a a K:=.mk_ ⟨rfl,h⟩
def CC:type_of% @Sm.rf:=@Sm.rf
def Sm.out{a b:AV}{K:Prop}(h:Sm a b K):a=b/\K:=h.1
def Uw(P:Program)(TE:Nat->Option TI)(ops:Array Oper)(p:Nat)(K:Prop)(F:Nat->AV):Prop:=
 match(dv ops p).dst with
 | none=>False
 | some d=>(match KT F (dv ops p) with
   | some _=>False
   | none=>dm P TE F (dv ops p).op λa=>Sm a (F d) K)
def Pv(P:Program)(TE:Nat->Option TI)(ops:Array Oper):List Nat->Prop->(Nat->AV)->Prop
 | [],K,_=>K
 | p::l,K,F=>Uw P TE ops p (Pv P TE ops l K F) F
def Qn(P:Program)(TE:Nat->Option TI)(N:f7)(ops:Array Oper)(nm:Bool)(o:Oper)(K:(Nat->AV)->Prop)(F:Nat->AV):Prop:=
 match nm with
 | false=>lQ P TE N ops o K F
 | true=>(match KT F o with
   | some _=>False
   | none=>gJ P TE N ops o K F)
def LV(P:Program)(TE:Nat->Option TI)(N:f7)(ops:Array Oper)(ds:List Nat)(nm:Nat->Bool):List (Nat × List Nat)->((Nat->AV)->Prop)->(Nat->AV)->Prop
 | [],K,F=>K F
 | k::l,K,F=>bif qQ ds (dv ops k.1) then Qn P TE N ops (nm k.1) (dv ops k.1) (LV P TE N ops ds nm l K) F else jj P TE N ops (dv ops k.1) (λa=>Pv P TE ops k.2 (LV P TE N ops ds nm l K a) a) F
def RT:List Nat->(List Nat->Prop)->Prop
 | [],K=>K []
 | a::l,K=>RT l λb=>K (a::b)
def Kr:∀(l:List Nat)(K:List Nat->Prop),RT l K=K l
 | [],_=>rfl
 | a::l,K=>by rw[RT,Kr l]
def En(l:List Nat)(j:Nat):Bool:=l.any (Nat.beq j)
def Q2(ops:Array Oper)(done:List Nat):List Nat:=(List.range ops.size).filter λj=>!En done j&&((dv ops j).after.toList.all λe=>!Region.binds .any e || En done e.on)
def UN(p:Nat->Prop):Nat->List Nat->Prop
 | i,[]=>p i
 | i,j::l=>p i/\UN p j l
def UO(l:List Nat)(K:Prop)(p:Nat->Prop):Prop:=match l with
 | []=>K
 | i::l=>UN p i l
def TM(P:Program)(TE:Nat->Option TI)(N:f7)(ops:Array Oper)(K:(Nat->AV)->Prop):Nat->List Nat->(Nat->AV)->Prop
 | 0,done,F=>UO (Q2 ops done) (K F) λ_=>False
 | n+1,done,F=>UO (Q2 ops done) (K F) λi=>jj P TE N ops (dv ops i) (TM P TE N ops K n (i::done)) F
def DD(P:Program)(TE:Nat->Option TI)(N:f7)(tb:List (Nat × Nat × List Nat))(id:Nat)(ops:Array Oper)(K:(Nat->AV)->Prop)(F:Nat->AV):Prop:=
 match zq tb id with
 | some (m,ds)=>bif Nat.ble 65536 m then TM P TE N ops K ops.size [] F else bif Nat.ble 256 m then RT (ds.take (m - 256)) λa=>LV P TE N ops a (UJ (dec (ds.drop (m - 256)))) (dec (ds.drop (m - 256))) K (clr a F) else NJ P TE N ops m ops.toList K (clr ds F)
 | none=>False
variable{i n:Nat}
theorem gK{p:Nat->Bool}(h:below n p=true)(a:i<n):p i=true:=O4.1 h i ψ
theorem cz{o:Oper} : df o i=true↔∃e,e∈o.after/\Region.binds .any e=true/\e.on=i:=by grind [W2,Nat.beq_refl,df]
theorem bA{ops:Array Oper}{o:Oper}(h:ops[i]? = some o):dv ops i=o:=by simp[dv,S7,h]
section
variable{P:Program}{w0 w w1:World}{M S0 S:am}{N:f7}{φ:Nat->am}{F:Nat->AV}{a:Act}{TE:Nat->Option TI}{ops:Array Oper}
variable{d:Nat}
theorem B7{b:Bool}(a:F d=.H .one [.v (.bool b)]):Fi F d b=F:=by grind [W2,Fi]
theorem iD(o:Oper)(t:Nat)(h:t∈dy o.op):t∈o.looksAt ops:=by grind [Go.Oper.looksAt,dy,tm]
structure US(P:Program)(TE:Nat->Option TI)(N:f7)(ops:Array Oper)(o:Oper)(F:Nat->AV)(d:Nat)(av:AV):Prop where
 dst:o.dst=some d
 lt:N.free d=true
 self:av.uses d=false
 from_:eJ F (o.looksAt ops) av
 at_:∀F':Nat->AV,ia F F' (o.looksAt ops)->∀K':(Nat->AV)->Prop,K' (put F' d av)->gJ P TE N ops o K' F'
def ia.refl(F:Nat->AV)(ts:List Nat):ia F F ts:=λ_ _=>⟨rfl,λ_ _ _ _ h=>h⟩
theorem Cf:type_of% @ia.refl:=@ia.refl
variable{K:(Nat->AV)->Prop}{o:Oper}
theorem xZ(h:gJ P TE N ops o K F):∃d av,US P TE N ops o F d av/\K (put F d av):=by
 cases e:o.dst with
 | none=>
  exfalso;unfold gJ at h;rw[e]at h;unfold fS at h
  grind [Bf.out]
 | some d=>
  have put1:∀{a:Nat->AV}{av:AV}{c:(Nat->AV)->Prop},N.free d=true->av.uses d=false->c (put a d av)->bV N a d av c:=λA B E=>by grind [bV]
  have put2:∀{a:Nat->AV}{av:AV}{c:(Nat->AV)->Prop},bV N a d av c->N.free d=true/\av.uses d=false/\c (put a d av):=fun {a av c} n=>by grind [bV]
  have pure1:dm P TE F o.op (λav=>bV N F d av K)->∃av,N.free d=true/\av.uses d=false/\K (put F d av)/\eJ F (o.looksAt ops) av/\∀a:Nat->AV,ia F a (o.looksAt ops)->∀c:(Nat->AV)->Prop,c (put a d av)->dm P TE a o.op (λav=>bV N a d av c):=λn=>by
   obtain⟨av,A,B,E⟩:=kv n
   grind [eJ.mono,iD,ia.mono]
  unfold gJ at h;rw[e]at h;unfold fS at h;cases r:o.guard with
  | none=>
   rw[r]at h;obtain⟨av,i,k,l,w,C⟩:=pure1 h;exact⟨d,av,⟨e,i,k,w,λa f c t=>by unfold gJ fS;simp_all⟩,l⟩
  | some p=>
   obtain⟨j,want⟩:=p;rw[r]at h;simp only at h;cases y:(ops[j]?).bind (·.dst) with
   | none=>grind
   | some u=>
    rw[y]at h;simp only at h;have q:u∈o.looksAt ops:=by grind [Go.Oper.looksAt]
    split at h
    case h_3=>exact h.elim
    case h_2=>
     rename_i J L g;obtain⟨i,k,l⟩:=put2 h;refine⟨d,.H (.tup []) [],⟨e,i,k,(λd e=>by cases e),λa f c t=>?_⟩,l⟩;unfold gJ fS;rw[r,e];simp only;rw[y];simp only;rw[(f u q).1.trans g];exact put1 i k t
    rename_i b g;have same:∀{a:Nat->AV},ia F a (o.looksAt ops)->a u=.H .one [.v (.bool b)]:=λf=>(f u q).1.trans g
    have back:∀{a:Nat->AV}{c:(Nat->AV)->Prop},ia F a (o.looksAt ops)->(b=want->dm P TE a o.op (λav=>bV N a d av c))->(b = !want->bV N a d (.H (.tup []) []) c)->gJ P TE N ops o c a:=fun {a c} f A B=>by
     unfold gJ fS;rw[r,e];simp only;rw[y];simp only;rw[same f];simp only;refine Bf.P (λG=>?_) (λG=>?_)
     all_goals grind [B7]
    have D:=B7 g;replace h:=Bf.out h;by_cases H:b=want
    ·have n:dm P TE F o.op (λav=>bV N F d av K):=ψ
     obtain⟨av,i,k,l,w,C⟩:=pure1 n;exact⟨d,av,⟨e,i,k,w,λa f c t=>back f (λ_=>C a f c t) ψ⟩,l⟩
    have n:bV N F d (.H (.tup []) []) K:=ψ
    obtain⟨i,k,l⟩:=put2 n;exact⟨d,.H (.tup []) [],⟨e,i,k,(λd e=>by cases e),ψ⟩,l⟩
def aft:AV->AV
 | .H k a=>.H k (splice a 0 (List.replicate a.length .x))
 | _=>.H .one [.x]
theorem ND(v:AV)(e:Nat):(aft v).uses e=false:=by unfold aft;split<;>rfl
def eff(a:Option Nat)(d:Nat)(av:AV)(F:Nat->AV):Nat->AV:=λt=>if t=d then av else if a=some t then aft (F t) else F t
theorem Dl(av:AV)(a:∀t,(F t).uses d=false):put F d av=eff none d av F:=by grind [pX,iK,BA,eff]
variable{s:Nat}
theorem T9{v:AV}(h:v.uses s=false):ta s v=v:=by
 cases v with
 | b9 t a b c=>grind [AV.uses,ta]
 | ref t a b=>simp only[AV.uses]at h;cases b<;>simp[ta,h]
 | _=>rfl
theorem N1{k:Kd}{cs:List C}(av:AV)(a:F s=.H k cs)(c:∀t,(F t).uses d=false)(e:∀t,(F t).uses s=false):put (updH F s k (splice cs 0 (List.replicate cs.length .x))) d av=eff (some s) d av F:=by
 funext t
 unfold eff;by_cases h:t=d
 ·grind [pX]
 rw[iK _ _ h,CB h];by_cases b:t=s
 ·subst b;rw[iI,CD rfl,a];rfl
 grind [Nat.beq_eq,T9,BA,updH]
theorem Ji{T:Nat}{k:Kd}{c:C}(o:k=.one\/k=.agg)(p:F s=.H k [c])(q:eD c=true)(h:gp TE N F d T 1 [(0,.tmp s)] K) :
  ∃av,N.free d=true/\(∀e,av.uses e=false)/\K (put (updH F s k [.x]) d av)/\∀(F':Nat->AV)(b:(Nat->AV)->Prop),F' s=.H k [c]->b (put (updH F' s k [.x]) d av)->gp TE N F' d T 1 [(0,.tmp s)] b:=by
 have key:∀F':Nat->AV,F' s=.H k [c]->∀b:(Nat->AV)->Prop,gp TE N F' d T 1 [(0,.tmp s)] b=HV TE T λ_ a=>bif Nat.ble (1*a.size) 16777216 then(bif Nat.beq 1 a.size&&Nat.ble (0*a.size+a.size) (rep a.zero 1).length then bV N (updH F' s k [.x]) d (.H .one [.s .own (chunk a.size 1 (splice (rep a.zero 1) (0*a.size) [c]))]) b else False) else False:=by
  intro F' f b;unfold gp
  congr 1
  funext e a
  rcases o with rfl|rfl<;>simp only[dr,fillW,UM,vU,nG,f,iB,bk,q,cond_true,cond_false,gM,pR,List.length_singleton,List.replicate]
  all_goals rfl
 rw[key F p]at h;obtain⟨e,a,g,n⟩:=i9 h;cases i:Nat.ble (1*a.size) 16777216 with
 | false=>grind
 | true=>
  cases j:(Nat.beq 1 a.size&&Nat.ble (0*a.size+a.size) (rep a.zero 1).length) with
  | false=>grind
  | true=>
   rw[i,j]at g;simp only[cond_true]at g;unfold bV at g;cases l:N.free d with
   | false=>grind
   | true=>
    rw[l]at g;refine⟨_,rfl,λ_=>rfl,g,λF' b f r=>?_⟩
    grind [bV]
variable{T:Option Nat}
theorem Tv{k:Kd}{cs:List C}(j:F s=.H k cs)(l:own1 T k cs=true)(h:Ue TE N F d T s K) :
  ∃av,N.free d=true/\(∀e,av.uses e=false)/\K (put (updH F s k (splice cs 0 (List.replicate cs.length .x))) d av)/\∀(F':Nat->AV)(a:(Nat->AV)->Prop),F' s=.H k cs->a (put (updH F' s k (splice cs 0 (List.replicate cs.length .x))) d av)->Ue TE N F' d T s a:=by
 cases T with
 | some T=>
  have f:(k=.one\/k=.agg)/\∃c,cs=[c]/\eD c=true:=by
   unfold own1 at l
   grind
  obtain⟨n,c,rfl,o⟩:=f;exact Ji n j o h
 | none=>
  have f:∃b,k=.tup b/\bk cs=false:=by
   unfold own1 at l
   grind
  obtain⟨b,rfl,p⟩:=f;have key:∀F':Nat->AV,F' s=.H (.tup b) cs->∀a,Ue TE N F' d none s a=bV N (updH F' s (.tup b) (splice cs 0 (List.replicate cs.length .x))) d (.H (.tup b) cs) a:=λF' g a=>by grind [Ue,jr]
  rw[key F j]at h;unfold bV at h;cases i:N.free d with
  | false=>grind
  | true=>
   rw[i]at h;refine⟨_,rfl,λ_=>rfl,h,λF' a g q=>?_⟩
   grind [bV]
structure Yl(P:Program)(TE:Nat->Option TI)(N:f7)(ops:Array Oper)(o:Oper)(F:Nat->AV)(mv:Option Nat)(d:Nat)(av:AV):Prop where
 dst:o.dst=some d
 lt:N.free d=true
 self:av.uses d=false
 from_:eJ F (o.looksAt ops) av
 mvl:∀s,mv=some s->o.guard=none/\(∃T,od o.op=some (T,s))/\jy ops o s=true
 at_:∀F':Nat->AV,ia F F' (o.looksAt ops)->(∀t,(F' t).uses d=false)->(∀s,mv=some s->∀t,(F' t).uses s=false)->∀K':(Nat->AV)->Prop,K' (eff mv d av F')->lQ P TE N ops o K' F'
theorem KQ{o:Op}(h:od o=some (T,s)):(∃a ps,T=some a/\o=.buildSlice a 1 ps/\ps.toList=[(0,.tmp s)])\/(T=none/\o=.move (.tmp s)):=by
 unfold od at h
 grind
theorem dd(h:od o.op=some (T,s)):s∈o.looksAt ops:=by
 refine iD o s ?_;unfold dy;refine List.mem_flatMap.2 ⟨.tmp s,?_,by simp[tm]⟩
 grind [KQ,Go.Op.operands]
theorem Fy{p:Option Nat × Nat}(h:KT F o=some p):o.guard=none/\od o.op=some p/\∃k cs,F p.2=.H k cs/\own1 p.1 k cs=true:=by grind [KT]
theorem wL{F':Nat->AV}(a:ia F F' (o.looksAt ops)):KT F' o=KT F o:=by
 unfold KT;cases c:o.guard with
 | some _=>rfl
 | none=>
  cases b:od o.op with
  | none=>rfl
  | some p=>simp only;rw[(a p.2 (dd b)).1]
theorem tX(c:KT F o=none)(h:gJ P TE N ops o K F)(e:∀d,o.dst=some d->∀t,(F t).uses d=false):∃d av,Yl P TE N ops o F none d av/\K (eff none d av F):=by
 obtain⟨d,av,a,f⟩:=xZ h;refine⟨d,av,⟨a.dst,a.lt,a.self,a.from_,ψ,λg i j _ k b=>?_⟩,by grind [Dl,US.dst]⟩
 grind [wL,US.at_,Dl,lQ]
theorem qt(h:lQ P TE N ops o K F)(E:∀d,o.dst=some d->∀t,(F t).uses d=false)(y:∀T s,o.guard=none->od o.op=some (T,s)->jy ops o s=true->∀t,(F t).uses s=false) :
  ∃r d av,Yl P TE N ops o F r d av/\K (eff r d av F):=by
 unfold lQ at h;cases f:KT F o with
 | none=>
  grind [tX]
 | some p=>
  rw[f]at h;obtain⟨G,a,k,H,g,b⟩:=Fy f;simp only at h;cases i:o.dst with
  | none=>grind
  | some d=>
   rw[i]at h;simp only at h;cases c:jy ops o p.2 with
   | false=>grind
   | true=>
    rw[c]at h;simp only[cond_true]at h;obtain⟨av,A,u,J,B⟩:=Tv g b h;refine⟨some p.2,d,av,⟨i,A,u d,λe w=>(by rw[u e]at w;cases w),λs y=>?_,λC j l n D q=>?_⟩,?_⟩
    ·grind
    ·unfold lQ
     rw[wL j,f];simp only;rw[i];simp only;rw[c];refine B C D ((j p.2 (dd a)).1.trans g) ?_;rw[N1 av ((j p.2 (dd a)).1.trans g) l (n p.2 rfl)];exact q
    grind [N1]
theorem LI{nm:Bool}(h:Qn P TE N ops nm o K F)(b:∀d,o.dst=some d->∀t,(F t).uses d=false)(c:∀T s,o.guard=none->od o.op=some (T,s)->jy ops o s=true->∀t,(F t).uses s=false) :
  ∃a d av,Yl P TE N ops o F a d av/\K (eff a d av F)/\(nm=true->a=none):=by
 unfold Qn at h
 grind [qt,tX]
end
section
variable{P:Program}{w0 w w1:World}{M S0 S:am}{N:f7}{φ:Nat->am}{F:Nat->AV}{a:Act}{TE:Nat->Option TI}{ops:Array Oper}
def xX(P:Program)(TE:Nat->Option TI)(N:f7)(ops:Array Oper)(m i:Nat)(K:(Nat->AV)->Prop)(F:Nat->AV):Prop:=
 match ops[i]? with
 | none=>K F
 | some o=>if i<m then lQ P TE N ops o K F else jj P TE N ops o K F
def Jc(P:Program)(TE:Nat->Option TI)(N:f7)(ops:Array Oper)(m:Nat)(K:(Nat->AV)->Prop):Nat->Array Bool->(Nat->AV)->Prop
 | 0,listed,F=>Region.ready .any ops listed=[]/\K F
 | fuel+1,listed,F=>(Region.ready .any ops listed=[]->K F)/\∀i,i∈Region.ready .any ops listed->xX P TE N ops m i (Jc P TE N ops m K fuel (listed.setIfInBounds i true)) F
variable{Q:Exit->Act->World->Prop}{Kc:Act->World->Prop}{K:(Nat->AV)->Prop}{o:Oper}
theorem bg.oneP0(h:bg w0 M S0 N S φ F a w)(c:∀t i,TE t=some i->ib P t i)(b:gJ P TE N ops o K F)(p:∀F' j e,K F'->St w0 M S0 N F' j e->Kc j e) :
  if Region.wanted o (yielded ops a.tmps) then o.wp P a w Kc Q else Kc (a.put o.dst undef) w:=by
 unfold gJ at b;rcases xT h b with⟨f,b⟩|⟨f,b⟩
 ·rw[f,CD rfl]
  cases g:o.dst with
  | none=>grind
  | some d=>
   rw[g]at b;obtain⟨av,k,l⟩:=h.pure_ c b;refine l Kc Q λv e q=>?_
   grind [bg.putD_new]
 rw[f,CB (by simp)];cases g:o.dst with
 | none=>grind
 | some d=>
  rw[g]at b;obtain⟨F',k,n⟩:=h.putD_new (v:=undef) (mh.same (av:=.H (.tup []) []) P5) b
  grind
variable{d:Nat}
def LA{p:Option Nat × Nat}(f:KT F o=some p)(c:o.dst=some d)(h:Ue TE N F d p.1 p.2 K):jj P TE N ops o K F:=by
 obtain⟨e,a,-⟩:=Fy f;obtain⟨T,s⟩:=p;rcases KQ a with⟨i,j,rfl,b,g⟩|⟨rfl,b⟩
 ·unfold jj fS
  rw[e];simp only;rw[b];simp only[B2];rw[c];simp only[kI,g];exact h
 unfold jj fS;rw[e];simp only;rw[b];simp only[B2];rw[c];simp only[kI];exact h
theorem bg.oneP(h:bg w0 M S0 N S φ F a w)(c:∀t i,TE t=some i->ib P t i)(b:lQ P TE N ops o K F)(g:∀F' j k,K F'->St w0 M S0 N F' j k->Kc j k) :
  if Region.wanted o (yielded ops a.tmps) then o.wp P a w Kc Q else Kc (a.put o.dst undef) w:=by
 unfold lQ at b;cases e:KT F o with
 | none=>rw[e]at b;exact h.oneP0 c b g
 | some p=>
  rw[e]at b;simp only at b;cases l:o.dst with
  | none=>grind
  | some d=>
   rw[l]at b;simp only at b;cases f:jy ops o p.2 with
   | false=>grind
   | true=>
    rw[f]at b;have:=h.one c (LA (P:=P) (ops:=ops) e l b) (Q:=Q) g
    grind
variable{m i:Nat}
theorem HA(c:∀t i,TE t=some i->ib P t i)(b:xX P TE N ops m i K F)(g:St w0 M S0 N F a w)(d:∀F' e f,K F'->St w0 M S0 N F' e f->Kc e f):wpOp P ops Q i Kc a w:=by
 unfold xX at b;unfold wpOp;cases j:ops[i]? with
 | none=>grind
 | some o=>
  rw[j]at b;simp only at b |-;obtain⟨S,φ,h⟩:=g;have:if Region.wanted o (yielded ops a.tmps) then o.wp P a w Kc Q else Kc (a.put o.dst undef) w:=by
   split at b
   ·exact h.oneP c b d
   exact h.one c b d
  grind
def B4(b:∀t i,TE t=some i->ib P t i){m:Nat}{K:(Nat->AV)->Prop}{Q:Exit->Act->World->Prop}(g:∀F' d e,K F'->St w0 M S0 N F' d e->Q .normal d e) :
  ∀(fuel:Nat)(listed:Array Bool)(F:Nat->AV)(a:Act)(w:World),Jc P TE N ops m K fuel listed F->St w0 M S0 N F a w->wpAny P .any ops Q fuel listed a w
 | 0,_,F,a,w,c,f=>⟨c.1,g F a w c.2 f⟩
 | fuel+1,_,F,a,w,c,f=>⟨λj=>g F a w (c.1 j) f,λi k=>HA b (c.2 i k) f λF' d e l h=>B4 b g fuel _ F' d e l h⟩
structure Bh(ops:Array Oper)(m:Nat)(F:Nat->AV)(listed:Array Bool):Prop where
 dst:∀j o d,j<m->ops[j]? = some o->listed.getD j true=false->o.dst=some d->∀t,(F t).uses d=false
 mv:∀j o T s,j<m->ops[j]? = some o->listed.getD j true=false->o.guard=none->od o.op=some (T,s)->jy ops o s=true->∀t,(F t).uses s=false
def DC(ops:Array Oper)(listed:Array Bool):Prop:=∀j a,ops[j]? = some a->listed.getD j false=true->∀k,df a k=true->listed.getD k false=true
variable{e:Nat}
theorem RM{v:AV}(h:(kl d v).uses e=true):v.uses e=true/\v.uses d=false:=by
 rw[BA]at h;cases a:v.uses d with
 | true=>rw[a]at h;cases h
 | false=>grind
theorem xq{α:Type}{p:α->Bool} : ∀{l:List α}{i j:Nat}{x y:α},(l.filter p).length<=1->l[i]? = some x->l[j]? = some y->p x=true->p y=true->i=j
 | [],_,_,_,_,_,h,_,_,_=>by simp at h
 | a::l,0,0,_,_,_,_,_,_,_=>rfl
 | a::l,i+1,j+1,x,y,h,b,c,d,e=>by
  rw[xq (l:=l) (I5 (List.Sublist.length_le ((List.sublist_cons_self a l).filter p)) h) b c d e]
 | a::l,0,j+1,x,y,h,b,c,d,e=>by
  simp only[List.getElem?_cons_zero,C1]at b;subst b;rw[List.filter_cons_of_pos d]at h;have:y∈l.filter p:=Z4.2 ⟨O2 c,e⟩;have:=List.length_pos_of_mem this;rw[List.length_cons]at h;omega
 | a::l,i+1,0,x,y,h,b,c,d,e=>by
  simp only[List.getElem?_cons_zero,C1]at c;subst c;rw[List.filter_cons_of_pos e]at h;have:x∈l.filter p:=Z4.2 ⟨O2 b,d⟩;have:=List.length_pos_of_mem this;rw[List.length_cons]at h;omega
variable{j:Nat}{listed:Array Bool}
theorem iH{a:Nat}(b:(listed.setIfInBounds j true).getD a true=false):a≠j:=λe=>by simp_all
variable{av:AV}{t:Nat}
theorem kx{a:Option Nat}(b:av.uses e=false)(c:(F t).uses e=false):(eff a d av F t).uses e=false:=by grind [ND,eff]
theorem Bh.put{o:Option Nat}(h:Bh ops m F listed)(p:∀a b g,a<m->a≠j->ops[a]? = some b->listed.getD a true=false->b.dst=some g->av.uses g=false)(q:∀a b T s,a<m->a≠j->ops[a]? = some b->listed.getD a true=false->b.guard=none->od b.op=some (T,s)->jy ops b s=true->av.uses s=false) :
  Bh ops m (eff o d av F) (listed.setIfInBounds j true):=by
 refine⟨λa b g i c e k t=>?_,λa b T s i c e r l n t=>?_⟩
 ·have f:=iH e
  rw[getD_set_ne true (Ne.symm f)]at e;exact kx ψ (h.dst a b g i c e k t)
 have f:=iH e;rw[getD_set_ne true (Ne.symm f)]at e;exact kx ψ (h.mv a b T s i c e r l n t)
inductive oX(ops:Array Oper):Nat->Nat->Prop
 |one {j i:Nat} (h:df (dv ops j) i=true):oX ops j i
 |step {j k i:Nat} (h:df (dv ops j) k=true) (h2:oX ops k i):oX ops j i
def oX.trans{k:Nat}(h:oX ops j k)(a:oX ops k i):oX ops j i:=by
 induction h with
 | one h=>exact .step h a
 | step h _ b=>exact .step h (b a)
theorem Fz{i:Nat} : ∀{a:List Nat},(FC a).testBit i=true->i∈a
 | [],h=>by simp[FC]at h
 | k::a,h=>by
  rw[FC,Nat.testBit_or,C7]at h;rcases h with h|h
  ·grind
  exact Z5 _ (Fz h)
theorem yw(h:(FC (ons o)).testBit i=true):df o i=true:=by
 have:=Fz h
 grind [cz,ons]
def uf{j:Nat} : ∀(k S:Nat),(∀i,S.testBit i=true->oX ops j i)->∀i,(clo ops k S).testBit i=true->oX ops j i
 | 0,_,h,i,a=>h i a
 | k+1,S,h,i,a=>by
  rw[clo,PS]at a;cases c:S.testBit k with
  | false=>rw[c]at a;exact uf k S h i a
  | true=>
   rw[c]at a;refine uf k _ (λe b=>?_) i a;rw[Nat.testBit_or,C7]at b;rcases b with d|d
   ·exact h e d
   exact(h k c).trans (.one (yw d))
theorem o8(d:DC ops listed)(b:∀j n,ops[j]? = some n->∀e∈n.after,Region.binds .any e=true->e.on<j)(o:oX ops j i):j<ops.size->(∀k,df (dv ops j) k=true->listed.getD k false=true)->listed.getD i false=true:=by
 induction o with
 | one h=>grind
 | @step j k i h h2 ih=>
  intro f p;have r:k<j:=by
   have c:=(show ops[j]? = some ops[j] from I7 f)
   rw[bA c]at h;obtain⟨e,g,l,rfl⟩:=cz.1 h;exact b j _ c e g l
  have a:k<ops.size:=ω
  have c:=(show ops[k]? = some ops[k] from I7 a)
  exact ih a λq a=>d k _ c (p k h) q (by rw[bA c]at a;exact a)
theorem DC.put(h:DC ops listed)(d:j∈Region.ready .any ops listed):DC ops (listed.setIfInBounds j true):=by
 obtain⟨l,n,f,b⟩:=mem_ready.1 d;intro k ok g c e i;by_cases a:k=j
 ·grind [cz,Go.getD_set_true]
 rw[getD_set_ne false (Ne.symm a)]at c;exact getD_set_true (h k ok g c e i)
theorem gu{s:Nat}(h:jy ops o s=true):(∃k ok,df o k=true/\ops[k]? = some ok/\ok.dst=some s)/\∀(i j:Nat)(a b:Oper),ops[i]? = some a->ops[j]? = some b->s∈a.looksAt ops->s∈b.looksAt ops->i=j:=by
 unfold jy at h;rw[I0]at h;obtain⟨q,c⟩:=h;constructor
 ·grind [bA,W2]
 intro i j a b d e f g;have l:=O1 c;have n:ops.toList[i]? = some a:=by simpa using d
 have p:ops.toList[j]? = some b:=by simpa using e
 grind [Nat.beq_refl,xq]
structure TF(ops:Array Oper)(m:Nat):Prop where
 back:∀j oj,ops[j]? = some oj->∀e∈oj.after,Region.binds .any e=true->e.on<j
 tail:∀j,m<=j->j<ops.size->∀i,i<j->oX ops j i
 apart:∀i j oi oj,i<m->j<m->i≠j->ops[i]? = some oi->ops[j]? = some oj->df oj i=true\/df oi j=true\/oi.apart ops oj=true
 look:∀i j oi oj d,i<m->j<m->i≠j->ops[i]? = some oi->ops[j]? = some oj->oi.dst=some d->d∈oj.looksAt ops->df oj i=true
theorem Gf(h:D5 ops m=true):TF ops m:=by
 have o:∀j b,ops[j]? = some b->_:=λj b a=>gK h (t4.1 a).1
 refine⟨λj b a e t p=>?_,λj u a i f=>?_,λi j q b f a g r k=>?_,λi j q b d f a g r k w y=>?_⟩
 ·grind [bA,Nat.blt_eq]
 ·have l:=(show ops[j]? = some ops[j] from I7 a)
  have:=o j _ l;simp only[I0]at this;have c:=this.2;rw[show Nat.blt j m=false by rw[<-C6,Nat.blt_eq];omega]at c;simp only[cond_false,PS]at c;exact uf j _ (λA n=>.one (yw n)) i (gK c f)
 ·grind [bA,Nat.blt_eq,gK,Nat.beq_eq]
 have:=o j b k;rw[bA k]at this;simp only[I0]at this;have c:=this.2;rw[show Nat.blt j m=true by simpa[Nat.blt_eq] using a]at c
 grind [gK,bA,Nat.beq_eq,u5]
theorem Lr(V:TF ops m){c:Oper}{u:Option Nat}(R:ops[i]? = some c)(w:i<m) :
  ∀(fuel:Nat)(listed:Array Bool)(F:Nat->AV),i∈Region.ready .any ops listed->Bh ops m F listed->DC ops listed->Yl P TE N ops c F u d av->Jc P TE N ops m K fuel (listed.setIfInBounds i true) (eff u d av F)->Jc P TE N ops m K (fuel+1) listed F:=by
 have self:∀(listed:Array Bool)(F:Nat->AV),i∈Region.ready .any ops listed->Bh ops m F listed->Yl P TE N ops c F u d av->∀S:(Nat->AV)->Prop,S (eff u d av F)->lQ P TE N ops c S F:=λlisted F W a g S hK=>by
  have b:=(mem_ready.1 W).1;refine g.at_ F (Cf _ _) (a.dst i c d w R b g.dst) (λs X=>?_) S hK;obtain⟨A,⟨T,h2⟩,h3⟩:=g.mvl s X;exact a.mv i c T s w R b A h2 h3
 intro fuel
 induction fuel with
 | zero=>
  intro listed F W a E g H;refine⟨ψ,λj Y=>?_⟩;by_cases n:j=i
  ·grind [xX]
  have:=ready_mono Y n;rw[H.1]at this;cases this
 | succ fuel ih=>
  intro listed F W a E g H;refine⟨ψ,λj Y=>?_⟩;by_cases n:j=i
  ·grind [xX]
  have A:=H.2 j (ready_mono Y n);obtain⟨B,f,o,hall⟩:=mem_ready.1 Y;have b:=(mem_ready.1 W).1;have unl:∀k,listed.getD k true=false->listed.getD k false=true->False:=ψ
  have noedge:∀k ok,ops[k]? = some ok->listed.getD k true=false->df f k=false:=λk ok hk Z=>by grind [cz]
  have noedge':∀k ok,ops[k]? = some ok->listed.getD k true=false->df c k=false:=λk ok hk Z=>by grind [cz,Go.mem_ready]
  have G:j<m:=by
   rcases Nat.lt_or_ge j m with h|h
   ·exact h
   have C:=(t4.1 o).1;refine(unl i b (o8 E V.back (V.tail j h C i ω) C λk hk=>?_)).elim
   grind [bA,cz]
  have hap:c.apart ops f=true:=by grind [TF.apart]
  obtain⟨ap1,ap2,ap3⟩:=Oper.apart_spec hap;unfold xX at A |-;rw[o]at A |-;simp only[CD G]at A |-;have hdl:d∉f.looksAt ops:=ap1 d g.dst;have cd:∀t,(F t).uses d=false:=a.dst i c d w R b g.dst
  have cdj':∀l,f.dst=some l->∀t,(F t).uses l=false:=λl J=>a.dst j f l G o B J
  have cmv:∀s,u=some s->(∀t,(F t).uses s=false)/\s∉f.looksAt ops/\s∈c.looksAt ops:=λs X=>by
   obtain⟨L,⟨T,q⟩,r⟩:=g.mvl s X;exact⟨a.mv i c T s w R b L q r,λhl=>n ((gu r).2 i j c f R o (dd q) hl).symm,dd q⟩
  have cmvj:∀T s,f.guard=none->od f.op=some (T,s)->jy ops f s=true->(∀t,(F t).uses s=false)/\s∉c.looksAt ops/\s∈f.looksAt ops:=λT s L q r=>
   ⟨a.mv j f T s G o B L q r,λhl=>n ((gu r).2 i j c f R o hl (dd q)).symm,dd q⟩
  have avno:∀e,e∉c.looksAt ops->(∀t,(F t).uses e=false)->av.uses e=false:=λe A h2=>by
   cases hu:av.uses e with
   | false=>rfl
   | true=>
    rcases g.from_ e hu with h|⟨t,_,h⟩
    all_goals grind
  obtain⟨mvj,l,avj,p,hKj⟩:=qt A (λl J t=>kx ψ (cdj' l J t)) (λT s L q r t=>by grind [kx]);have hdne:d≠l:=λe=>ap2 d g.dst (by rw[p.dst,e])
  have hdjl:l∉c.looksAt ops:=ap3 l p.dst;have cdj:∀t,(F t).uses l=false:=cdj' l p.dst
  have cmj:∀s,mvj=some s->(∀t,(F t).uses s=false)/\s∉c.looksAt ops/\s∈f.looksAt ops:=λs X=>by
   obtain⟨L,⟨T,q⟩,r⟩:=p.mvl s X
   grind
  have lookj:∀t,t∈f.looksAt ops->eff u d av F t=F t:=λt U=>by grind [eff]
  have looki:∀t,t∈c.looksAt ops->eff mvj l avj F t=F t:=λt U=>by grind [eff]
  have avjno:∀e,e∉f.looksAt ops->(∀t,(F t).uses e=false)->avj.uses e=false:=λe A h2=>by
   cases hu:avj.uses e with
   | false=>rfl
   | true=>
    rcases p.from_ e hu with h|⟨t,U,h⟩
    all_goals grind
  have agrj:ia (eff u d av F) F (f.looksAt ops):=λt U=>by grind [eff]
  refine p.at_ F agrj cdj ψ _ (ih (listed.setIfInBounds j true) (eff mvj l avj F) (ready_mono W (Ne.symm n)) (a.put (λj' o' d' M D y O Q=>?_) (λj' o' T s M D y O L q r=>?_)) (E.put Y) ?_ ?_)
  ·refine avjno d' (λh=>?_) (a.dst j' o' d' M y O Q)
   grind [TF.look]
  ·exact avjno s (λh=>D ((gu r).2 j' j o' f y o (dd q) h)) (a.mv j' o' T s M y O L q r)
  ·refine⟨g.dst,g.lt,g.self,λe he=>?_,g.mvl,λF' hA Q hs' S hK=>g.at_ F' (λt U=>?_) Q hs' S hK⟩
   ·rcases g.from_ e he with h|⟨t,U,h⟩
    all_goals grind
   obtain⟨a1,a2⟩:=hA t U
   grind [eff]
  rw[Array.setIfInBounds_comm _ _ n];have:eff u d av (eff mvj l avj F)=eff mvj l avj (eff u d av F):=by grind [eff]
  grind
theorem jE{o:Op}{K a:AV->Prop}(h:dm P TE F o K)(b:∀av,K av->a av):dm P TE F o a:=by
 obtain⟨av,c,-,d⟩:=kv h
 grind [Cf]
theorem bu{a:(Nat->AV)->Prop}(h:bV N F d av K)(b:∀F',K F'->a F'):bV N F d av a:=by grind [bV]
variable{y:Operand}
theorem fw{K b:(Nat->AV)->Option Nat->List C->Prop}(h:gM F y K)(g:∀F' ag cs,K F' ag cs->b F' ag cs):gM F y b:=by
 cases y with
 | tmp t=>
  simp only[gM]at h |-;cases d:F t with
  | H k cs=>
   grind
  | b9 e f c ag=>
   rw[d]at h;cases c with
   | cons s c=>
    simp only at h |-;cases a:F e with
    | H k cs=>
     rw[a]at h;obtain⟨r,j,i,l,n,o⟩:=Lq.out h;exact .mk_ ψ
    | _=>grind
   | nil=>
    grind
  | _=>grind
 | _=>exact h.elim
variable{x:Operand}
theorem AS{K a:AV->Prop}(h:bE F x K)(b:∀av,K av->a av):bE F x a:=by
 obtain⟨av,c,-,d⟩:=kC h
 grind [Cf]
theorem GN{a:(Nat->AV)->Prop}(h:kX N F d x K)(j:∀F',K F'->a F'):kX N F d x a:=by
 have i:∀y,bE F y (λb=>bV N F d b K)->bE F y (λb=>bV N F d b a):=λy h=>AS h λb h=>bu h j
 have k:∀y,gM F y (λF' c e=>bV N F' d (.H (me c) e) K)->gM F y (λF' c e=>bV N F' d (.H (me c) e) a):=λy h=>fw h λF' c e h=>bu h j
 cases x with
 | tmp t=>
  grind [kX]
 | const v=>exact i (.const v) h
 | global g=>exact i (.global g) h
 | func f=>exact i (.func f) h
theorem Po{a:(Nat->AV)->Prop}(h:D1 N F d x K)(b:∀F',K F'->a F'):D1 N F d x a:=by grind [bu,GN,D1,Kh]
variable{b:(Nat->AV)->Prop}
theorem Bg{cs:List C}(h:rv F x cs K)(d:∀F',K F'->b F'):rv F x cs b:=by
 cases x with
 | tmp t=>
  simp only[rv]at h |-;cases e:F t with
  | H k f=>
   grind [dr]
  | ref g i c=>
   rw[e]at h;cases c with
   | cons s c=>
    simp only at h |-;cases a:F g with
    | H k f=>
     rw[a]at h;obtain⟨r,j,l,n,o,p⟩:=Pu.out h;exact Pu.mk l n o rfl (d _ p)
    | _=>grind
   | nil=>
    grind [dr]
  | _=>grind
 | _=>exact h.elim
variable{T:Nat}
theorem yf{a:(Nat->AV)->Prop}(h:mY TE F T x y K)(b:∀F',K F'->a F'):mY TE F T x y a:=by
 unfold mY at h |-;split at h
 all_goals grind [cB,Cf,Bg,fw]
theorem JG{g:Option (Nat × Bool)}{a K1' K0':(Nat->AV)->Prop}(h:fS F ops g a b)(h1:∀F,a F->K1' F)(c:∀F,b F->K0' F):fS F ops g K1' K0':=by
 unfold fS at h |-;split at h
 ·exact h1 _ h
 rename_i j want;split at h
 all_goals grind [Bf.out,Bf.in_]
theorem vp{K a:(Nat->AV)->Option Nat->List C->Prop}(h:vU F x K)(c:∀F' ag cs,K F' ag cs->a F' ag cs):vU F x a:=by
 obtain⟨ag,cs,d,b⟩:=cB h;refine b F (Cf _ _) _ ?_
 grind [fw]
theorem jC{c:Nat->Option (Nat × Nat)} : ∀{parts:List (Nat × Operand)}{cs:List C}{K a:(Nat->AV)->List C->Prop}{F:Nat->AV},fillW c parts cs K F->(∀F' cs,K F' cs->a F' cs)->fillW c parts cs a F
 | [],cs,K,a,F,h,b=>b _ _ h
 | p::rest,cs,K,a,F,h,b=>by
  simp only[fillW]at h |-;split at h
  case h_2=>exact h.elim
  rename_i q e;refine vp h λF' f xs h=>?_
  cases d:(Nat.beq xs.length q.2&&Nat.ble (q.1+q.2) cs.length) with
  | false=>grind
  | true=>
   rw[d]at h;simp only[cond_true,dr]at h |-;exact jC h b
variable{parts:List (Nat × Operand)}
theorem EQ{a:(Nat->AV)->Prop}(h:kS TE N F d T parts K)(b:∀F',K F'->a F'):kS TE N F d T parts a:=by grind [jC,bu,kS]
theorem D2{n:Nat}{a:(Nat->AV)->Prop}(h:gp TE N F d T n parts K)(c:∀F',K F'->a F'):gp TE N F d T n parts a:=by
 obtain⟨e,f,h,b⟩:=i9 h;refine b _ ?_
 grind [bu,dr,jC,pR]
theorem FO{K a:Bool->(Nat->AV)->List (List C)->Prop}(h:Eb F y K)(c:∀b F' xr,K b F' xr->a b F' xr):Eb F y a:=by
 unfold Eb at h |-;split at h
 all_goals grind [fw,cB,Cf]
theorem Be{K a:(Nat->AV)->List (List C)->Prop}(h:Bx F x K)(c:∀F' xr,K F' xr->a F' xr):Bx F x a:=by
 obtain⟨d,e,f,b⟩:=cB h;refine b F (Cf _ _) _ ?_
 grind [fw]
theorem LM{a:(Nat->AV)->Prop}(h:Bd TE N F d T x y K)(f:∀F',K F'->a F'):Bd TE N F d T x y a:=by
 obtain⟨e,p,h,g⟩:=i9 h;refine g _ (FO h λb F' q h=>Be h λF'' c h=>?_);obtain⟨i,j,k,l,n,o⟩:=h.out;exact CU i j k l n rfl (bu o f)
theorem FX{a:(Nat->AV)->Prop}(h:qA TE N F d T x K)(b:∀F',K F'->a F'):qA TE N F d T x a:=by
 unfold qA at h |-;split at h
 all_goals grind [fw,bu]
theorem Jt(h:jr N F d x K)(c:∀F',K F'->b F'):jr N F d x b:=by
 have std:∀{y:Operand},bE F y (λa=>bV N F d a K)->bE F y (λa=>bV N F d a b):=λh=>AS h λa h=>bu h c
 cases x with
 | tmp t=>
  simp only[jr]at h |-
  grind [bu]
 | const v=>grind [jr]
 | global g=>grind [jr]
 | func f=>grind [jr]
theorem J1{a:(Nat->AV)->Prop}(h:uC N F d x K)(b:∀F',K F'->a F'):uC N F d x a:=by
 unfold uC at h |-;split at h
 case h_2=>exact h.elim
 split at h
 all_goals grind [Nt.out,Nt.mk,bu]
theorem FH{a:(Nat->AV)->Prop}(h:ql N F d x K)(b:∀F',K F'->a F'):ql N F d x a:=by
 unfold ql at h |-
 grind [bu]
variable{c:(Nat->AV)->Prop}
theorem P9{b:Operand}(h:Gt TE N F d T x b K)(f:∀F',K F'->c F'):Gt TE N F d T x b c:=by
 unfold Gt at h |-;obtain⟨e,q,h,a⟩:=i9 h;refine a _ ?_;obtain⟨n,g,i⟩:=nM h;refine i F (Cf _ _) _ (fw g λF' r t h=>?_);split at h
 case h_2=>exact h.elim
 obtain⟨m,y,j,k,l,o,p,h⟩:=h.out;exact .mk_ ⟨m,y,j,k,l,o,p,_,rfl,bu h f⟩
theorem F5{b:Op}{e:(Nat->AV)->Prop}(h:kI P TE N d b K F)(a:∀F',K F'->e F'):kI P TE N d b e F:=by
 cases b with
 | assign x=>exact Po h a
 | box T x=>grind [vp,bu,kI,NC]
 | build T g=>exact EQ h a
 | buildSlice T n g=>exact D2 h a
 | range T x=>exact FX h a
 | move x=>exact Jt h a
 | next x str=>
  cases str with
  | true=>exact h.elim
  | false=>exact J1 h a
 | entry x=>exact FH h a
 | call c=>
  grind [jE,bu,LM,kI]
 | slice T x i f j=>
  cases i with
  | some _=>grind [jE,bu,kI]
  | none=>
   cases f with
   | none=>grind [jE,bu,kI]
   | some f=>
    cases j with
    | some _=>grind [jE,bu,kI]
    | none=>
     grind [jE,bu,P9,kI]
 | _=>grind [jE,bu,kI]
theorem f9{off n:Nat}{st:cI}{K a:(Nat->AV)->List C->Prop}(h:lendAt F t off st n K)(b:∀F' cs,K F' cs->a F' cs):lendAt F t off st n a:=by
 unfold lendAt at h |-;split at h
 case h_2=>exact h.elim
 split at h
 ·grind [dr]
 obtain⟨r,j,c,d,e,f⟩:=Lq.out h;refine .mk_ ?_
 grind
theorem cy:∀{xs:List (Operand × Nat)}{K a:(Nat->AV)->List (MA × rJ)->Prop}{F:Nat->AV},lendP xs K F->(∀F' l,K F' l->a F' l)->lendP xs a F
 | [],K,a,F,h,b=>b _ _ h
 | (x,0)::xs,K,a,F,h,b=>cy (xs:=xs) h ψ
 | (x,1)::xs,K,a,F,h,b=>by
  simp only[lendP]at h |-;split at h
  case h_2=>exact h.elim
  split at h
  ·exact f9 h λF' c h=>cy h ψ
  ·exact f9 h λF' c h=>cy h ψ
  ·exact f9 h λF' c h=>cy h ψ
  exact h.elim
 | (x,n+2)::xs,K,a,F,h,b=>by
  simp only[lendP]at h |-;split at h
  case h_2=>exact h.elim
  split at h
  ·split at h
   ·exact cy h ψ
   exact h.elim
  ·exact cy h ψ
  exact h.elim
theorem jN:∀{l:List (MA × rJ)}{xs:List Operand}{K a:Bool->List MA->Prop},valsP F l xs K->(∀b A,K b A->a b A)->valsP F l xs a
 | [],[],K,a,h,c=>c _ _ h
 | (m,.no)::l,x::xs,K,a,h,c=>by
  obtain⟨f,g,d,e⟩:=cB h;refine e F (Cf _ _) _ (jN d λb A h=>?_)
  grind
 | (m,.at_ t off st)::l,x::xs,K,a,h,c=>jN (l:=l) (xs:=xs) h ψ
 | (m,.box t)::l,x::xs,K,a,h,c=>jN (l:=l) (xs:=xs) h ψ
 | [],_::_,K,a,h,c=>h.elim
 | (m,.no)::l,[],K,a,h,c=>h.elim
 | (m,.at_ t off st)::l,[],K,a,h,c=>h.elim
 | (m,.box t)::l,[],K,a,h,c=>h.elim
theorem dw{K b:(Nat->AV)->Prop}(a:∀F',K F'->b F'):∀{l:List (MA × rJ)}{B:List MA}{F:Nat->AV},hC l B K F->hC l B b F
 | [],[],F,h=>a _ h
 | [],_::_,F,h=>h.elim
 | (m,.no)::l,[],F,h=>h.elim
 | (m,.at_ t off st)::l,[],F,h=>h.elim
 | (m,.box t)::l,[],F,h=>h.elim
 | (m,.no)::l,.val _ _::B,F,h=>dw a (l:=l) (B:=B) h
 | (m,.no)::l,.mut _ _::B,F,h=>dw a (l:=l) (B:=B) h
 | (m,.no)::l,.ptr _::B,F,h=>dw a (l:=l) (B:=B) h
 | (m,.at_ t off st)::l,.val _ _::B,F,h=>h.elim
 | (m,.at_ t off st)::l,.ptr _::B,F,h=>h.elim
 | (m,.box t)::l,.val _ _::B,F,h=>h.elim
 | (m,.box t)::l,.mut _ _::B,F,h=>h.elim
 | (m,.at_ t off st)::l,.mut ag out::B,F,h=>by
  simp only[hC]at h |-;split at h
  case h_2=>exact h.elim
  split at h
  ·rename_i k c _ _
   cases d:Nat.ble (off+out.length) c.length with
   | false=>grind
   | true=>
    rw[d]at h;simp only[cond_true,dr]at h |-;exact dw a h
  obtain⟨r,j,e,f,g,i⟩:=Pu.out h;exact Pu.mk e f g rfl (dw a i)
 | (m,.box t)::l,.ptr out::B,F,h=>by
  simp only[hC]at h |-;split at h
  ·exact dw a h
  exact h.elim
variable{modes:List Nat}{args:List Operand}{f:Nat}
theorem Jl{d:Option Nat}{a:(Nat->AV)->Prop}(h:lT P N F d f args modes K)(j:∀F',K F'->a F'):lT P N F d f args modes a:=by
 unfold lT at h |-;refine cy h λF' l h=>?_
 cases c:(vM l&&Nat.beq args.length modes.length) with
 | false=>grind
 | true=>
  rw[c]at h;refine jN h λb A h=>?_
  obtain⟨n,B,k,rcs,e,g,i⟩:=co.out h;refine CL e g (dw (λF'' h=>?_) i)
  grind [bu]
theorem ly{F:Nat->AV}{K a:Nat->Nat->Prop}(h:zE F x K)(b:∀t o,K t o->a t o):zE F x a:=by grind [sQ,zE]
theorem LK{d:Option Nat}{cs:List C}{c a b:Nat}{f:(Nat->AV)->Prop}{k:Kd}{rcs:List C}{B:List MA}(h:xL N F d t cs c a e b K k rcs B)(l:∀F',K F'->f F'):xL N F d t cs c a e b f k rcs B:=by
 unfold xL at h |-;split at h
 case h_2=>exact h.elim
 rename_i g i;cases j:(Nat.beq g.length a&&Nat.beq i.length b) with
 | false=>grind
 | true=>
  rw[j]at h;simp only[cond_true,dr]at h |-
  grind [bu]
theorem Je{d:Option Nat}{a b:Nat}(h:kF P N F d f args a b K)(e:∀F',K F'->c F'):kF P N F d f args a b c:=by
 unfold kF at h |-;split at h
 case h_2=>exact h.elim
 refine ly h λt g h=>ly h λi j h=>?_
 split at h
 all_goals grind [dr,co.out,CL,LK]
theorem sj{d:Option Nat}{a:(Nat->AV)->Prop}(h:kG P N F d f args modes K)(b:∀F',K F'->a F'):kG P N F d f args modes a:=by grind [Je,Jl,kG]
theorem FI{off:Nat}{z:Int}{v:Value}{a:(Nat->AV)->Prop}(h:putMap F t off z v K)(f:∀F',K F'->a F'):putMap F t off z v a:=by
 unfold putMap at h |-;cases b:F t with
 | H k d=>
  rw[b]at h;simp only at h |-;cases e:d[off]? with
  | none=>grind
  | some c=>
   rw[e]at h;cases c with
   | m g=>
    simp only at h |-;have:=h.out;refine Mu.mk rfl ?_
    grind [dr]
   | _=>exact h.elim
 | _=>grind
theorem vX{v:Operand}(h:nZ TE F T x y v K)(f:∀F',K F'->b F'):nZ TE F T x y v b:=by
 unfold nZ at h |-;split at h
 case h_2=>exact h.elim
 obtain⟨z,c,d⟩:=je h;refine d F (Cf F _) _ ?_;obtain⟨g,a,e⟩:=je c;refine e F (Cf F _) _ ?_;split at a
 case h_2=>exact a.elim
 split at a
 all_goals grind [FI]
theorem kE{a:(Nat->AV)->Prop}(h:jj P TE N ops o K F)(c:∀F',K F'->a F'):jj P TE N ops o a F:=by
 unfold jj at h |-;refine JG h (λF h=>?_) (λF h=>?_)
 ·split at h
  ·rename_i p _
   have lt:sY P N F o.dst p.1 p.2.1 p.2.2 K->sY P N F o.dst p.1 p.2.1 p.2.2 a:=λh=>sj h λF' h=>by grind [oC]
   cases b:Qj N o.op with
   | false=>grind
   | true=>
    rw[b]at h;rcases h with h|h
    ·refine .pl ?_
     grind [yf,vX,F5,kJ]
    exact .lt (lt h)
  grind [yf,vX,F5]
 grind [bu]
theorem DY{m:Nat}(a:TF ops m){K:(Nat->AV)->Prop}(hm:m<=ops.size):∀(l:List Oper)(k:Nat)(listed:Array Bool)(F:Nat->AV),(∀j,l[j]? = ops[k+j]?)->listed.size=ops.size->(∀j,j<ops.size->listed.getD j true=decide (j<k))->Bh ops m F listed->DC ops listed->
  NJ P TE N ops (m - k) l K F->Jc P TE N ops m K l.length listed F
 | [],k,listed,F,C,L,b,_,_,i=>by
  have D:ops.size<=k:=by
   rcases Nat.lt_or_ge k ops.size with h|h
   ·have:=C 0;simp[h]at this
   exact h
  refine⟨?_,?_⟩
  ·apply List.eq_nil_iff_forall_not_mem.2
   grind [Go.mem_ready]
  cases M:m - k with
  | zero=>rw[M]at i;exact i
  | succ x=>omega
 | o::l,k,listed,F,C,L,b,c,n,i=>by
  have w:ops[k]? = some o:=by simpa using (C 0).symm
  have D:=(t4.1 w).1;have hready:k∈Region.ready .any ops listed:=mem_ready.2 ⟨by rw[b k D];simp,o,w,λe he hb=>by grind [TF.back]⟩;have A:∀j,l[j]? = ops[k+1+j]?:=λj=>by have:=C (j+1);grind
  have r:∀j,j<ops.size->(listed.setIfInBounds k true).getD j true=decide (j<k+1):=λj O=>by
   by_cases y:j=k
   ·simp_all
   rw[getD_set_ne true (Ne.symm y),b j O]
   grind
  show Jc P TE N ops m K (l.length+1) listed F;by_cases f:k<m
  ·have e1:m - k=(m - (k+1))+1:=ω
   rw[e1]at i;obtain⟨mv,d,av,Q,i⟩:=qt (show lQ P TE N ops o (NJ P TE N ops (m - (k+1)) l K) F from i) (λd hd=>c.dst k o d f w (by rw[b k D];simp) hd) (λT s R S U=>c.mv k o T s f w (by rw[b k D];simp) R S U);refine Lr a w f l.length listed F hready c n Q (DY a hm l (k+1) _ _ A (by simpa using L) r (c.put (λE G H p u q hl'' B=>?_) (λE G T s p u q hl'' R S U=>?_)) (n.put hready) i)
   ·cases V:av.uses H with
    | false=>rfl
    | true=>
     rcases Q.from_ H V with h|⟨t,_,h⟩
     ·have:=a.look E k G o H p f u q w B h
      grind [cz,TF.back]
     rw[c.dst E G H p q hl'' B t]at h;cases h
   cases V:av.uses s with
   | false=>rfl
   | true=>
    rcases Q.from_ s V with h|⟨t,_,h⟩
    ·grind [gu,dd]
    rw[c.mv E G T s p q hl'' R S U t]at h;cases h
  refine⟨ψ,λj O=>?_⟩;have y:j=k:=by
   obtain⟨h1,oj,W,hall⟩:=mem_ready.1 O;have g:=(t4.1 W).1;rw[b j g]at h1;simp at h1;rcases Nat.lt_or_ge k j with X|hge
   ·exfalso
    have h2:=o8 n a.back (a.tail j ω g k X) g λk' hk'=>by grind [bA,cz]
    grind
   omega
  subst y;unfold xX;rw[w];simp only[CB f];have e0:m - j=0:=ω
  rw[e0]at i;have hp':jj P TE N ops o (MF P TE N ops l K) F:=i;have Y:∀J,MF P TE N ops l K J->Jc P TE N ops m K l.length (listed.setIfInBounds j true) J:=λJ Z=>
   DY a hm l (j+1) _ J A (by simpa using L) r ⟨ψ,ψ⟩ (n.put hready) (by rw[show m - (j+1)=0 by omega];cases l<;>exact Z)
  grind [kE]
theorem St.clr(h:St w0 M S0 N F a w)(ds:List Nat):St w0 M S0 N (Ab.clr ds F) a w:=by
 obtain⟨S,φ,h⟩:=h;refine⟨S,φ,λt=>?_,h.dis,h.disS,h.ex,h.sub,h.sup,h.old,h.size,h.defers,h.par⟩;rw[Dt];cases b:ds.any (λd=>(F t).uses d) with
 | true=>trivial
 | false=>
  simp only[cond_false];refine(h.slot t).keep (φ:=φ) (λt _ _ _=>h.slot t) (λc _=>⟨λk e f=>?_,rfl,λ_ _ _=>⟨rfl,rfl⟩⟩) (λ_ _ _=>⟨rfl,rfl⟩) (λ_ _ _=>⟨rfl,rfl⟩) (λ_ _ h=>h) (λ_ _ h=>h)
  grind [Dt,AV.uses]
theorem D0(g:∀t i,TE t=some i->ib P t i)(E:P.follows .mixedOrders=true){id:Nat}{ds:List Nat}(b:((Nat.ble m ops.size&&below m λj=>match(dv ops j).dst with|some d=>ds.any (Nat.beq d)|none=>true)&&D5 ops m)=true)(G:NJ P TE N ops m ops.toList K (Ab.clr ds F))(H:St w0 M S0 N F a w)(J:∀F' u y,K F'->St w0 M S0 N F' u y->Q .normal u y):(Code.region id ops true).wp P Q a w:=by
 simp only[I0]at b;obtain⟨⟨A,L⟩,b⟩:=b;have c:m<=ops.size:=by simp_all
 refine wp_region_any E ?_;have l:St w0 M S0 N (Ab.clr ds F) a {w with drawn:=w.drawn+1}:=by
  have O:=H.clr ds;obtain⟨S,φ,h⟩:=O;exact⟨S,φ,h.more (w1:={w with drawn:=w.drawn+1}) (λ_ _ h=>h) ψ ⟨rfl,rfl,rfl,W3 _,λ_ _ _=>rfl,λ_ _ _ _=>rfl,λ_ _ _ _=>rfl⟩⟩
 refine B4 g (m:=m) J ops.size (Array.replicate ops.size false) _ a _ ?_ l;have R:∀d,ds.any (Nat.beq d)=true->∀t,(Ab.clr ds F t).uses d=false:=λd U t=>by
  rw[Dt];cases Z:ds.any (λd=>(F t).uses d) with
  | true=>rfl
  | false=>
   simp_all
 have B:∀j o d,j<m->ops[j]? = some o->o.dst=some d->ds.any (Nat.beq d)=true:=λj o d f C U=>by grind [gK,bA]
 have D:=Gf b;have:=DY (P:=P) (TE:=TE) (N:=N) D (K:=K) c ops.toList 0 (Array.replicate ops.size false) (Ab.clr ds F) (by simp) (by simp) (λj f=>by simp[f]) ⟨ψ,λj o T s f C _ _ _ V t=>by
   obtain⟨k,ok,n,W,X⟩:=(gu V).1;obtain⟨e,p,q,rfl⟩:=cz.1 n;have:=D.back j o C e p q
   grind⟩ (λj oj f Y=>by
   have r:=(t4.1 f).1;simp[r]at Y) G
 simpa using this
end
section
variable{P:Program}{w0 w w1:World}{M S0 S:am}{N:f7}{φ:Nat->am}{F:Nat->AV}{a:Act}{TE:Nat->Option TI}{ops:Array Oper}{ds:List Nat}{nm:Nat->Bool}
def TQ(P:Program)(TE:Nat->Option TI)(ops:Array Oper)(p:Nat)(F:Nat->AV):Prop:=∃d,(dv ops p).dst=some d/\KT F (dv ops p)=none/\dm P TE F (dv ops p).op λa=>a=F d
def wa(P:Program)(TE:Nat->Option TI)(N:f7)(ops:Array Oper)(ds:List Nat)(listed:Array Bool)(i:Nat)(K:(Nat->AV)->Prop)(F:Nat->AV):Prop:=
 match ops[i]? with
 | none=>K F
 | some o=>if qQ ds o=true then lQ P TE N ops o K F else jj P TE N ops o (λa=>(∀p,listed.getD p false=true->qQ ds (dv ops p)=true->wz ops i p=false->TQ P TE ops p a)/\K a) F
def FU(P:Program)(TE:Nat->Option TI)(N:f7)(ops:Array Oper)(ds:List Nat)(K:(Nat->AV)->Prop):Nat->Array Bool->(Nat->AV)->Prop
 | 0,listed,F=>Region.ready .any ops listed=[]/\K F
 | fuel+1,listed,F=>(Region.ready .any ops listed=[]->K F)/\∀i,i∈Region.ready .any ops listed->wa P TE N ops ds listed i (FU P TE N ops ds K fuel (listed.setIfInBounds i true)) F
variable{Q:Exit->Act->World->Prop}{K:(Nat->AV)->Prop}{i:Nat}{listed:Array Bool}
theorem Fe(c:∀t i,TE t=some i->ib P t i)(b:wa P TE N ops ds listed i K F)(g:St w0 M S0 N F a w){Kc:Act->World->Prop}(d:∀F' e f,K F'->St w0 M S0 N F' e f->Kc e f):wpOp P ops Q i Kc a w:=by
 unfold wa at b;unfold wpOp;cases j:ops[i]? with
 | none=>grind
 | some o=>
  rw[j]at b;simp only at b |-;obtain⟨S,φ,h⟩:=g;have:if Region.wanted o (yielded ops a.tmps) then o.wp P a w Kc Q else Kc (a.put o.dst undef) w:=by
   split at b
   ·exact h.oneP c b d
   exact h.one c (kE b λF' h=>h.2) d
  grind
def rC(b:∀t i,TE t=some i->ib P t i){K:(Nat->AV)->Prop}{Q:Exit->Act->World->Prop}(g:∀F' d e,K F'->St w0 M S0 N F' d e->Q .normal d e) :
  ∀(fuel:Nat)(listed:Array Bool)(F:Nat->AV)(a:Act)(w:World),FU P TE N ops ds K fuel listed F->St w0 M S0 N F a w->wpAny P .any ops Q fuel listed a w
 | 0,_,F,a,w,c,f=>⟨c.1,g F a w c.2 f⟩
 | fuel+1,_,F,a,w,c,f=>⟨λj=>g F a w (c.1 j) f,λi k=>Fe b (c.2 i k) f λF' d e l h=>rC b g fuel _ F' d e l h⟩
def bX(ts:List Nat)(F F1:Nat->AV):Prop:=∀t e,(F1 t).uses e=true->e∈ts\/∃a,(F a).uses e=true
theorem bX.refl(ts:List Nat)(F:Nat->AV):bX ts F F:=λt _ h=>.inr ⟨t,h⟩
variable{F1:Nat->AV}{ts:List Nat}
theorem bX.trans{F a:Nat->AV}(h1:bX ts F F1)(b:bX ts F1 a):bX ts F a:=λt e h=>by
 rcases b t e h with h|⟨c,h⟩
 ·exact .inl h
 exact h1 c e h
variable{d:Nat}
theorem bX.clean(h:bX ts F F1)(b:d∉ts)(c:∀t,(F t).uses d=false):∀t,(F1 t).uses d=false:=λt=>by
 cases a:(F1 t).uses d with
 | false=>rfl
 | true=>
  rcases h t d a with h|⟨e,h⟩
  all_goals grind
theorem bX.put{ts:List Nat}{dj:Nat}{av:AV}(h:∀e,av.uses e=true->e∈ts\/∃b,(F b).uses e=true):bX ts F (put F dj av):=λt e a=>by
 by_cases c:t=dj
 ·grind [pX]
 rw[iK _ _ c]at a;exact .inr ⟨t,(RM a).1⟩
variable{v:AV}{t e:Nat}
theorem PZ(h:(ta t v).uses e=true):v.uses e=true:=by
 cases v with
 | b9 a b d f=>simp only[ta]at h;cases c:Nat.beq a t<;>rw[c]at h<;>first|exact h|cases h
 | ref a b d=>cases d<;>simp only[ta]at h<;>first|exact h|(cases c:Nat.beq a t<;>rw[c]at h<;>first|exact h|cases h)
 | _=>exact h
theorem bX.updH{ts:List Nat}{t:Nat}{k:Kd}{cs:List C} : bX ts F (updH F t k cs):=λs e a=>by
 unfold Ab.updH at a;cases b:Nat.beq s t with
 | true=>rw[b]at a;cases a
 | false=>grind [PZ]
theorem Qo(h:(Q3 t v).uses e=true):v.uses e=true:=by
 cases v with
 | b9 a b d f=>simp only[Q3]at h;cases c:Nat.beq a t<;>rw[c]at h<;>first|exact h|cases h
 | ref a b d=>simp only[Q3]at h;cases c:Nat.beq a t<;>rw[c]at h<;>first|exact h|cases h
 | _=>exact h
theorem bX.kill{ts:List Nat}{t:Nat} : bX ts F (kill F t):=λs e a=>by
 unfold Ab.kill at a;cases b:Nat.beq s t with
 | true=>rw[b]at a;cases a
 | false=>grind [Qo]
variable{av:AV}
theorem cr(h:t≠d):eff none d av F t=F t:=by grind [eff]
theorem mO{a:Option Nat} : eff a d av F d=av:=by grind [eff]
theorem Pn : eff none d (F d) F=F:=by grind [mO,cr]
theorem mM(a:d∉ts)(b:∀t,(F t).uses d=false):ia (eff none d av F) F ts:=λt c=>by grind [cr]
variable{dj:Nat}
theorem TS(a:dj≠d):put (eff none d v F) dj av=eff none d (kl dj v) (put F dj av):=by grind [pX,cr,iK,mO]
variable{b:Kd}
theorem oz{a:List C}(c:t≠d):updH (eff none d v F) t b a=eff none d (ta t v) (updH F t b a):=by grind [mO,Nat.beq_eq,cr,updH]
theorem xW{a:List C}(c:t≠d):updH F t b a d=ta t (F d):=by grind [Nat.beq_eq,updH]
theorem JQ{a:List C}(c:t≠d):updN (eff none d v F) t b a=eff none d (Q4 t v) (updN F t b a):=by grind [mO,Nat.beq_eq,cr,updN]
theorem FS{a:List C}(c:t≠d):updN F t b a d=Q4 t (F d):=by grind [Nat.beq_eq,updN]
theorem PX(h:(Q4 t v).uses e=true):v.uses e=true:=by
 cases v with
 | b9 b c a f=>
  cases a with
  | nil=>exact h
  | cons s a=>simp only[Q4]at h;cases d:Nat.beq b t<;>rw[d]at h<;>first|exact h|cases h
 | ref b c a=>
  cases a with
  | nil=>exact h
  | cons s a=>simp only[Q4]at h;cases d:Nat.beq b t<;>rw[d]at h<;>first|exact h|cases h
 | _=>exact h
theorem bX.updN{ts:List Nat}{t:Nat}{k:Kd}{cs:List C} : bX ts F (updN F t k cs):=λs e a=>by
 unfold Ab.updN at a;cases b:Nat.beq s t with
 | true=>rw[b]at a;cases a
 | false=>grind [PX]
def Fq(d:Nat)(ts:List Nat)(v:AV)(F:Nat->AV)(K:(Nat->AV)->Prop)(F1:Nat->AV):Prop:=∃a,(v=F d->a=F1 d)/\K (eff none d a F1)/\bX ts F F1
def UF(d:Nat)(ts:List Nat)(v:AV)(F:Nat->AV)(K:(Nat->AV)->Option Nat->List C->Prop)(F1:Nat->AV)(ag:Option Nat)(cs:List C):Prop:=∃a,(v=F d->a=F1 d)/\K (eff none d a F1) ag cs/\bX ts F F1
def Fq.trans{v1:AV}{a:Nat->AV}(h1:v=F d->v1=F1 d)(b:bX ts F F1)(h:Fq d ts v1 F1 K a):Fq d ts v F K a:=by
 obtain⟨c,f,g,i⟩:=h;exact⟨c,λe=>f (h1 e),g,b.trans i⟩
theorem gY(h:bV N (eff none d v F) dj av K)(a:dj≠d)(b:∀e,av.uses e=true->e∈ts\/∃c,(F c).uses e=true):bV N F dj av (Fq d ts v F K):=by
 unfold bV at h |-;cases f:(N.free dj&&!av.uses dj) with
 | false=>grind
 | true=>
  rw[f]at h;simp only[cond_true]at h |-;rw[TS a]at h;exact⟨kl dj v,λe=>by grind [iK],h,bX.put b⟩
variable{cs:List C}{k:Kd}
def jq : ∀e,(AV.H k cs).uses e=true->e∈ts\/∃a,(F a).uses e=true:=λe h=>by cases h
theorem Ej{p:(Nat->AV)->(AV->Prop)->Prop}{ts0:List Nat}(h:pj p (eff none d v F) ts0 λav=>bV N (eff none d v F) dj av K)(a:dj≠d)(j:∀t,t∈ts0->t∈ts)(k:d∉ts)(b:∀t,(F t).uses d=false) :
  p F λav=>bV N F dj av (Fq d ts v F K):=by
 obtain⟨av,c,f,g⟩:=h;refine g F (mM ψ b) _ (gY c a λe i=>?_);rcases f e i with h|⟨t,l,h⟩
 all_goals grind [cr]
variable{y:Operand}
theorem qB{K:(Nat->AV)->Option Nat->List C->Prop}(h:gM (eff none d v F) y K)(n:d∉tm y)(o:∀t,(F t).uses d=false):gM F y (UF d ts v F K):=by
 have fin:∀{t:Nat}{k:Kd}{b:List C}{a:Option Nat}{xs:List C},t≠d->K (updH (eff none d v F) t k b) a xs->UF d ts v F K (updH F t k b) a xs:=fun {t k b a xs} c h=>by
  rw[oz c]at h;exact⟨_,λe=>by rw[xW c,e],h,bX.updH⟩
 have Ag:∀{t:Nat}{k:Kd}{b:List C}{a:Option Nat}{xs:List C},t≠d->K (updN (eff none d v F) t k b) a xs->UF d ts v F K (updN F t k b) a xs:=fun {t k b a xs} c h=>by
  rw[JQ c]at h;exact⟨_,λe=>by rw[FS c,e],h,bX.updN⟩
 cases y with
 | tmp t=>
  have c:t≠d:=λe=>n (by simp[tm,e])
  simp only[gM]at h |-;rw[cr c]at h;cases g:F t with
  | H p q=>
   grind
  | b9 i u l a=>
   rw[g]at h;have w:i≠d:=λe=>by have:=o t;rw[g,e]at this;simp[AV.uses]at this
   cases l with
   | cons s l=>
    simp only at h |-;rw[cr w]at h;cases f:F i with
    | H p q=>
     rw[f]at h;obtain⟨r,j,A,B,D,E⟩:=Lq.out h;exact .mk_ ψ
    | _=>grind
   | nil=>
    grind [cr]
  | _=>grind
 | _=>exact h.elim
theorem Rl{K:(Nat->AV)->Option Nat->List C->Prop}(h:vU (eff none d v F) y K)(b:d∉tm y)(c:∀t,(F t).uses d=false):vU F y (UF d ts v F K):=by
 obtain⟨i,xs,a,f⟩:=cB h;refine f F (mM b c) _ ?_;cases g:bk xs with
 | true=>rw[g]at a;exact⟨v,λe=>e,a,bX.refl _ _⟩
 | false=>grind [qB]
def Vq(d:Nat)(ts:List Nat)(v:AV)(F:Nat->AV)(K:(Nat->AV)->List C->Prop)(F1:Nat->AV)(cs:List C):Prop:=∃a,(v=F d->a=F1 d)/\K (eff none d a F1) cs/\bX ts F F1
theorem xh{d:Nat}{ts:List Nat}{c:Nat->Option (Nat × Nat)}(a:d∉ts):∀{parts:List (Nat × Operand)}{cs:List C}{K:(Nat->AV)->List C->Prop}{F:Nat->AV}{v:AV},fillW c parts cs K (eff none d v F)->(∀p,p∈parts->d∉tm p.2)->(∀t,(F t).uses d=false)->
  fillW c parts cs (Vq d ts v F K) F
 | [],cs,K,F,v,h,_,b=>⟨v,λe=>e,h,bX.refl _ _⟩
 | p::rest,cs,K,F,v,h,r,b=>by
  simp only[fillW]at h |-;split at h
  case h_2=>exact h.elim
  rename_i q u;refine vp (Rl (ts:=ts) h ψ b) λw y xs h=>?_
  obtain⟨A,g,h,f⟩:=h;cases i:(Nat.beq xs.length q.2&&Nat.ble (q.1+q.2) cs.length) with
  | false=>grind
  | true=>
   rw[i]at h;simp only[cond_true,dr]at h |-;refine jC (xh a h ψ (f.clean a b)) λB cs2 j=>?_
   obtain⟨k,l,n,o⟩:=j;exact⟨k,λe=>l (g e),n,f.trans o⟩
variable{parts:List (Nat × Operand)}{T:Nat}
theorem M6(h:kS TE N (eff none d v F) dj T parts K)(a:dj≠d)(b:d∉ts)(c:∀p,p∈parts->d∉tm p.2)(e:∀t,(F t).uses d=false) :
  kS TE N F dj T parts (Fq d ts v F K):=by
 unfold kS at h |-;split at h
 case h_2=>exact h.elim
 rename_i size bytes zero flds k;cases f:Dm TE flds with
 | false=>grind
 | true=>
  rw[f]at h;refine jC (xh b h c e) λl n h=>?_
  obtain⟨o,g,h,i⟩:=h;exact bu (gY (ts:=ts) h a jq) λq j=>Fq.trans g i j
variable{n:Nat}
theorem H3(h:gp TE N (eff none d v F) dj T n parts K)(a:dj≠d)(c:d∉ts)(f:∀p,p∈parts->d∉tm p.2)(g:∀t,(F t).uses d=false) :
  gp TE N F dj T n parts (Fq d ts v F K):=by
 unfold gp at h |-;obtain⟨e,i,h,b⟩:=i9 h;refine b _ ?_;cases j:Nat.ble (n*i.size) 16777216 with
 | false=>grind
 | true=>
  rw[j]at h;simp only[cond_true]at h |-;cases n with
  | zero=>
   cases parts with
   | nil=>exact gY h a jq
   | cons=>exact h.elim
  | succ n=>
   simp only[dr]at h |-;refine jC (xh c h f g) λq r h=>?_
   obtain⟨u,k,h,l⟩:=h;rw[pR]at h |-;exact bu (gY (ts:=ts) h a jq) λw o=>Fq.trans k l o
theorem Qp(h:jr N (eff none d v F) dj (.tmp t) K)(a:dj≠d)(c:d∉ts)(l:t∈ts)(g:∀t,(F t).uses d=false):jr N F dj (.tmp t) (Fq d ts v F K):=by
 have b:t≠d:=ψ
 have std:bE (eff none d v F) (.tmp t) (λf=>bV N (eff none d v F) dj f K)->bE F (.tmp t) (λf=>bV N F dj f (Fq d ts v F K)):=λh=>
  Ej (p:=λF K=>bE F (.tmp t) K) (kC h) a (λn o=>by grind [tm]) c g
 simp only[jr]at h |-;rw[cr b]at h;split at h
 ·rename_i i xs q
  cases j:bk xs with
  | true=>grind [gY]
  | false=>
   rw[j]at h;simp only[cond_false]at h |-;rw[oz b]at h;exact bu (gY (ts:=ts) h a jq) λr k=>Fq.trans (F1:=updH F t (.tup i) _) (λe=>by grind [xW]) bX.updH k
 all_goals exact std h
variable{x:Operand}
theorem T0{b:Operand}(h:Gt TE N (eff none d v F) dj T x b K)(c:dj≠d)(f:d∉tm x)(g:d∉tm b)(j:∀t,(F t).uses d=false):Gt TE N F dj T x b (Fq d ts v F K):=by
 unfold Gt at h |-;obtain⟨e,A,h,a⟩:=i9 h;refine a _ ?_;obtain⟨n,k,i⟩:=nM h;refine i F (mM g j) _ ?_;refine fw (qB (ts:=ts) k f j) λB C D h=>?_
 obtain⟨E,l,h,o⟩:=h;split at h
 case h_2=>exact h.elim
 obtain⟨m,y,p,q,r,u,w,h⟩:=h.out;exact .mk_ ⟨m,y,p,q,r,u,w,_,rfl,bu (gY (ts:=ts) h c jq) λG i=>Fq.trans l o i⟩
theorem Ma(h:kX N (eff none d v F) dj x K)(a:dj≠d)(j:d∉ts)(k:∀t,t∈tm x->t∈ts)(o:∀t,(F t).uses d=false):kX N F dj x (Fq d ts v F K):=by
 have l:∀y,(∀t,t∈tm y->t∈ts)->bE (eff none d v F) y (λn=>bV N (eff none d v F) dj n K)->bE F y (λn=>bV N F dj n (Fq d ts v F K)):=λy q h=>Ej (p:=λF K=>bE F y K) (kC h) a q j o
 have A:∀y,(∀t,t∈tm y->t∈ts)->gM (eff none d v F) y (λb e i=>bV N b dj (.H (me e) i) K)->gM F y (λb e i=>bV N b dj (.H (me e) i) (Fq d ts v F K)):=λy q h=>
  fw (qB (ts:=ts) h ψ o) λb e i h=>by
   obtain⟨B,r,h,u⟩:=h;exact bu (gY (ts:=ts) h a jq) λC w=>Fq.trans r u w
 cases x with
 | tmp t=>
  grind [cr,tm,kX]
 | const c=>exact l (.const c) k h
 | global g=>exact l (.global g) k h
 | func f=>exact l (.func f) k h
theorem EM(a:t≠d):kill (eff none d v F) t=eff none d (Q3 t v) (kill F t):=by grind [mO,lB,cr,qE]
theorem TY(h:D1 N (eff none d v F) dj x K)(a:dj≠d)(c:d∉ts)(j:∀t,t∈tm x->t∈ts)(l:∀t,(F t).uses d=false):D1 N F dj x (Fq d ts v F K):=by
 have f:G0 N (eff none d v F) dj x=G0 N F dj x:=by
  cases x with
  | tmp t=>
   grind [cr,tm,G0]
  | _=>rfl
 unfold D1 at h |-;cases b:NS N dj x with
 | true=>
  rw[b]at h;simp only[cond_true]at h |-;exact gY (ts:=ts) h a jq
 | false=>
 rw[b]at h;simp only[cond_false]at h |-;unfold Kh at h |-;rw[f]at h;cases i:G0 N F dj x with
 | none=>grind [Ma]
 | some p=>
  rw[i]at h;simp only at h |-;obtain⟨rfl,n⟩:=B8 i;have g:p.1≠d:=λe=>c (e ▸ j p.1 (by simp[tm]))
  rw[EM g]at h;exact bu (gY (ts:=ts) h a jq) λo k=>Fq.trans (F1:=kill F p.1) (λe=>by grind [lB]) bX.kill k
theorem Ku(h:rv (eff none d v F) x cs K)(l:d∉tm x)(n:∀t,(F t).uses d=false):rv F x cs (Fq d ts v F K):=by
 have fin:∀{t:Nat}{k:Kd}{cs:List C},t≠d->K (updH (eff none d v F) t k cs)->Fq d ts v F K (updH F t k cs):=fun {t k cs} a h=>by
  rw[oz a]at h;exact⟨_,λe=>by rw[xW a,e],h,bX.updH⟩
 have Ag:∀{t:Nat}{k:Kd}{cs:List C},t≠d->K (updN (eff none d v F) t k cs)->Fq d ts v F K (updN F t k cs):=fun {t k cs} a h=>by
  rw[JQ a]at h;exact⟨_,λe=>by rw[FS a,e],h,bX.updN⟩
 have finP:∀{t:Nat}{k:Kd}{cs:List C},t≠d->K (QT (eff none d v F) t k cs)->Fq d ts v F K (QT F t k cs):=fun {t k cs} a h=>by
  cases k with
  | box=>exact fin a h
  | _=>exact Ag a h
 cases x with
 | tmp t=>
  have a:t≠d:=λe=>l (by simp[tm,e])
  simp only[rv]at h |-;rw[cr a]at h;cases c:F t with
  | H k o=>
   grind [dr]
  | ref f p g=>
   rw[c]at h;have i:f≠d:=λe=>by have:=n t;rw[c,e]at this;simp[AV.uses]at this
   cases g with
   | cons s g=>
    simp only at h |-;rw[cr i]at h;cases b:F f with
    | H k o=>
     rw[b]at h;obtain⟨r,j,q,u,w,y⟩:=Pu.out h;exact Pu.mk q u w rfl (finP i y)
    | _=>grind
   | nil=>
    grind [cr,dr]
  | _=>grind
 | _=>exact h.elim
theorem MX(h:mY TE (eff none d v F) T x y K)(b:d∉ts)(n:d∉tm x)(j:d∉tm y)(c:∀t,(F t).uses d=false):mY TE F T x y (Fq d ts v F K):=by
 unfold mY at h |-;split at h
 ·rename_i i r
  obtain⟨u,k,a,e⟩:=cB h;refine e F (mM j c) _ ?_;cases o:Nat.beq k.length i.size with
  | false=>grind
  | true=>
   rw[o]at a;simp only[cond_true]at a |-;cases p:bk k with
   | true=>grind [Ku]
   | false=>
    rw[p]at a;simp only[cond_false]at a |-;refine fw (qB (ts:=ts) a j c) λw q f h=>?_
    obtain⟨A,a,h,l⟩:=h;cases g:Nat.beq f.length i.size with
    | false=>grind
    | true=>rw[g]at h;exact Bg (Ku (ts:=ts) h n (l.clean b c)) λB e=>Fq.trans a l e
 exact h.elim
def Ty(a:d∉tm y):nG (eff none d v F) y=nG F y:=by
 cases y with
 | tmp t=>exact cr λe=>a (by simp[tm,e])
 | _=>rfl
theorem TU{K:Bool->(Nat->AV)->List (List C)->Prop}(h:Eb (eff none d v F) y K)(b:d∉tm y)(c:∀t,(F t).uses d=false):Eb F y λe F1 rows=>∃v1,(v=F d->v1=F1 d)/\K e (eff none d v1 F1) rows/\bX ts F F1:=by
 have a:=Ty (F:=F) (v:=v) b;unfold Eb at h |-;rw[a]at h;split at h
 ·refine fw (qB (ts:=ts) h b c) λF1 f g h=>?_
  obtain⟨v1,i,h,j⟩:=h
  grind
 grind [cB,mM,bX.refl]
theorem Rc{K:(Nat->AV)->List (List C)->Prop}(h:Bx (eff none d v F) y K)(b:d∉tm y)(c:∀t,(F t).uses d=false):Bx F y λF1 rows=>∃v1,(v=F d->v1=F1 d)/\K (eff none d v1 F1) rows/\bX ts F F1:=by
 obtain⟨e,xs,a,f⟩:=cB h;refine f F (mM b c) _ ?_;split at a
 ·grind [bX.refl]
 ·refine fw (qB (ts:=ts) a b c) λF1 e g h=>?_
  obtain⟨v1,a,h,i⟩:=h
  grind
 exact a.elim
theorem R8(h:Bd TE N (eff none d v F) dj T x y K)(b:dj≠d)(c:d∉ts)(j:d∉tm x)(k:d∉tm y)(f:∀t,(F t).uses d=false):Bd TE N F dj T x y (Fq d ts v F K):=by
 obtain⟨e,B,h,a⟩:=i9 h;refine a _ (FO (TU (ts:=ts) h k f) λC D E h=>?_);obtain⟨G,l,h,g⟩:=h;refine Be (Rc (ts:=ts) h j (g.clean c f)) λH i h=>?_
 obtain⟨J,n,h,o⟩:=h;obtain⟨p,q,r,u,w,h⟩:=Ap.out h;refine CU p q r u w rfl (bu (gY (ts:=ts) h b jq) λL A=>?_);exact Fq.trans l g (Fq.trans n o A)
theorem PC{f:Oper}(B:f.guard=none)(g:Th f.op=true)(k:f.dst≠some d)(u:d∉f.looksAt ops)(w:∀t,(F t).uses d=false)(h:jj P TE N ops f K (eff none d v F)) :
  jj P TE N ops f (Fq d (f.looksAt ops) v F K) F:=by
 unfold jj fS at h |-;rw[B]at h |-;simp only at h |-;have j:∀t,t∈dy f.op->t∈f.looksAt ops:=λt l=>iD f t l
 have pur:∀b,b≠d->dm P TE (eff none d v F) f.op (λq=>bV N (eff none d v F) b q K)->dm P TE F f.op λq=>bV N F b q (Fq d (f.looksAt ops) v F K):=λb k h=>
  Ej (p:=λF K=>dm P TE F f.op K) (kv h) k j u w
 have dne:∀b,f.dst=some b->b≠d:=ψ
 have tmI:∀x,x∈f.op.operands.toList->∀t,t∈tm x->t∈f.looksAt ops:=λx C t l=>j t (List.mem_flatMap.2 ⟨x,C,l⟩)
 cases e:f.op with
 | store T x y=>
  rw[e]at h tmI;simp only[B2]at h |-;cases a:f.dst with
  | some b=>rw[a]at h;simp only[kI]at h;exact h.elim
  | none=>
   grind [MX,Go.Op.operands]
 | move x=>
  rw[e]at h tmI;cases a:f.dst with
  | none=>rw[a]at h;exact h.elim
  | some b=>
   rw[a]at h;cases x with
   | tmp t=>
    simp only[B2,kI]at h |-;exact Qp h (dne b a) u (tmI (.tmp t) (by simp[Op.operands]) t (by simp[tm])) w
   | _=>rw[e]at g;cases g
 | assign x=>
  rw[e]at h tmI
  grind [TY,B2,kI,Go.Op.operands]
 | build T D=>
  rw[e]at h tmI
  grind [M6,B2,kI,Go.Op.operands]
 | buildSlice T n D=>
  rw[e]at h tmI
  grind [H3,B2,kI,Go.Op.operands]
 | extract x i=>rw[e]at h pur;cases a:f.dst with|none=>rw[a]at h;exact h.elim|some b=>rw[a]at h;exact pur b (dne b a) h
 | load T x=>rw[e]at h pur;cases a:f.dst with|none=>rw[a]at h;exact h.elim|some b=>rw[a]at h;exact pur b (dne b a) h
 | fieldAddr T x i=>rw[e]at h pur;cases a:f.dst with|none=>rw[a]at h;exact h.elim|some b=>rw[a]at h;exact pur b (dne b a) h
 | field T x i=>rw[e]at h pur;cases a:f.dst with|none=>rw[a]at h;exact h.elim|some b=>rw[a]at h;exact pur b (dne b a) h
 | binOp o T x y L=>rw[e]at h pur;cases a:f.dst with|none=>rw[a]at h;exact h.elim|some b=>rw[a]at h;exact pur b (dne b a) h
 | unOp o T x=>rw[e]at h pur;cases a:f.dst with|none=>rw[a]at h;exact h.elim|some b=>rw[a]at h;exact pur b (dne b a) h
 | call c=>
  rw[e]at g h tmI;cases E:r8 c with
  | none=>grind [Th]
  | some p=>
   have r:=yA E;subst r;cases a:f.dst with
   | none=>rw[a]at h;exact h.elim
   | some b=>
    grind [R8,B2,kI,Go.Op.operands,Go.Call.operands]
 | slice T x G A H=>
  rw[e]at g h tmI pur;cases G with
  | some _=>cases g
  | none=>
   cases A with
   | none=>cases g
   | some A=>
    cases H with
    | some _=>cases g
    | none=>
     cases a:f.dst with
     | none=>rw[a]at h;exact h.elim
     | some b=>
      rw[a]at h;simp only[B2,kI]at h |-;cases J:UV N b with
      | false=>simp_all
      | true=>
       grind [T0,Go.Op.operands]
 | _=>rw[e]at g;cases g
theorem Tz{a:Oper}(c:a.guard=none)(f:Th a.op=true)(b:a.dst≠some d)(g:d∉a.looksAt ops)(i:∀t,(F t).uses d=false)(h:jj P TE N ops a K F) :
  jj P TE N ops a (λF1=>K F1/\bX (a.looksAt ops) F F1) F:=by
 refine kE (PC (d:=d) (v:=F d) c f b g i (by rw[Pn];exact h)) λF1 j=>?_
 obtain⟨k,e,l,u⟩:=j
 grind [Pn]
theorem bX.setH{ts:List Nat}{t:Nat}{k:Kd}{cs:List C} : bX ts F (setH F t (.H k cs)):=λs e a=>by
 unfold Ab.setH at a;cases b:Nat.beq s t with
 | true=>rw[b]at a;cases a
 | false=>grind
variable{rcs:List C}
theorem KK(h:bV N F d (.H k rcs) K):bV N F d (.H k rcs) λF1=>K F1/\bX ts F F1:=by
 unfold bV at h |-;cases a:(N.free d&&!(AV.H k rcs).uses d) with
 | false=>grind
 | true=>rw[a]at h;exact⟨h,bX.put λe b=>by cases b⟩
theorem u9{off:Nat}{st:cI}{K:(Nat->AV)->List C->Prop}(h:lendAt F t off st n K):lendAt F t off st n λF1 cs=>K F1 cs/\bX ts F F1:=by
 unfold lendAt at h |-;split at h
 all_goals grind [dr,bX.updH]
def lW{ts:List Nat} : ∀{xs:List (Operand × Nat)}{K:(Nat->AV)->List (MA × rJ)->Prop}{F:Nat->AV},lendP xs K F->lendP xs (λF1 l=>K F1 l/\bX ts F F1) F
 | [],K,F,h=>⟨h,bX.refl _ _⟩
 | (x,0)::xs,K,F,h=>lW (xs:=xs) h
 | (x,1)::xs,K,F,h=>by
  simp only[lendP]at h |-;split at h
  case h_2=>exact h.elim
  split at h
  ·exact f9 (u9 (ts:=ts) h) λF1 c h=>cy (lW (ts:=ts) h.1) λb l a=>⟨a.1,h.2.trans a.2⟩
  ·exact f9 (u9 (ts:=ts) h) λF1 c h=>cy (lW (ts:=ts) h.1) λb l a=>⟨a.1,h.2.trans a.2⟩
  ·exact f9 (u9 (ts:=ts) h) λF1 c h=>cy (lW (ts:=ts) h.1) λb l a=>⟨a.1,h.2.trans a.2⟩
  exact h.elim
 | (x,n+2)::xs,K,F,h=>by
  simp only[lendP]at h |-;split at h
  case h_2=>exact h.elim
  split at h
  ·split at h
   ·exact cy (lW (ts:=ts) h) λb l a=>⟨a.1,bX.kill.trans a.2⟩
   exact h.elim
  ·exact cy (lW (ts:=ts) h) λb l a=>⟨a.1,bX.kill.trans a.2⟩
  exact h.elim
theorem lM{ts:List Nat}{K:(Nat->AV)->Prop} : ∀{l:List (MA × rJ)}{B:List MA}{F:Nat->AV},hC l B K F->hC l B (λF1=>K F1/\bX ts F F1) F
 | [],[],F,h=>⟨h,bX.refl _ _⟩
 | [],_::_,F,h=>h.elim
 | (m,.no)::l,[],F,h=>h.elim
 | (m,.at_ t off st)::l,[],F,h=>h.elim
 | (m,.box t)::l,[],F,h=>h.elim
 | (m,.no)::l,.val _ _::B,F,h=>lM (l:=l) (B:=B) h
 | (m,.no)::l,.mut _ _::B,F,h=>lM (l:=l) (B:=B) h
 | (m,.no)::l,.ptr _::B,F,h=>lM (l:=l) (B:=B) h
 | (m,.at_ t off st)::l,.val _ _::B,F,h=>h.elim
 | (m,.at_ t off st)::l,.ptr _::B,F,h=>h.elim
 | (m,.box t)::l,.val _ _::B,F,h=>h.elim
 | (m,.box t)::l,.mut _ _::B,F,h=>h.elim
 | (m,.at_ t off st)::l,.mut ag out::B,F,h=>by
  simp only[hC]at h |-;split at h
  case h_2=>exact h.elim
  split at h
  ·rename_i k c _ _
   cases d:Nat.ble (off+out.length) c.length with
   | false=>grind
   | true=>
    rw[d]at h;simp only[cond_true,dr]at h |-;exact dw (λb a=>⟨a.1,bX.updH.trans a.2⟩) (lM (ts:=ts) h)
  obtain⟨r,j,e,f,g,i⟩:=Pu.out h;exact Pu.mk e f g rfl (dw (λb a=>⟨a.1,bX.updH.trans a.2⟩) (lM (ts:=ts) i))
 | (m,.box t)::l,.ptr out::B,F,h=>by
  simp only[hC]at h |-;split at h
  ·exact dw (λb a=>⟨a.1,bX.setH.trans a.2⟩) (lM (ts:=ts) h)
  exact h.elim
variable{modes:List Nat}{args:List Operand}{f:Nat}
theorem MY{d:Option Nat}(h:lT P N F d f args modes K):lT P N F d f args modes λF1=>K F1/\bX ts F F1:=by
 unfold lT at h |-;refine cy (lW (ts:=ts) h) λn l h=>?_
 obtain⟨h,c⟩:=h;cases e:(vM l&&Nat.beq args.length modes.length) with
 | false=>grind
 | true=>
  rw[e]at h;refine jN h λb A h=>?_
  obtain⟨o,B,k,rcs,g,a,i⟩:=co.out h;refine CL g a (dw (λF'' h=>?_) (lM (ts:=ts) i));obtain⟨h,j⟩:=h;cases d with
  | none=>grind [bX.trans]
  | some d=>exact bu (KK (ts:=ts) h) λp a=>⟨a.1,(c.trans j).trans a.2⟩
theorem RD{d:Option Nat}{c a b:Nat}{B:List MA}(h:xL N F d t cs c a e b K k rcs B):xL N F d t cs c a e b (λF1=>K F1/\bX ts F F1) k rcs B:=by
 unfold xL at h |-;split at h
 case h_2=>exact h.elim
 rename_i g i;cases j:(Nat.beq g.length a&&Nat.beq i.length b) with
 | false=>grind
 | true=>
  rw[j]at h;simp only[cond_true,dr]at h |-;cases d with
  | none=>exact⟨h,bX.kill.trans bX.setH⟩
  | some d=>exact bu (KK (ts:=ts) h) λl f=>⟨f.1,(bX.kill.trans bX.setH).trans f.2⟩
theorem NM{d:Option Nat}{a b:Nat}(h:kF P N F d f args a b K):kF P N F d f args a b λF1=>K F1/\bX ts F F1:=by
 unfold kF at h |-;split at h
 case h_2=>exact h.elim
 refine ly h λt e h=>ly h λg c h=>?_
 split at h
 case h_2=>exact h.elim
 rename_i i p;cases j:(Nat.beq g t&&Nat.ble (e+a) c&&Nat.ble (c+b) i.length) with
 | false=>grind
 | true=>
  rw[j]at h;simp only[cond_true,dr]at h |-;obtain⟨q,B,k,rcs,l,n,o⟩:=co.out h;exact CL l n (RD o)
def NG{d:Option Nat}(h:kG P N F d f args modes K):kG P N F d f args modes λF1=>K F1/\bX ts F F1:=by
 unfold kG at h |-;split
 ·rename_i p a;rw[a]at h;exact NM h
 rename_i a;rw[a]at h;exact MY h
variable{s:Nat}
theorem TC{dj:Option Nat}{a:Nat->AV}(u:bX ts F a):bX ts F (rv1 F dj s a):=by
 unfold rv1;split
 case h_2=>exact u
 rename_i t c f;cases g:(dne dj s&&dne dj t) with
 | false=>exact u
 | true=>
  simp only[cond_true];split
  case h_2=>exact u
  split
  case h_2=>exact u
  intro q e b;by_cases d:q=s
  ·grind [qw]
  rw[fC _ _ d]at b;exact u q e b
theorem HW{ts:List Nat}{dj:Option Nat} : ∀{l:List Nat}{a:Nat->AV},bX ts F a->bX ts F (rvE F dj l a)
 | [],_,u=>u
 | _::l,_,u=>HW (l:=l) (TC u)
theorem Ru{a:Oper}(k:a.guard=none)(i:pn a.op=true)(h:jj P TE N ops a K F):jj P TE N ops a (λF1=>K F1/\bX (a.looksAt ops) F F1) F:=by
 have pur:∀d,a.dst=some d->dm P TE F a.op (λg=>bV N F d g K)->dm P TE F a.op λg=>bV N F d g λF1=>K F1/\bX (a.looksAt ops) F F1:=λd l h=>by
  have n:gJ P TE N ops a K F:=by grind [gJ,fS]
  obtain⟨y,g,j,o⟩:=xZ n;have b:=j.dst;rw[l]at b;simp only[C1]at b;subst b;have A:=j.at_ F (Cf _ _) (λF1=>K F1/\bX (a.looksAt ops) F F1) ⟨o,bX.put λe q=>(j.from_ e q).imp id ψ⟩
  grind [gJ,fS]
 unfold jj fS at h |-;rw[k]at h |-;simp only at h |-;cases f:a.op with
 | call c=>
  rw[f]at h i;have r:r8 c=none:=by grind [pn,r8]
  have pl:kJ P TE N a K F->kJ P TE N a (λF1=>K F1/\bX (a.looksAt ops) F F1) F:=λh=>by grind [kJ,kI]
  cases t:B2 N F (.call c) with
  | some p=>
   rw[t]at h;simp only at h |-;have lt:sY P N F a.dst p.1 p.2.1 p.2.2 K->sY P N F a.dst p.1 p.2.1 p.2.2 λF1=>K F1/\bX (a.looksAt ops) F F1:=λh=>sj (NG (ts:=a.looksAt ops) h) λF1 ⟨h,u⟩=>by grind [oC,HW]
   cases w:Qj N (.call c) with
   | false=>grind
   | true=>
    rw[w]at h;rcases h with h|h
    ·exact .pl (pl h)
    exact .lt (lt h)
  | none=>
   grind [kJ]
 | _=>rw[f]at i;cases i
theorem RL{a:Oper}(c:a.guard=none)(e:(Th a.op || pn a.op)=true)(b:a.dst≠some d)(f:d∉a.looksAt ops)(g:∀t,(F t).uses d=false)(h:jj P TE N ops a K F) :
  jj P TE N ops a (λF1=>K F1/\bX (a.looksAt ops) F F1) F:=by grind [Tz,Ru]
def Gq(d:Nat)(ts:List Nat)(F:Nat->AV)(K:(Nat->AV)->Prop)(F1:Nat->AV):Prop:=∃a,K (eff none d a F1)/\bX ts F F1
def Gq.trans{a:Nat->AV}(b:bX ts F F1)(h:Gq d ts F1 K a):Gq d ts F K a:=by
 obtain⟨c,e,f⟩:=h;exact⟨c,e,b.trans f⟩
theorem Dd(a:t≠d):setH (eff none d v F) t av=eff none d v (setH F t av):=by grind [mO,fC,cr,setH]
theorem vw{off:Nat}{st:cI}{K:(Nat->AV)->List C->Prop}(h:lendAt (eff none d v F) t off st n K)(a:t≠d):lendAt F t off st n λF1 cs=>∃v1,K (eff none d v1 F1) cs/\bX ts F F1:=by
 unfold lendAt at h |-;rw[cr a]at h;split at h
 case h_2=>exact h.elim
 split at h
 ·grind [dr,oz,bX.updH]
 obtain⟨r,j,b,c,e,f⟩:=Lq.out h;refine .mk_ ?_
 grind [oz,bX.updH]
theorem nv{ts:List Nat}{d:Nat}(a:d∉ts):∀{xs:List (Operand × Nat)}{K:(Nat->AV)->List (MA × rJ)->Prop}{F:Nat->AV}{v:AV},lendP xs K (eff none d v F)->(∀x,x∈xs->d∉tm x.1)->(∀t,(F t).uses d=false)->
  lendP xs (λF1 l=>(∃v1,K (eff none d v1 F1) l/\bX ts F F1)/\∀q,q∈l->d∉q.2.slot) F
 | [],K,F,v,h,_,_=>⟨⟨v,h,bX.refl _ _⟩,ψ⟩
 | (x,0)::xs,K,F,v,h,w,c=>by
  simp only[lendP]at h |-;refine cy (nv a h ψ c) λF1 l h=>⟨h.1,λq b=>?_⟩
  rcases List.mem_cons.1 b with rfl|b
  ·exact λu=>by cases u
  exact h.2 q b
 | (x,1)::xs,K,F,v,h,w,c=>by
  simp only[lendP]at h |-;split at h
  case h_2=>exact h.elim
  rename_i s;have j:s≠d:=λe=>w _ I2 (by simp[tm,e])
  rw[cr j]at h;have y:∀{t:Nat}{F1:Nat->AV}{l:List (MA × rJ)}{m:MA}{f:Nat}{A:cI}{K2:(Nat->AV)->List (MA × rJ)->Prop},t≠d->((∃v1,K2 (eff none d v1 F1) ((m,.at_ t f A)::l)/\bX ts F F1)/\∀q,q∈l->d∉q.2.slot)->(∃v1,K2 (eff none d v1 F1) ((m,.at_ t f A)::l)/\bX ts F F1)/\∀q,q∈(m,rJ.at_ t f A)::l->d∉q.2.slot:=λg h=>⟨h.1,λq b=>by
    rcases List.mem_cons.1 b with rfl|b
    · exact λu=>g (V1.1 u).symm
    exact h.2 q b⟩
  split at h
  ·exact f9 (vw (ts:=ts) h j) λF1 k h=>by
    obtain⟨v1,h,i⟩:=h;exact cy (nv a h ψ (i.clean a c)) λB l h=>by
     obtain⟨⟨o,h,p⟩,r⟩:=h;exact y (K2:=K) j ⟨⟨o,h,i.trans p⟩,r⟩
  ·exact f9 (vw (ts:=ts) h j) λF1 k h=>by
    obtain⟨v1,h,i⟩:=h;exact cy (nv a h ψ (i.clean a c)) λB l h=>by
     obtain⟨⟨o,h,p⟩,r⟩:=h;exact y (K2:=K) j ⟨⟨o,h,i.trans p⟩,r⟩
  ·rename_i t f A G D
   have g:t≠d:=λe=>by have:=c s;rw[D,e]at this;simp[AV.uses]at this
   exact f9 (vw (ts:=ts) h g) λF1 k h=>by
    obtain⟨v1,h,i⟩:=h;exact cy (nv a h ψ (i.clean a c)) λB l h=>by
     obtain⟨⟨o,h,p⟩,r⟩:=h;exact y (K2:=K) g ⟨⟨o,h,i.trans p⟩,r⟩
  exact h.elim
 | (x,n+2)::xs,K,F,v,h,w,c=>by
  simp only[lendP]at h |-;split at h
  case h_2=>exact h.elim
  rename_i s;have j:s≠d:=λe=>w _ I2 (by simp[tm,e])
  rw[cr j]at h;have y:∀{t:Nat}{k:List C},t≠d->lendP xs (λE l=>K E ((.ptr k,.box t)::l)) (kill (eff none d v F) t)->lendP xs (λF1 l=>(∃v1,K (eff none d v1 F1) ((.ptr k,.box t)::l)/\bX ts F F1)/\∀q,q∈(MA.ptr k,rJ.box t)::l->d∉q.2.slot) (kill F t):=fun {t k} g h=>by
   rw[EM g]at h;refine cy (nv a h ψ ((bX.kill (ts:=ts)).clean a c)) λB l h=>?_
   obtain⟨⟨o,h,p⟩,r⟩:=h;refine⟨⟨o,h,bX.kill.trans p⟩,λq b=>?_⟩;rcases List.mem_cons.1 b with rfl|b
   ·exact λu=>g (V1.1 u).symm
   exact r q b
  split at h
  ·rename_i t D
   have g:t≠d:=λe=>by have:=c s;rw[D,e]at this;simp[AV.uses]at this
   rw[cr g]at h;split at h
   all_goals simp_all
  all_goals simp_all
theorem tZ{d:Nat}{v:AV}(a:∀t,(F t).uses d=false):∀{l:List (MA × rJ)}{xs:List Operand}{K:Bool->List MA->Prop},valsP (eff none d v F) l xs K->(∀x,x∈xs->d∉tm x)->valsP F l xs K
 | [],[],K,h,_=>h
 | (m,.no)::l,x::xs,K,h,b=>by
  obtain⟨f,g,c,e⟩:=cB h;exact e F (mM ψ a) _ (tZ a c ψ)
 | (m,.at_ t off st)::l,x::xs,K,h,b=>tZ (l:=l) (xs:=xs) a h ψ
 | (m,.box t)::l,x::xs,K,h,b=>tZ (l:=l) (xs:=xs) a h ψ
 | [],_::_,K,h,_=>h.elim
 | (m,.no)::l,[],K,h,_=>h.elim
 | (m,.at_ t off st)::l,[],K,h,_=>h.elim
 | (m,.box t)::l,[],K,h,_=>h.elim
theorem lJ{ts:List Nat}{d:Nat}{K:(Nat->AV)->Prop} : ∀{l:List (MA × rJ)}{B:List MA}{F:Nat->AV}{v:AV},hC l B K (eff none d v F)->(∀q,q∈l->d∉q.2.slot)->hC l B (Gq d ts F K) F
 | [],[],F,v,h,_=>⟨v,h,bX.refl _ _⟩
 | [],_::_,F,v,h,_=>h.elim
 | (m,.no)::l,[],F,v,h,_=>h.elim
 | (m,.at_ t off st)::l,[],F,v,h,_=>h.elim
 | (m,.box t)::l,[],F,v,h,_=>h.elim
 | (m,.no)::l,.val _ _::B,F,v,h,b=>lJ (l:=l) (B:=B) h ψ
 | (m,.no)::l,.mut _ _::B,F,v,h,b=>lJ (l:=l) (B:=B) h ψ
 | (m,.no)::l,.ptr _::B,F,v,h,b=>lJ (l:=l) (B:=B) h ψ
 | (m,.at_ t off st)::l,.val _ _::B,F,v,h,_=>h.elim
 | (m,.at_ t off st)::l,.ptr _::B,F,v,h,_=>h.elim
 | (m,.box t)::l,.val _ _::B,F,v,h,_=>h.elim
 | (m,.box t)::l,.mut _ _::B,F,v,h,_=>h.elim
 | (m,.at_ t off st)::l,.mut ag out::B,F,v,h,b=>by
  have c:t≠d:=λe=>b _ I2 (by simp[rJ.slot,e])
  have a:∀q,q∈l->d∉q.2.slot:=ψ
  simp only[hC]at h |-;rw[cr c]at h;split at h
  case h_2=>exact h.elim
  split at h
  ·rename_i k n _ _
   cases o:Nat.ble (off+out.length) n.length with
   | false=>grind
   | true=>
    rw[o]at h;simp only[cond_true,dr]at h |-;rw[oz c]at h;exact dw (λg f=>Gq.trans bX.updH f) (lJ (ts:=ts) h a)
  obtain⟨r,j,p,u,w,i⟩:=Pu.out h;rw[oz c]at i;exact Pu.mk p u w rfl (dw (λg f=>Gq.trans bX.updH f) (lJ (ts:=ts) i a))
 | (m,.box t)::l,.ptr out::B,F,v,h,b=>by
  have c:t≠d:=λe=>b _ I2 (by simp[rJ.slot,e])
  have a:∀q,q∈l->d∉q.2.slot:=ψ
  simp only[hC]at h |-;rw[cr c]at h;split at h
  ·rw[Dd c]at h
   exact dw (λg f=>Gq.trans bX.setH f) (lJ (ts:=ts) h a)
  exact h.elim
theorem Qs{dj:Option Nat}(h:lT P N (eff none d v F) dj f args modes K)(n:dj≠some d)(a:d∉ts)(g:∀x,x∈args->d∉tm x)(i:∀t,(F t).uses d=false) :
  lT P N F dj f args modes (Gq d ts F K):=by
 unfold lT at h |-;refine cy (nv a h (λx o=>g _ (List.of_mem_zip o).1) i) λE l h=>?_
 obtain⟨⟨G,h,c⟩,p⟩:=h;cases q:(vM l&&Nat.beq args.length modes.length) with
 | false=>grind
 | true=>
  rw[q]at h;refine jN (tZ (c.clean a i) h g) λb A h=>?_
  obtain⟨H,B,k,rcs,r,e,u⟩:=co.out h;refine CL r e (dw (λF'' h=>?_) (lJ (ts:=ts) u p));obtain⟨w,h,j⟩:=h;cases dj with
  | none=>exact⟨w,h,c.trans j⟩
  | some dj=>
   refine bu (gY (ts:=ts) h ψ jq) λJ e=>?_
   obtain⟨y,-,C,D⟩:=e;exact⟨y,C,(c.trans j).trans D⟩
theorem RF{dj:Option Nat}{c a b:Nat}{B:List MA}(f:t≠d)(g:dj≠some d)(h:xL N (eff none d v F) dj t cs c a e b K k rcs B):xL N F dj t cs c a e b (Gq d ts F K) k rcs B:=by
 unfold xL at h |-;split at h
 case h_2=>exact h.elim
 rename_i i j;cases l:(Nat.beq i.length a&&Nat.beq j.length b) with
 | false=>grind
 | true=>
  rw[l]at h;simp only[cond_true,dr]at h |-;rw[EM f,Dd f]at h;cases dj with
  | none=>exact⟨_,h,bX.kill.trans bX.setH⟩
  | some dj=>
   refine bu (gY (ts:=ts) h ψ jq) λr n=>?_
   obtain⟨o,-,p,q⟩:=n;exact⟨o,p,(bX.kill.trans bX.setH).trans q⟩
theorem Lk{K:Nat->Nat->Prop}(b:d∉tm x)(c:∀t,(F t).uses d=false)(h:zE (eff none d v F) x K):zE F x λt o=>t≠d/\K t o:=by
 obtain⟨s,t,f,rfl,a,i⟩:=sQ h;have g:s≠d:=λe=>b (by simp[tm,e])
 rw[cr g]at a;have j:t≠d:=λe=>by have:=c s;rw[a,e]at this;simp[AV.uses]at this
 grind [zE]
theorem PE{dj:Option Nat}{a b:Nat}(h:kF P N (eff none d v F) dj f args a b K)(g:dj≠some d)(c:∀x,x∈args->d∉tm x)(e:∀t,(F t).uses d=false) :
  kF P N F dj f args a b (Gq d ts F K):=by
 unfold kF at h |-;split at h
 case h_2=>exact h.elim
 refine ly (Lk (c _ (by simp)) e h) λt j h=>?_
 obtain⟨i,h⟩:=h;refine ly (Lk (c _ (by simp)) e h) λk l h=>?_
 replace h:=h.2;rw[cr i]at h;split at h
 all_goals grind [dr,co.out,CL,RF]
theorem Nj{dj:Option Nat}(h:kG P N (eff none d v F) dj f args modes K)(a:dj≠some d)(b:d∉ts)(c:∀x,x∈args->d∉tm x)(e:∀t,(F t).uses d=false) :
  kG P N F dj f args modes (Gq d ts F K):=by grind [PE,Qs,kG]
theorem R6{dj:Option Nat}{q:Nat}(c:q≠s):rv1 F dj s F1 q=F1 q:=by
 unfold rv1;cases F s with
 | ref t a b=>
  cases b with
  | cons=>rfl
  | nil=>
   simp only;cases(dne dj s&&dne dj t) with
   | false=>rfl
   | true=>
    simp only[cond_true];cases F1 t with
    | H k d=>
     cases k with
     | box=>
      simp only;cases F1 s with
      | dead=>grind [fC]
      | _=>rfl
     | _=>rfl
    | _=>rfl
 | _=>rfl
theorem TX{dj:Option Nat}{v1:AV}(c:∀t,(F t).uses d=false):∃a,rv1 (eff none d v F) dj s (eff none d v1 F1)=eff none d a (rv1 F dj s F1):=by
 by_cases b:s=d
 ·subst b
  have f:∃a,rv1 (eff none s v F) dj s (eff none s v1 F1)=eff none s a F1:=by
   unfold rv1;rw[mO];have set:∀x:AV,setH (eff none s v1 F1) s x=eff none s x F1:=λx=>by grind [qw,mO,fC,cr]
   grind
  obtain⟨a,g⟩:=f;refine⟨a,g.trans ?_⟩
  grind [mO,cr,R6]
 refine⟨v1,?_⟩;unfold rv1;rw[cr b];cases h:F s with
 | ref t i j=>
  cases j with
  | cons=>rfl
  | nil=>
   have k:t≠d:=λe=>by have:=c s;rw[h,e]at this;simp[AV.uses]at this
   grind [cr,Dd]
 | _=>rfl
def NW{d:Nat}{dj:Option Nat}{v:AV}(a:∀t,(F t).uses d=false):∀{l:List Nat}{v1:AV}{F1:Nat->AV},∃b,rvE (eff none d v F) dj l (eff none d v1 F1)=eff none d b (rvE F dj l F1)
 | [],v1,_=>⟨v1,rfl⟩
 | s::l,v1,F1=>by
  simp only[rvE];obtain⟨b,e⟩:=TX (dj:=dj) (v:=v) (v1:=v1) (s:=s) (F1:=F1) a;rw[e];exact NW a
theorem RP{a:Oper}(B:a.guard=none)(k:pn a.op=true)(g:a.dst≠some d)(w:d∉a.looksAt ops)(n:∀t,(F t).uses d=false)(h:jj P TE N ops a K (eff none d v F)) :
  jj P TE N ops a (Gq d (a.looksAt ops) F K) F:=by
 have f:∀t,t∈dy a.op->t∈a.looksAt ops:=λt o=>iD a t o
 have tmI:∀x,x∈a.op.operands.toList->∀t,t∈tm x->t∈a.looksAt ops:=λx y t o=>f t (List.mem_flatMap.2 ⟨x,y,o⟩)
 have pur:∀dj,dj≠d->dm P TE (eff none d v F) a.op (λj=>bV N (eff none d v F) dj j K)->dm P TE F a.op λj=>bV N F dj j (Fq d (a.looksAt ops) v F K):=λdj g h=>
  Ej (p:=λF K=>dm P TE F a.op K) (kv h) g f w n
 unfold jj fS at h |-;rw[B]at h |-;simp only at h |-;cases b:a.op with
 | call c=>
  rw[b]at h k tmI;have q:r8 c=none:=by grind [pn,r8]
  have r:B2 N (eff none d v F) (.call c)=B2 N F (.call c):=by grind [pn,B2]
  rw[r]at h;have pl:kJ P TE N a K (eff none d v F)->kJ P TE N a (Gq d (a.looksAt ops) F K) F:=λh=>by
   unfold kJ at h |-;rw[b]at h |-;cases C:a.dst with
   | none=>grind
   | some dj=>
    rw[C]at h;simp only[kI,q]at h |-;have A:=pur dj ψ;rw[b]at A;obtain⟨j,D,-,E⟩:=kv (A h);exact E F (Cf _ _) _ (bu D λQ G=>by
      obtain⟨v1,-,H,u⟩:=G;exact⟨v1,H,u⟩)
  cases J:B2 N F (.call c) with
  | some p=>
   rw[J]at h;simp only at h |-;have i:∀x,x∈p.2.1->d∉tm x:=λx y L=>by grind [pn,B2,Go.Op.operands,Go.Call.operands]
   have lt:sY P N (eff none d v F) a.dst p.1 p.2.1 p.2.2 K->sY P N F a.dst p.1 p.2.1 p.2.2 (Gq d (a.looksAt ops) F K):=λh=>sj (Nj (ts:=a.looksAt ops) h g w i n) λF1 h=>by
    obtain⟨v1,h,u⟩:=h;rw[oC]at h |-;obtain⟨M,e⟩:=NW (dj:=a.dst) (v:=v) (l:=UG N.mo) (v1:=v1) (F1:=F1) n;rw[e]at h;exact⟨M,h,HW u⟩
   cases O:Qj N (.call c) with
   | false=>grind
   | true=>
    rw[O]at h;rcases h with h|h
    ·exact .pl (pl h)
    exact .lt (lt h)
  | none=>
   grind [kJ]
 | _=>rw[b]at k;cases k
theorem QB{a:Oper}(e:a.guard=none)(b:(Th a.op || pn a.op)=true)(c:a.dst≠some d)(f:d∉a.looksAt ops)(g:∀t,(F t).uses d=false)(h:jj P TE N ops a K (eff none d v F)) :
  jj P TE N ops a (Gq d (a.looksAt ops) F K) F:=by
 rw[C7]at b;rcases b with b|b
 ·refine kE (PC e b c f g h) λl i=>?_
  obtain⟨j,-,k,u⟩:=i;exact⟨j,k,u⟩
 grind [RP]
structure mX(ops:Array Oper)(ds:List Nat)(F:Nat->AV)(listed:Array Bool):Prop where
 dst:∀(j:Nat)(o:Oper)(d:Nat),qQ ds o=true->ops[j]? = some o->listed.getD j true=false->o.dst=some d->∀t,(F t).uses d=false
 mv:∀(j:Nat)(o:Oper)(T:Option Nat)(s:Nat),qQ ds o=true->ops[j]? = some o->listed.getD j true=false->o.guard=none->od o.op=some (T,s)->jy ops o s=true->∀t,(F t).uses s=false
variable{j:Nat}
theorem mX.put{o:Option Nat}(h:mX ops ds F listed)(p:∀b a g,qQ ds a=true->b≠j->ops[b]? = some a->listed.getD b true=false->a.dst=some g->av.uses g=false)(q:∀b a T s,qQ ds a=true->b≠j->ops[b]? = some a->listed.getD b true=false->a.guard=none->od a.op=some (T,s)->jy ops a s=true->av.uses s=false) :
  mX ops ds (eff o d av F) (listed.setIfInBounds j true):=by
 refine⟨λb a g i c e k t=>?_,λb a T s i c e r l n t=>?_⟩
 ·have f:=iH e
  rw[getD_set_ne true (Ne.symm f)]at e;exact kx ψ (h.dst b a g i c e k t)
 have f:=iH e;rw[getD_set_ne true (Ne.symm f)]at e;exact kx ψ (h.mv b a T s i c e r l n t)
theorem xC{o:Oper}(h:Us o=true):o.guard=none:=by grind [Us]
theorem PJ(h:(!ts.any (Nat.beq d))=true):d∉ts:=λa=>by grind [Nat.beq_refl]
theorem PF{a b:Oper}{c:Bool}(h:UC ops a b c=true)(f:b.dst=some d):a.guard=none/\(Th a.op || pn a.op)=true/\a.dst≠some d/\d∉a.looksAt ops/\b.guard=none/\d∉b.looksAt ops/\(c=true\/∀T s,od b.op=some (T,s)->jy ops b s=false):=by
 unfold UC at h;rw[f]at h;simp only[I0]at h;obtain⟨⟨⟨⟨⟨⟨g,i⟩,n⟩,j⟩,k⟩,l⟩,o⟩:=h;refine⟨xC g,i,λe=>?_,PJ j,xC k,PJ l,?_⟩
 ·simp_all
 grind
def PM(h:wz ops j i=true):oX ops j i:=uf j _ (λ_ a=>.one (yw a)) i h
theorem Kx{o:Oper}(h:qQ ds o=true):∃d,o.dst=some d/\ds.any (Nat.beq d)=true:=by grind [qQ]
structure RY(ops:Array Oper)(ds:List Nat)(nm:Nat->Bool):Prop where
 back:∀(j:Nat)(oj:Oper),ops[j]? = some oj->∀e∈oj.after,Region.binds .any e=true->e.on<j
 apart:∀(i j:Nat)(oi oj:Oper),qQ ds oi=true->qQ ds oj=true->i≠j->ops[i]? = some oi->ops[j]? = some oj->df oj i=true\/df oi j=true\/oi.apart ops oj=true
 look:∀(i j:Nat)(oi oj:Oper)(d:Nat),qQ ds oi=true->i≠j->ops[i]? = some oi->ops[j]? = some oj->oi.dst=some d->d∈oj.looksAt ops->df oj i=true
 differ:∀(i j:Nat)(oi oj:Oper)(d:Nat),qQ ds oi=true->qQ ds oj=true->i≠j->ops[i]? = some oi->ops[j]? = some oj->oi.dst=some d->oj.dst≠some d
 nf:∀(i j:Nat)(oi oj:Oper),qQ ds oi=true->qQ ds oj=false->i≠j->ops[i]? = some oi->ops[j]? = some oj->wz ops j i=true\/wz ops i j=true\/UC ops oj oi (nm i)=true
 mvs:∀(j:Nat)(oj:Oper)(T:Option Nat)(s:Nat),qQ ds oj=true->ops[j]? = some oj->od oj.op=some (T,s)->jy ops oj s=true->ds.any (Nat.beq s)=true
theorem pJ{d:Oper}(a:RY ops ds nm)(b:DC ops listed)(c:ops[j]? = some d)(f:∀e∈d.after,Region.binds .any e=true->listed.getD e.on false=true)(g:wz ops j i=true):listed.getD i false=true:=
 o8 b a.back (PM g) (t4.1 c).1 λk h=>by grind [bA,cz]
theorem unl{k:Nat}(h1:listed.getD k true=false)(a:listed.getD k false=true):False:=ψ
theorem ia.trans{a:Nat->AV}(h1:ia F F1 ts)(c:ia F1 a ts):ia F a ts:=λt b=>by
 obtain⟨d,e⟩:=h1 t b;obtain⟨f,g⟩:=c t b
 grind
theorem mX.us{g:Oper}(n:RY ops ds nm)(h:mX ops ds F listed)(o:ops[j]? = some g)(r:∀e∈g.after,Region.binds .any e=true->listed.getD e.on false=true)(u:bX (g.looksAt ops) F F1):mX ops ds F1 (listed.setIfInBounds j true):=by
 refine⟨λi k t l b c d=>u.clean (λf=>?_) (h.dst i k t l b ?_ d),λi k T s l b c w p q=>u.clean (λf=>?_) (h.mv i k T s l b ?_ w p q)⟩
 ·have a:=iH c
  rw[getD_set_ne true (Ne.symm a)]at c;have:=n.look i j k g t l a b o d f
  grind [cz]
 ·have a:=iH c
  rwa [getD_set_ne true (Ne.symm a)]at c
 ·grind [iH,gu,dd]
 have a:=iH c
 rwa [getD_set_ne true (Ne.symm a)]at c
theorem TO{p:Nat}{b:Oper}(a:ops[p]? = some b)(j:d∉b.looksAt ops)(k:∀t,(F1 t).uses d=false)(e:b.dst≠some d)(h:TQ P TE ops p (eff none d v F1)):TQ P TE ops p F1:=by
 obtain⟨f,g,i,c⟩:=h;rw[bA a]at g i c;refine⟨f,by grind [bA],?_,?_⟩
 ·grind [bA,wL,mM]
 rw[bA a];obtain⟨l,n,-,o⟩:=kv c
 grind [cr,mM,iD]
theorem JJ(W:RY ops ds nm){b:Oper}(D:ops[i]? = some b)(w:qQ ds b=true) :
  ∀(fuel:Nat)(listed:Array Bool)(F:Nat->AV)(l:Option Nat)(av:AV),i∈Region.ready .any ops listed->mX ops ds F listed->DC ops listed->Yl P TE N ops b F l d av->(nm i=true->l=none)->FU P TE N ops ds K fuel (listed.setIfInBounds i true) (eff l d av F)->FU P TE N ops ds K (fuel+1) listed F:=by
 have self:∀(listed:Array Bool)(F:Nat->AV)(l:Option Nat)(av:AV),i∈Region.ready .any ops listed->mX ops ds F listed->Yl P TE N ops b F l d av->∀X:(Nat->AV)->Prop,X (eff l d av F)->lQ P TE N ops b X F:=λlisted F l av hr a c X hK=>by
  have f:=(mem_ready.1 hr).1;refine c.at_ F (Cf _ _) (a.dst i b d w D f c.dst) (λs hs=>?_) X hK;obtain⟨B,⟨T,h2⟩,h3⟩:=c.mvl s hs;exact a.mv i b T s w D f B h2 h3
 intro fuel
 induction fuel with
 | zero=>
  intro listed F l av hr a E c hnm H;refine⟨ψ,λj hj=>?_⟩;by_cases n:j=i
  ·grind [wa]
  have:=ready_mono hj n;rw[H.1]at this;cases this
 | succ fuel ih=>
  intro listed F l av hr a E c hnm H;refine⟨ψ,λj hj=>?_⟩;by_cases n:j=i
  ·grind [wa]
  have B:=H.2 j (ready_mono hj n);obtain⟨R,g,q,hall⟩:=mem_ready.1 hj;obtain⟨f,oi',C,halli⟩:=mem_ready.1 hr;rw[D]at C;simp only[C1]at C;subst C;have noedge:∀k ok,ops[k]? = some ok->listed.getD k true=false->df g k=false:=λk ok hk hkun=>by grind [cz]
  have noedge':∀k ok,ops[k]? = some ok->listed.getD k true=false->df b k=false:=λk ok hk hkun=>by grind [cz]
  have cd:∀t,(F t).uses d=false:=a.dst i b d w D f c.dst
  unfold wa at B |-;rw[q]at B |-;simp only at B |-;by_cases G:qQ ds g=true
  case neg=>
   rw[CB G]at B |-;have hji1:wz ops j i=false:=by grind [pJ]
   have hij1:wz ops i j=false:=by grind [pJ]
   have hfb:UC ops g b (nm i)=true:=by grind [RY.nf]
   obtain⟨J,r,A,g4,g5,g6,g7⟩:=PF hfb c.dst;have hmv:l=none:=by
    cases l with
    | none=>rfl
    | some s=>
     obtain⟨-,⟨T,q1⟩,q2⟩:=c.mvl s rfl
     grind
   subst hmv;refine kE (QB J r A g4 cd B) λF1 hF1=>?_
   obtain⟨v,⟨S,hrun⟩,u⟩:=hF1;have cd1:∀t,(F1 t).uses d=false:=u.clean g4 cd
   have hisz:i<listed.size:=ψ
   have hrd:TQ P TE ops i (eff none d v F1):=S i (by simp[hisz]) (by grind [bA]) hji1;refine⟨λp hp1 L hp3=>?_,ih (listed.setIfInBounds j true) F1 none v (ready_mono hr (Ne.symm n)) (a.us W q hall u) (E.put hj) ?_ (λ_=>rfl) (by grind [Array.setIfInBounds_comm])⟩
   ·have hpi:p≠i:=ψ
    have hpl:p<ops.size:=by
     rcases Nat.lt_or_ge p ops.size with h|h
     ·exact h
     rw[show dv ops p=default by simp[dv,S7,Array.getElem?_eq_none h]]at L;cases L
    have h0:ops[p]? = some ops[p]:=ψ
    have U:=L;rw[bA h0]at U;refine TO h0 (λhlk=>?_) cd1 (W.differ i p b _ d w U (Ne.symm hpi) D h0 c.dst) (S p (getD_set_true hp1) L hp3);have:=W.look i p b _ d w (Ne.symm hpi) D h0 c.dst hlk;exact unl f (E p _ h0 hp1 i this)
   obtain⟨dp,q1,q2,q3⟩:=hrd;rw[bA D]at q1 q2 q3;have hdp:dp=d:=by grind [Yl.dst]
   subst hdp;rw[mO]at q3;obtain⟨M,e1,e2,e3⟩:=kv q3;subst e1;have agr1:ia (eff none dp M F1) F1 (b.looksAt ops):=mM g6 cd1;have fromv:eJ F1 (b.looksAt ops) M:=λe he=>by
    rcases e2 e he with h|⟨t,Y,h⟩
    all_goals grind [iD,cr]
   have Z:M.uses dp=false:=by
    cases hu:M.uses dp with
    | false=>rfl
    | true=>
     rcases fromv dp hu with h|⟨t,_,h⟩
     all_goals grind
   refine⟨c.dst,c.lt,Z,fromv,ψ,λF' hA O _ X hK=>?_⟩;have agr2:=agr1.trans hA;unfold lQ;rw[wL agr2,q2];simp only;unfold gJ fS
   grind [ia.mono,iD,Yl.lt,Dl,bV]
  rw[CD G]at B |-;have hap:b.apart ops g=true:=by grind [RY.apart]
  obtain⟨ap1,ap2,ap3⟩:=Oper.apart_spec hap;have hdl:d∉g.looksAt ops:=ap1 d c.dst;have cdj':∀o,g.dst=some o->∀t,(F t).uses o=false:=λo hdj=>a.dst j g o G q R hdj
  have cmv:∀s,l=some s->(∀t,(F t).uses s=false)/\s∉g.looksAt ops/\s∈b.looksAt ops:=λs hs=>by
   obtain⟨J,⟨T,r⟩,A⟩:=c.mvl s hs;exact⟨a.mv i b T s w D f J r A,λhl=>n ((gu A).2 i j b g D q (dd r) hl).symm,dd r⟩
  have cmvj:∀T s,g.guard=none->od g.op=some (T,s)->jy ops g s=true->(∀t,(F t).uses s=false)/\s∉b.looksAt ops/\s∈g.looksAt ops:=λT s J r A=>
   ⟨a.mv j g T s G q R J r A,λhl=>n ((gu A).2 i j b g D q hl (dd r)).symm,dd r⟩
  have avno:∀e,e∉b.looksAt ops->(∀t,(F t).uses e=false)->av.uses e=false:=λe B h2=>by
   cases hu:av.uses e with
   | false=>rfl
   | true=>
    rcases c.from_ e hu with h|⟨t,_,h⟩
    all_goals grind
  obtain⟨mvj,o,avj,y,hKj⟩:=qt B (λo hdj t=>kx ψ (cdj' o hdj t)) (λT s J r A t=>by grind [kx]);have hdne:d≠o:=λe=>ap2 d c.dst (by rw[y.dst,e])
  have hdjl:o∉b.looksAt ops:=ap3 o y.dst;have cdj:∀t,(F t).uses o=false:=cdj' o y.dst
  have cmj:∀s,mvj=some s->(∀t,(F t).uses s=false)/\s∉b.looksAt ops/\s∈g.looksAt ops:=λs hs=>by
   obtain⟨J,⟨T,r⟩,A⟩:=y.mvl s hs
   grind
  have lookj:∀t,t∈g.looksAt ops->eff l d av F t=F t:=λt Y=>by grind [eff]
  have looki:∀t,t∈b.looksAt ops->eff mvj o avj F t=F t:=λt Y=>by grind [eff]
  have avjno:∀e,e∉g.looksAt ops->(∀t,(F t).uses e=false)->avj.uses e=false:=λe B h2=>by
   cases hu:avj.uses e with
   | false=>rfl
   | true=>
    rcases y.from_ e hu with h|⟨t,Y,h⟩
    all_goals grind
  have agrj:ia (eff l d av F) F (g.looksAt ops):=λt Y=>by grind [eff]
  refine y.at_ F agrj cdj ψ _ (ih (listed.setIfInBounds j true) (eff mvj o avj F) l av (ready_mono hr (Ne.symm n)) (a.put (λj' o' d' hm' V Q hl' O=>?_) (λj' o' T s hm' V Q hl' J r A=>?_)) (E.put hj) ?_ hnm ?_)
  ·refine avjno d' (λh=>?_) (a.dst j' o' d' hm' Q hl' O)
   grind [RY.look]
  ·exact avjno s (λh=>V ((gu A).2 j' j o' g Q q (dd r) h)) (a.mv j' o' T s hm' Q hl' J r A)
  ·refine⟨c.dst,c.lt,c.self,λe he=>?_,c.mvl,λF' hA O hs' X hK=>c.at_ F' (λt Y=>?_) O hs' X hK⟩
   ·rcases c.from_ e he with h|⟨t,Y,h⟩
    all_goals grind
   obtain⟨a1,a2⟩:=hA t Y
   grind [eff]
  rw[Array.setIfInBounds_comm _ _ n];have:eff l d av (eff mvj o avj F)=eff mvj o avj (eff l d av F):=by grind [eff]
  grind
theorem BY:∀{b:List Nat}{X:Prop}{F:Nat->AV},Pv P TE ops b X F->X/\∀p,p∈b->TQ P TE ops p F
 | [],X,F,h=>⟨h,ψ⟩
 | p::l,X,F,h=>by
  simp only[Pv]at h;unfold Uw at h;cases c:(dv ops p).dst with
  | none=>grind
  | some d=>
   rw[c]at h;simp only at h;cases f:KT F (dv ops p) with
   | some q=>grind
   | none=>
    rw[f]at h;simp only at h;obtain⟨g,i,-,-⟩:=kv h;obtain⟨e,k,j⟩:=(show g=F d/\X/\∀p,p∈l->TQ P TE ops p F from⟨i.out.1,BY i.out.2⟩)
    refine⟨k,λn a=>?_⟩;rcases List.mem_cons.1 a with rfl|a
    ·exact⟨d,c,f,jE h λg h=>h.out.1⟩
    grind
variable{l:List (Nat × List Nat)}
theorem uQ : xR l i=true↔∃p,p∈l/\p.1=i:=by grind [W2,Nat.beq_refl,xR]
theorem qr{k:Nat × List Nat} : xR (k::l) i=(Nat.beq k.1 i || xR l i):=rfl
theorem EI(b:RY ops ds nm){K:(Nat->AV)->Prop} : ∀(l:List (Nat × List Nat))(listed:Array Bool)(F:Nat->AV),Ge ops ds l=true->listed.size=ops.size->(∀j,j<ops.size->listed.getD j true = !xR l j)->mX ops ds F listed->DC ops listed->
  LV P TE N ops ds nm l K F->FU P TE N ops ds K l.length listed F
 | [],listed,F,_,hs,E,_,_,c=>by
  refine⟨?_,c⟩;apply List.eq_nil_iff_forall_not_mem.2;intro j R;obtain⟨S,o,ho,-⟩:=mem_ready.1 R;have G:=(t4.1 ho).1;rw[E j G]at S;cases S
 | k::l,listed,F,A,hs,E,a,H,c=>by
  simp only[Ge,I0]at A;obtain⟨⟨⟨⟨q1,q2⟩,q3⟩,Z⟩,q5⟩:=A;have hk:k.1<ops.size:=by simp_all
  have r:ops[k.1]? = some ops[k.1]:=ψ
  have hrf:∀i,i<ops.size->listed.getD i true=true->listed.getD i false=true:=ψ
  have hready:k.1∈Region.ready .any ops listed:=mem_ready.2 ⟨by grind [qr,Nat.beq_refl],_,r,λe he hb=>by
    have G:=b.back k.1 _ r e he hb
    grind [bA,qr]⟩
  have B:∀j,j<ops.size->(listed.setIfInBounds k.1 true).getD j true = !xR l j:=λj R=>by
   by_cases w:j=k.1
   ·simp_all
   rw[getD_set_ne true (Ne.symm w),E j R,qr,show Nat.beq k.1 j=false by rw[<-C6,Nat.beq_eq];exact Ne.symm w];rfl
  show FU P TE N ops ds K (l.length+1) listed F;simp only[LV]at c;rw[bA r]at c Z;have U:listed.getD k.1 true=false:=(mem_ready.1 hready).1;cases f:qQ ds ops[k.1] with
  | true=>
   rw[f]at c;simp only[cond_true]at c;obtain⟨mv,d,av,hy,c,hnm⟩:=LI c (λd hd=>a.dst k.1 _ d f r U hd) (λT s g1 g2 g3=>a.mv k.1 _ T s f r U g1 g2 g3);have C:∀e∈ops[k.1].after,Region.binds .any e=true->listed.getD e.on false=true:=by grind [Go.mem_ready]
   refine JJ b r f l.length listed F mv av hready a H hy hnm (EI b l _ _ q5 (by simpa using hs) B (a.put (λO Q V g D n hl'' J=>?_) (λO Q T s g D n hl'' g1 g2 g3=>?_)) (H.put hready) c)
   ·cases hu:av.uses V with
    | false=>rfl
    | true=>
     rcases hy.from_ V hu with h|⟨t,_,h⟩
     ·have:=b.look O k.1 Q _ V g D n r J h
      grind [cz]
     rw[a.dst O Q V g n hl'' J t]at h;cases h
   cases hu:av.uses s with
   | false=>rfl
   | true=>
    rcases hy.from_ s hu with h|⟨t,_,h⟩
    ·grind [gu,dd]
    rw[a.mv O Q T s g n hl'' g1 g2 g3 t]at h;cases h
  | false=>
   rw[f]at c Z;simp only[cond_false]at c;simp only[Bool.false_or,I0]at Z;obtain⟨⟨r1,r2⟩,r3⟩:=Z;refine⟨ψ,λj R=>?_⟩;obtain⟨hjun,oj,y,C⟩:=mem_ready.1 R;have hjlt:=(t4.1 y).1;have w:j=k.1:=by grind [uQ,pJ]
   subst w;rw[r]at y;simp only[C1]at y;subst y;unfold wa;rw[r];simp only[f,CB (show ¬false=true by decide)];have post:∀u,Pv P TE ops k.2 (LV P TE N ops ds nm l K u) u->mX ops ds u (listed.setIfInBounds k.1 true)->(∀p,listed.getD p false=true->qQ ds (dv ops p)=true->wz ops k.1 p=false->TQ P TE ops p u)/\FU P TE N ops ds K l.length (listed.setIfInBounds k.1 true) u:=λu L W=>by
    obtain⟨X,hrd⟩:=BY L;refine⟨λp hp1 hp2 hp3=>hrd p ?_,EI b l _ _ q5 (by simpa using hs) B W (H.put hready) X⟩;have hpl:p<ops.size:=ψ
    grind [gK,qr,W2]
   cases hlater:l.any (λj=>qQ ds (dv ops j.1)) with
   | false=>
    refine kE c λu L=>post u L ⟨λO Q V g n hl'' J=>?_,λO Q T s g n hl''=>?_⟩
    all_goals grind [uQ,bA]
   | true=>
    rw[hlater]at r3;simp only[Bool.not_true,Bool.false_or,I0]at r3;obtain⟨x,hx1,q⟩:=I4.1 hlater;have Y:listed.getD x.1 true=false/\x.1<ops.size:=by
     have G:x.1<ops.size:=by
      rcases Nat.lt_or_ge x.1 ops.size with h|h
      ·exact h
      rw[show dv ops x.1=default by simp[dv,S7,Array.getElem?_eq_none h]]at q;cases q
     grind [uQ]
    have M:ops[x.1]? = some ops[x.1]:=ψ
    rw[bA M]at q;obtain⟨d,hd,hdd⟩:=Kx q;have hxk:x.1≠k.1:=ψ
    refine kE (RL (d:=d) (xC r3.1) r3.2 (λe=>?_) (λhlk=>?_) (a.dst x.1 _ d q M Y.1 hd) c) λu S=>post u S.1 (a.us b r C S.2)
    ·grind [qQ]
    have:=b.look x.1 k.1 _ _ d q hxk M r hd hlk
    grind [cz]
theorem E7{sch:List (Nat × List Nat)}(h:Eg ops ds sch=true):RY ops ds (UJ sch)/\Ge ops ds sch=true/\sch.length=ops.size/\∀j,j<ops.size->xR sch j=true:=by
 unfold Eg at h;simp only[I0]at h;obtain⟨⟨p,k⟩,l⟩:=h;have C:=λj (o:j<ops.size)=>gK p o
 have r:∀(i j:Nat)(c b:Oper),i≠j->ops[i]? = some c->ops[j]? = some b->AU ops ds (UJ sch) i j=true:=λi j c b a f g=>by grind [gK,Nat.beq_eq]
 refine⟨⟨λj b o e t u=>?_,λi j c b n q a f g=>?_,λi j c b d n a f g w D=>?_,λi j c b d n q a f g w t=>?_,λi j c b n q a f g=>?_,λj b T s n o y A=>?_⟩,l,W2 k,λj o=>?_⟩
 ·grind [bA,Nat.blt_eq]
 ·grind [bA,AU]
 ·have:=r i j c b a f g
  unfold AU at this;rw[bA f,bA g,n]at this;have B:u5 ops i j=true:=by grind [bA,Nat.beq_refl,u5]
  grind
 ·grind [bA,Nat.beq_refl,AU]
 all_goals grind [bA,AU]
theorem uR{l:List Nat} : En l j=true↔j∈l:=by grind [W2,Nat.beq_refl,En]
def EU{p:Nat->Prop} : ∀{l:List Nat}{i:Nat},UN p i l->∀j,j∈i::l->p j
 | [],i,h,j,a=>by rw[V1.1 a];exact h
 | k::l,i,h,j,a=>by
  rcases List.mem_cons.1 a with rfl|a
  ·exact h.1
  exact EU h.2 j a
theorem Gw{l:List Nat}{K:Prop}{p:Nat->Prop}(h:UO l K p):(l=[]->K)/\∀j∈l,p j:=by
 cases l with
 | nil=>exact⟨λ_=>h,ψ⟩
 | cons i l=>exact⟨ψ,EU h⟩
theorem sD{done:List Nat}(h:listed.size=ops.size)(b:∀j,j<ops.size->listed.getD j true=En done j)(l:∀k∈done,k<ops.size) : j∈Region.ready .any ops listed↔j∈Q2 ops done:=by
 have c:∀i,listed.getD i false=En done i:=λi=>by grind [uR]
 rw[mem_ready];unfold Q2;rw[Z4,List.mem_range,I0];constructor
 ·grind [bA]
 rintro⟨a,n,d⟩
 refine⟨ψ,ops[j],I7 a,λe f g=>?_⟩;have:=O4.1 d e (by rw[bA (I7 a)];simpa using f)
 grind
theorem Ti{K:(Nat->AV)->Prop} : ∀(n:Nat)(done:List Nat)(listed:Array Bool)(F:Nat->AV),listed.size=ops.size->(∀j,j<ops.size->listed.getD j true=En done j)->(∀k∈done,k<ops.size)->TM P TE N ops K n done F->FU P TE N ops [] K n listed F
 | 0,done,listed,F,c,a,f,h=>by
  obtain⟨g,l⟩:=Gw h;have o:Q2 ops done=[]:=List.eq_nil_iff_forall_not_mem.2 λj b=>l j b
  exact⟨List.eq_nil_iff_forall_not_mem.2 λj b=>(by grind [sD]),g o⟩
 | n+1,done,listed,F,c,a,f,h=>by
  obtain⟨g,l⟩:=Gw h;refine⟨λo=>g (List.eq_nil_iff_forall_not_mem.2 λj b=>(by rw[<-sD c a f,o]at b;cases b)),λi t=>?_⟩;have d:=(sD c a f).1 t;have q:=l i d;have u:i<ops.size:=List.mem_range.1 (Z4.1 d).1;have r:ops[i]? = some ops[i]:=ψ
  unfold wa;rw[r];simp only;rw[bA r]at q;have w:qQ [] ops[i]=false:=by grind [qQ]
  rw[CB (by rw[w];decide)];refine kE q λy A=>⟨λp _ B=>?_,Ti n (i::done) _ y (by simpa using c) (λj b=>?_) (λk C=>?_) A⟩
  ·grind [qQ]
  ·by_cases e:j=i
   ·subst e
    rw[show En (j::done) j=true from uR.2 ψ];simp[c,b]
   rw[getD_set_ne true (Ne.symm e),a j b]
   grind [uR]
  grind
theorem yZ(g:∀t i,TE t=some i->ib P t i)(y:P.follows .mixedOrders=true){id:Nat}{tb:List (Nat × Nat × List Nat)}(b:nO tb id ops=true)(c:DD P TE N tb id ops K F)(A:St w0 M S0 N F a w)(B:∀F' C D,K F'->St w0 M S0 N F' C D->Q .normal C D):(Code.region id ops true).wp P Q a w:=by
 unfold nO at b;unfold DD at c;cases q:zq tb id with
 | none=>grind
 | some p=>
  obtain⟨m,L⟩:=p;rw[q]at b c;simp only at b c;cases k:Nat.ble 65536 m with
  | true=>
   rw[k]at c;refine wp_region_any y ?_;have f:St w0 M S0 N F a {w with drawn:=w.drawn+1}:=by
    obtain⟨S,φ,h⟩:=A;exact⟨S,φ,h.more (w1:={w with drawn:=w.drawn+1}) (λ_ _ h=>h) ψ ⟨rfl,rfl,rfl,W3 _,λ_ _ _=>rfl,λ_ _ _ _=>rfl,λ_ _ _ _=>rfl⟩⟩
   refine rC g (ds:=[]) B ops.size (Array.replicate ops.size false) _ a _ ?_ f;exact Ti ops.size [] _ F (by simp) (λj n=>by simp[n,En]) ψ c
  | false=>
  rw[k]at b c;simp only[cond_false]at b c;cases r:Nat.ble 256 m with
  | false=>
   grind [D0]
  | true=>
   rw[r]at b c;simp only[cond_true,Kr]at b c;generalize L.take (m - 256)=ds at b c;generalize dec (L.drop (m - 256))=sch at b c;obtain⟨E,l,e,G⟩:=E7 b;refine wp_region_any y ?_;have f:St w0 M S0 N (Ab.clr ds F) a {w with drawn:=w.drawn+1}:=by
    have O:=A.clr ds;obtain⟨S,φ,h⟩:=O;exact⟨S,φ,h.more (w1:={w with drawn:=w.drawn+1}) (λ_ _ h=>h) ψ ⟨rfl,rfl,rfl,W3 _,λ_ _ _=>rfl,λ_ _ _ _=>rfl,λ_ _ _ _=>rfl⟩⟩
   refine rC g (ds:=ds) B ops.size (Array.replicate ops.size false) _ a _ ?_ f;have u:∀d,ds.any (Nat.beq d)=true->∀t,(Ab.clr ds F t).uses d=false:=λd R t=>by
    rw[Dt];cases X:ds.any (λd=>(F t).uses d) with
    | true=>rfl
    | false=>
     simp_all
   rw[<-e];refine EI E sch _ _ l (by simp[e]) (λj n=>by simp_all) ⟨λj o d H J _ R t=>?_,λj o T s H J _ _ U V t=>u s (E.mvs j o T s H J U V) t⟩ (λj Y n Z=>by
     have W:=(t4.1 n).1
     simp_all) c
   grind [Kx]
end
def kO:List (Option Nat)->Kd
 | [ag]=>me ag
 | a=>.tup a
def rX:ResultVar->Nat
 | .tmp t=>t
 | .cell t _=>t
def Gp(tmps:Array Value):ResultVar->Sem Value
 | .tmp t=>pure (tmps.getD t undef)
 | .cell a t=>do loadVar t (<-asAddr (tmps.getD a undef))
def resOne(TE:Nat->Option TI)(F:Nat->AV)(r:ResultVar)(K:Option Nat->List C->Prop):Prop:=
 match r with
 | .tmp t=>(match F t with
   | .H .one cs=>K none cs
   | .H .agg cs=>K (some cs.length) cs
   | _=>False)
 | .cell t T=>match TE T with
  | some i=>bif i.agg || Nat.beq i.size 1 then(match F t with
    | .H .box cs=>bif Nat.beq cs.length i.size then K (qJ i) cs else False
    | _=>False) else False
  | none=>False
def resA(TE:Nat->Option TI)(F:Nat->AV):List ResultVar->List Nat->(List (Option Nat)->List C->Prop)->Prop
 | [],_,K=>K [] []
 | r::rs,seen,K=>bif seen.any (Nat.beq (rX r)) then False else resOne TE F r λb c=>resA TE F rs (rX r::seen) λd a=>K (b::d) (c++a)
def Va:RA->AV
 | .val a cs=>.H (me a) cs
 | .ptr cs=>.iref cs 0
 | .fn Ok=>.fv Ok
def wu:Nat->List RA->List (Nat × AV)
 | _,[]=>[]
 | i,A::As=>(i,Va A)::wu (i+1) As
inductive MT:C->C->Prop
 |rfl_ (c:C):MT c c
 |z_:MT .z (.s .own [])
 |own_ (rows rows':List (List C)) (hl:rows.length=rows'.length) (hk:∀(i:Nat)(r r':List C),rows[i]? = some r->rows'[i]? = some r'->r.length=r'.length)
   (hr:∀(i j:Nat)(r r':List C)(c c':C),rows[i]? = some r->rows'[i]? = some r'->r[j]? = some c->r'[j]? = some c'->MT c c'):MT (.s .own rows) (.s .own rows')
def P2(cs a:List C):Prop:=cs.length=a.length/\∀(j:Nat)(c b:C),cs[j]? = some c->a[j]? = some b->MT c b
def P2.nil:P2 [] []:=⟨rfl,λj c a h=>by simp at h⟩
variable{cs a:List C}
theorem P2.cons{c b:C}(h:MT c b)(d:P2 cs a):P2 (c::cs) (b::a):=by
 refine⟨by simp[d.1],λj y e f g=>?_⟩;cases j with
 | zero=>grind
 | succ j=>exact d.2 j y e (by simpa using f) (by simpa using g)
def MT.rep{r k:List C}(h:P2 r k):MT (.s .own (List.replicate n r)) (.s .own (List.replicate n k)):=by
 refine .own_ _ _ (by simp) (λi a b d e=>?_) (λi j a b c p d e l o=>?_)
 ·have f:=List.mem_replicate.1 (O2 d)
  have g:=List.mem_replicate.1 (O2 e);rw[f.2,g.2];exact h.1
 have f:=List.mem_replicate.1 (O2 d);have g:=List.mem_replicate.1 (O2 e);rw[f.2]at l;rw[g.2]at o;exact h.2 j c p l o
theorem R3{w:World}{S Y:am}{c:C}{v:Value}(h:dJ w S Y c v):∀t,MT c t->dJ w S Y t v:=by
 induction h with
 | z F a=>
  intro t j;cases j with
  | rfl_=>exact .z _ _
  | z_=>exact .nil _ _ _ trivial
 | nil F o a K=>
  intro t j;cases j with
  | rfl_=>exact .nil _ _ _ K
  | own_ d e E=>obtain rfl:e=[]:=I8 (by simpa using E.symm);exact .nil _ _ _ trivial
 | own F o g k n y d u f K J L p A D R T j G X=>
  intro t M;cases M with
  | rfl_=>exact .own _ o g k n y d u f K J L p A D R T j G
  | own_ d e E Z U=>
   have V:∀(i:Nat)(W:List C),e[i]? = some W->∃r,d[i]? = some r:=ψ
   refine .own _ .own g k n y e u f trivial (E.symm.trans J) (λW hr'=>?_) p A D R T j ψ
   all_goals grind [List.mem_iff_getElem?]
 | v F x N=>intro t j;cases j;exact .v _ _ N
 | x F u N=>intro t j;cases j;exact .x _ _ N
 | V F g O k n y d u J L p hS G X=>intro t j;cases j;exact .V _ g O k n y d u J L p hS G
 | m F b l es q D P he Q B=>intro t j;cases j;exact .m _ b l es q D P he Q B
 | it F r b since c0 l seen q cur left D U P B G Q E H=>intro t j;cases j;exact .it _ r b since c0 l seen q cur left D U P B G Q E H
def WK(cs a:List C):Prop:=PQ cs a\/P2 cs a
inductive jt(k k':Kd)(cs cs':List C):Prop
 |mk_ (h:k=k'/\WK cs cs')
def n6:∀(cs:List C),PQ cs cs
 | []=>trivial
 | c::cs=>by
  refine⟨?_,n6 cs⟩;cases c with
  | s o a=>cases o<;>rfl
  | x=>trivial
  | _=>rfl
variable{k:Kd}
def jt.mk{b:Kd}(h1:k=b)(c:cs=a):jt k b cs a:=by refine .mk_ ?_;exact⟨h1,.inl (c ▸ n6 cs)⟩
def jt.wk{b:Kd}(h1:k=b)(c:PQ cs a):jt k b cs a:=.mk_ ⟨h1,.inl c⟩
def jt.dk{b:Kd}(h1:k=b)(c:P2 cs a):jt k b cs a:=.mk_ ⟨h1,.inr c⟩
def jt.out{b:Kd}(h:jt k b cs a):k=b/\WK cs a:=by obtain⟨h⟩:=h;exact h
theorem WK.len(h:WK cs a):cs.length=a.length:=h.elim (λh=>(ug h).1) (λh=>h.1)
theorem WK.row{w:World}{S Y:am}{c:List C}{u:Nat->Value}(a:WK cs c)(h:cP w S Y cs u):cP w S Y c u:=by
 rcases a with a|a
 ·exact DR a h
 obtain⟨f,k,l,n⟩:=h;refine⟨f,λj i b=>?_,λj b=>l j (by rw[a.1];exact b),λj o b e=>n j o (by rw[a.1];exact b) (by rw[a.1];exact e)⟩;have g:=(Z2.1 b).1;have d:cs[j]? = some (cs[j]'(by rw[a.1];exact g)):=ψ
 exact R3 (k j _ d) i (a.2 j _ i d b)
def RE(TE:Nat->Option TI)(c:List ResultVar)(k:Kd)(rcs:List C):Exit->(Nat->AV)->Prop:=λe F=>
 match e with
 | .normal=>resA TE F c [] λa b=>jt (kO a) k b rcs
 | .ret=>resA TE F c [] λa b=>jt (kO a) k b rcs
 | _=>False
def Rk(F:Nat->AV)(t:Nat)(rcs:List C):Prop:=
 match F t with
 | .H .box cs=>jt .box .box cs rcs
 | .ref a 0 []=>(match F a with
   | .H .box cs=>jt .box .box cs rcs
   | _=>False)
 | _=>False
def Ur(t:Nat)(rcs:List C):Exit->(Nat->AV)->Prop:=λe F=>
 match e with
 | .normal=>Rk F t rcs
 | .ret=>Rk F t rcs
 | _=>False
section
variable{P:Program}{w0 w w1:World}{M S0 S:am}{N:f7}{φ:Nat->am}{F:Nat->AV}{a:Act}{TE:Nat->Option TI}
theorem bg.resOne(h:bg w0 M S0 N S φ F a w)(n:∀t i,TE t=some i->ib P t i){r:ResultVar}{K:Option Nat->List C->Prop}(b:resOne TE F r K) :
  ∃ag cs v,K ag cs/\bC w S (φ (rX r)) ag cs v/\(Gp a.tmps r).run P w=.ok v w:=by
 cases r with
 | tmp t=>
  have e:=h.slot t;simp only[Ab.resOne]at b;cases p:F t with
  | H k cs=>
   rw[p]at b e;obtain⟨E,Y,G,j,H,A,l⟩:=e;cases k with
   | one=>exact⟨none,cs,tvs a t,b,⟨A,_,rfl,l.mono (λ_ _ h=>h) j⟩,rfl⟩
   | agg=>
    obtain⟨arr,q,u⟩:=A;refine⟨some cs.length,cs,tvs a t,b,⟨rfl,cu w .agg (tvs a t),?_,l.mono (λ_ _ h=>h) j⟩,rfl⟩;rw[q];have:=qI arr;rw[u]at this;exact this
   | _=>exact b.elim
  | _=>grind
 | cell t T=>
  have e:=h.slot t;simp only[Ab.resOne]at b;split at b
  case h_2=>exact b.elim
  rename_i i J;have L:=n _ _ J;cases B:(i.agg || Nat.beq i.size 1) with
  | false=>grind
  | true=>
   rw[B]at b;simp only[cond_true]at b;cases p:F t with
   | H k cs=>
    rw[p]at b e;cases k with
    | box=>
     simp only at b;cases D:Nat.beq cs.length i.size with
     | false=>grind
     | true=>
      rw[D]at b;have O:=W2 D;obtain⟨E,Y,G,j,H,⟨g,o,q,Q⟩,l⟩:=e;have c:∀d,d<i.size->cel w g (o+d)=some (cu w .box (tvs a t) d):=λd R=>by grind [cu]
      have f:=zb (w:=w) L B c;refine⟨_,cs,_,b,⟨by grind [qg],_,rfl,l.mono (λ_ _ h=>h) j⟩,?_⟩;have y:a.tmps.getD t undef=.pointer (some ⟨g,o,none⟩):=q;simp only[Gp,y,asAddr];exact f
    | _=>exact b.elim
   | _=>grind
def H0{ag:Option Nat}{cs:List C}{v:Value}{Y:am}(h:bC w S Y ag cs v):∃u,v.cells.toList=(List.range cs.length).map u/\cP w S Y cs u/\v=mkv ag u:=by
 obtain⟨a,u,rfl,b⟩:=h;refine⟨u,?_,b,rfl⟩;rw[qv (λe=>by subst e;exact b.one (by simp at a;omega)),a]
theorem HP{d e:am}{cs a:List C}{u g:Nat->Value}(h:cP w S d cs u)(h':cP w S e a g)(p:∀b o,d b o->¬e b o) :
  cP w S (λb o=>d b o\/e b o) (cs++a) (λj=>if j<cs.length then u j else g (j - cs.length)):=by
 obtain⟨f,q,r,t⟩:=h;obtain⟨i,k,l,n⟩:=h';refine⟨λj=>if j<cs.length then f j else i (j - cs.length),λj c y=>?_,ψ,ψ⟩
 all_goals grind
theorem bg.resA(h:bg w0 M S0 N S φ F a w)(e:∀t i,TE t=some i->ib P t i):∀{p:List ResultVar}{seen:List Nat}{K:List (Option Nat)->List C->Prop},resA TE F p seen K->
  ∃sh cs vs u,K sh cs/\(p.mapM (Gp a.tmps)).run P w=.ok vs w/\xf sh vs/\sh.length=p.length/\xG sh=cs.length/\
   (vs.flatMap λv=>v.cells.toList)=(List.range cs.length).map u/\(∀ag,sh=[ag]->∃v,vs=[v]/\bC w S (λb o=>∃t,t∉seen/\φ t b o) ag cs v)/\cP w S (λb o=>∃t,t∉seen/\φ t b o) cs u
 | [],seen,K,c=>⟨[],[],[],λ_=>undef,c,rfl,trivial,rfl,rfl,rfl,ψ,cP.nil _ _ _ _⟩
 | r::p,seen,K,c=>by
  simp only[Ab.resA]at c;cases d:seen.any (Nat.beq (rX r)) with
  | true=>grind
  | false=>
   rw[d]at c;simp only[cond_false]at c;have L:rX r∉seen:=λY=>by grind [Nat.beq_refl]
   obtain⟨ag,cs,v,c,q,G⟩:=h.resOne e c;obtain⟨sh,f,vs,O,Q,y,A,B,R,hcells,-,g⟩:=bg.resA h e c;obtain⟨u,D,H,k⟩:=H0 q;have T:∀b o,φ (rX r) b o->¬∃t,t∉rX r::seen/\φ t b o:=λb o U ⟨t,Z,E⟩=>h.dis _ _ ψ b o U E
   refine⟨ag::sh,cs++f,v::vs,λj=>if j<cs.length then u j else O (j - cs.length),Q,?_,?_,by simp[B],?_,?_,?_,?_⟩
   ·simp_all
   ·obtain⟨V,-⟩:=q
    cases ag with
    | none=>
     refine⟨?_,A⟩;rw[k];have J:(u 0).oneCell'=true:=H.one (by simp at V;omega);show(u 0).cells = #[u 0];cases W:u 0<;>first|(rw[W]at J;cases J;done)|rfl
    | some n=>exact⟨⟨_,by rw[k];rfl,by simp⟩,A⟩
   ·rw[rV,Y3,R,q.1]
   ·simp only[V7,D,hcells,Y3]
    apply List.ext_getElem?
    grind
   ·intro X l
    simp only[List.cons.injEq]at l;obtain⟨rfl,rfl⟩:=l;cases vs with
    | cons _ _=>exact A.elim
    | nil=>
     have:f=[]:=I8 (by simp_all);subst this;exact⟨v,rfl,by rw[List.append_nil];exact q.mono (λ_ _ h=>h) ψ⟩
   exact(HP H g T).mono (λ_ _ h=>h) ψ
theorem vt:∀{A:List RA}{vs:List Value}(i:Nat),zD w S A vs->∀t,(lay (wu i A) t=.dead)\/(∃a v,i<=t/\vs[t - i]? = some v/\lay (wu i A) t=Va a/\oG w S a v)
 | [],_,i,_,t=>.inl rfl
 | a::A,[],i,h,t=>h.elim
 | a::A,v::vs,i,h,t=>by
  simp only[wu,lay];cases b:Nat.beq t i with
  | true=>
   have:=W2 b;subst this;exact .inr ⟨a,v,W3 _,by simp,rfl,h.1⟩
  | false=>
   have c:t≠i:=λe=>by simp_all
   rcases vt (i+1) h.2 t with d|⟨f,g,d,j,k⟩
   all_goals grind
theorem oG.slot{A:RA}{v:Value}(h:oG w S A v){tv:Nat->Value} : cN w S F tv NO (Va A) v:=by
 cases A with
 | val f a=>exact bC.slot h
 | ptr a=>obtain⟨g,b,u,c,d,e⟩:=h;exact⟨g,b,u,by rw[c,Nat.add_zero],d,e⟩
 | fn Ok=>exact h
def Dj:∀{A:List RA}{vs:List Value},zD w S A vs->A.length=vs.length
 | [],[],_=>rfl
 | _::_,_::_,h=>by simp[Dj h.2]
 | [],_::_,h=>h.elim
 | _::_,[],h=>h.elim
variable{ck:Nat->Array Oper->Bool}{rcs: List C}{D: Nat -> Array Oper -> ((Nat -> AV) -> Prop) -> (Nat -> AV) -> Prop}
theorem Mc{f : Nat}{d : Func}{c : Code}{sh : Bool}{A : List RA}{k : Kd}(K : ∀t i, TE t = some i -> ib P t i)(hf : P.funcs[f]? = some d)(hn : (d.name == "runtime.NumGoroutine") = false)(p:d.body=some c)(hD:yP P N ck D)(hc:gw ck c=true)(hN:A.length+(d.ntmps - A.length)=N.n)(hkp:N.kp=[])(U:sh=true\/iv rcs)(hp:aw P TE N D c (RE TE d.results.toList k rcs) (lay (wu 0 A))):ay P f sh A k rcs:=by
 refine⟨⟨d,hf,hn,by rw[p];rfl⟩,λw S r hS hA=>?_⟩;have hlen:=Dj hA;refine calls_of_wp hf p ?_;have V:St w NO S N (lay (wu 0 A)) {tmps:=r.toArray++Array.replicate (d.ntmps - r.toArray.size) undef,defers:=[]} w:=by
  refine⟨S,λ_=>NO,λt=>?_,λ_ _ _ _ _ h=>h.elim,λ_ _ _ h=>h.elim,λ_ _ _ h=>h.elim,λ_ _ h=>h,ψ,Cc _ _,by simp;omega,rfl,ψ⟩;rcases vt 0 hA t with y|⟨A0,v,-,B,G,h4⟩
  ·rw[y];trivial
  rw[G];have hv:tvs {tmps:=r.toArray++Array.replicate (d.ntmps - r.toArray.size) undef,defers:=[]} t=v:=by
   have hlt:=(Z2.1 B).1;simp only[tvs,S7]
   grind
  grind [oG.slot]
 refine jf K hD c hc _ _ _ _ w hp V λe F' J g W Z=>?_
 obtain⟨S',φ',h⟩:=Z;have fin:resA TE F' d.results.toList [] (λsh L=>jt (kO sh) k L rcs)->J.defers=[]/\∃v,(results d J.tmps).run P g=.ok v g/\(∃v',Ending.returned v=.returned v'/\bz NO w g/\∃X S1:am,(∀b o,X b o->b<g.heap.size/\w.heap.size<=b)/\
     (∀b o,S1 b o->(sh=true/\S b o)\/(b<g.heap.size/\w.heap.size<=b))/\(∀b o,X b o->¬S1 b o)/\fL g NO k rcs.length v'/\cP g S1 X rcs (cu g k v')):=by
  intro hr;obtain⟨shs,L,a,u,M,hrun,q,hln,R,hcells,l,O⟩:=h.resA K hr;obtain⟨rfl,hwk⟩:=M.out;refine⟨h.defers,?_⟩;have H:(results d J.tmps).run P g=.ok (if h:a.toArray.size=1 then a.toArray[0] else .tuple a.toArray) g:=by
   have e:results d J.tmps=(do let r <-d.results.mapM (Gp J.tmps);pure (if h:r.size=1 then r[0] else .tuple r)):=by
    unfold results
    congr 1
   rw[e,<-Array.toArray_toList (xs:=d.results),List.mapM_toArray]
   simp_all
  refine⟨_,H,_,rfl,h.old,λb o=>∃t,φ' t b o,λb o=>(sh=true/\S' b o)\/(S' b o/\w.heap.size<=b),λb o ⟨t,p⟩=>⟨(h.ex t b o p).1,(h.ex t b o p).2.resolve_right (λh=>h)⟩,λb o p=>?_,λb o ⟨t,p⟩ hb'=>h.disS t b o p ψ,?_⟩
  ·rcases p with⟨y,B⟩|⟨y,B⟩
   ·rcases(h.sup b o B).2 with G|G|G
    ·grind
    ·exact .inr ⟨(h.sup b o B).1,G⟩
    exact G.elim
   exact .inr ⟨(h.sup b o y).1,B⟩
  have Q:fL g NO (kO shs) L.length (if h:a.toArray.size=1 then a.toArray[0] else .tuple a.toArray)/\cP g S' (λb o=>∃t,φ' t b o) L (cu g (kO shs) (if h:a.toArray.size=1 then a.toArray[0] else .tuple a.toArray)):=by
   have E:∀b o,(∃t,t∉([]:List Nat)/\φ' t b o)->∃t,φ' t b o:=ψ
   match shs,q,l,R with
   | [],q,_,R=>
    cases a with
    | cons _ _=>exact q.elim
    | nil=>
     have:L=[]:=ψ
     subst this;exact⟨⟨_,rfl,trivial,rfl⟩,cP.nil _ _ _ _⟩
   | [T],_,l,_=>
    obtain⟨v,rfl,hv⟩:=l T rfl;have:=(hv.mono (λ_ _ h=>h) E).slot (F:=F') (tv:=tvs J);obtain⟨X1,Y,y,B,G,h4,h5⟩:=this;refine⟨?_,h5.mono (λ_ _ h=>h) B⟩;cases T<;>exact h4
   | T::ag2::sh,q,_,R=>
    have hsz:¬a.toArray.size=1:=by
     match a,q with
     | [],q=>simp
     | [v],q=>cases T<;>cases ag2<;>exact q.2.elim
     | _::_::_,_=>simp
    rw[dif_neg hsz];refine⟨⟨_,rfl,q,R⟩,(O.mono (λ_ _ h=>h) E).congr λj hj=>?_⟩;simp only[cu,kO,ns,hcells];simp[List.getD,hj]
  replace Q:=CM Q.1 (hwk.row Q.2);refine⟨by grind [WK.len],?_⟩;rcases U with y|y
  ·exact Q.2.mono ψ (λ_ _ h=>h)
  exact(Q.2.fresh y).mono (λ_ _ h=>h.elim) (λ_ _ h=>h)
 cases e with
 | normal=>exact fin W
 | ret=>exact fin W
 | _=>exact W.elim
theorem M9{f t : Nat}{j : Func}{c : Code}{A : List RA}(K : ∀t i, TE t = some i -> ib P t i)(hf : P.funcs[f]? = some j)(hn : (j.name == "runtime.NumGoroutine") = false)(a:j.body=some c)(hD:yP P N ck D)(hc:gw ck c=true)(hN:A.length+(j.ntmps - A.length)=N.n)(hkp:N.kp=[])(hr:j.results = #[.tmp t])(hp:aw P TE N D c (Ur t rcs) (lay (wu 0 A))):sf P f true A .box rcs:=by
 refine⟨⟨j,hf,hn,by rw[a];rfl⟩,λw S F hS hA=>?_⟩;have hlen:=Dj hA;refine calls_of_wp hf a ?_;have L:St w NO S N (lay (wu 0 A)) {tmps:=F.toArray++Array.replicate (j.ntmps - F.toArray.size) undef,defers:=[]} w:=by
  refine⟨S,λ_=>NO,λt=>?_,λ_ _ _ _ _ h=>h.elim,λ_ _ _ h=>h.elim,λ_ _ _ h=>h.elim,λ_ _ h=>h,ψ,Cc _ _,by simp;omega,rfl,ψ⟩;rcases vt 0 hA t with G|⟨A0,v,-,H,J,h4⟩
  ·rw[G];trivial
  rw[J];have hv:tvs {tmps:=F.toArray++Array.replicate (j.ntmps - F.toArray.size) undef,defers:=[]} t=v:=by
   have hlt:=(Z2.1 H).1;simp only[tvs,S7]
   grind
  grind [oG.slot]
 refine jf K hD c hc _ _ _ _ w hp L λe F' q k M O=>?_
 obtain⟨S',φ',h⟩:=O;have fin:Rk F' t rcs->q.defers=[]/\∃v,(results j q.tmps).run P k=.ok v k/\(∃Q,Ending.returned v=.returned Q/\bz NO w k/\∃X R:am,(∀b o,X b o->b<k.heap.size/\w.heap.size<=b)/\
     (∀b o,R b o->(true=true/\S b o)\/(b<k.heap.size/\w.heap.size<=b))/\(∀b o,X b o->¬R b o)/\∃r Y:am,(∀b o,r b o->X b o)/\(∀b o,Y b o->X b o)/\(∀b o,r b o->¬Y b o)/\fL k r .box rcs.length Q/\cP k R Y rcs (cu k .box Q)):=by
  intro l;have core:∃(d:Nat)(u:List C),tvs q t=tvs q d/\F' d=.H .box u/\jt .box .box u rcs:=by
   unfold Rk at l;split at l
   ·grind
   ·rename_i d T
    split at l
    case h_2=>exact l.elim
    rename_i u y;refine⟨d,u,?_,y,l⟩;have B:=h.slot t;rw[T]at B;obtain⟨k0,cs0,r0,j0,g0,o0,U,-,e3,e4⟩:=B;have E:=h.slot d;rw[y]at E;rw[y]at U;simp only[AV.H.injEq]at U;obtain⟨rfl,rfl⟩:=U;obtain⟨r,Y,G,H,J,⟨g,o,hv,-⟩,h5⟩:=E
    grind [plc,pd]
   exact l.elim
  obtain⟨d,u,V,y,l⟩:=core;have W:=l.out.2;have E:=h.slot d;rw[y]at E;obtain⟨r,Y,G,H,J,h4,h5⟩:=E;refine⟨h.defers,tvs q d,?_,tvs q d,rfl,h.old,φ' d,λb o=>S' b o/\(S b o\/w.heap.size<=b),λb o a=>⟨(h.ex d b o a).1,(h.ex d b o a).2.resolve_right (λh=>h)⟩,λb o a=>?_,λb o a Z=>h.disS d b o a Z.1,r,Y,G,H,J,?_,?_⟩
  ·rw[<-V];simp[results,hr,tvs]
  ·rcases a.2 with p|p
   ·grind
   exact .inr ⟨(h.sup b o a.1).1,p⟩
  ·grind [WK.len]
  exact(W.row h5).mono (λb o a=>⟨a,by
    rcases(h.sup b o a).2 with p|p|p
    · exact .inl p
    · exact .inr p
    exact p.elim⟩) (λ_ _ h=>h)
 cases e with
 | normal=>exact fin M
 | ret=>exact fin M
 | _=>exact M.elim
end
def DF(P:Program)(TE:Nat->Option TI)(N:f7)(tb:List (Nat × Nat × List Nat))(id:Nat)(ops:Array Oper)(K:(Nat->AV)->Prop)(F:Nat->AV):Prop:=
 match zq tb (id+1048576) with
 | some (t,offs)=>sS t offs (DD P TE N tb id ops K) F
 | none=>DD P TE N tb id ops K F
variable{P:Program}
def ss{TE:Nat->Option TI}(a:∀t i,TE t=some i->ib P t i)(e:P.follows .mixedOrders=true)(N:f7)(tb:List (Nat × Nat × List Nat)):yP P N (nO tb) (DF P TE N tb):=
 λ_ _ b _ _ _ _ _ _ _ _ c f g=>by
  unfold DF at c;split at c
  ·obtain⟨j,h,d⟩:=zv c f
   exact yZ a e b h d g
  exact yZ a e b c f g
def JM:List (Nat × TI)->Nat->Option TI
 | [],_=>none
 | p::l,t=>bif Nat.beq t p.1 then some p.2 else JM l t
def TR(P:Program):List (Nat × TI)->Prop
 | []=>True
 | p::l=>ib P p.1 p.2/\TR P l
def Fk{P:Program} : ∀{l:List (Nat × TI)},TR P l->∀t i,JM l t=some i->ib P t i
 | [],_,t,i,h=>by cases h
 | p::l,b,t,i,h=>by
  simp only[JM]at h;cases a:Nat.beq t p.1 with
  | true=>
   rw[a]at h;simp only[cond_true,C1]at h;have:=W2 a;subst this h;exact b.1
  | false=>rw[a]at h;exact Fk b.2 t i h
def UY:TypeDesc->Prop
 | .struct _=>False
 | .array _ _=>False
 | _=>True
variable{t:Nat}
def E8{i:TI}{d:TypeDesc}(h:P.underlying t=some d)(k:i.kind=.sc d:=by rfl)(a:(P.info? t).map (λx=>(x.zero.map (·.cells.toList),x.size,x.bytes))=some (some (i.zero.map cval),i.size,i.bytes):=by kernel_rfl)(z:kH i.zero:=by repeat' first|exact trivial|refine CM rfl ?_)(n:UY d:=by trivial):ib P t i:=⟨a,z,by rw[k];refine⟨h,?_⟩;revert n;cases d<;>exact id⟩
def vd{e:Nat}{i:TI}(h:P.underlying t=some (.slice e))(k:i.kind=.sl e:=by rfl)(a:(P.info? t).map (λx=>(x.zero.map (·.cells.toList),x.size,x.bytes))=some (some (i.zero.map cval),i.size,i.bytes):=by kernel_rfl)(z:kH i.zero:=by repeat' first|exact trivial|refine CM rfl ?_):ib P t i:=⟨a,z,by rw[k];exact h⟩
def fI{i:TI}{fs}(h:P.underlying t=some (.struct fs))(k:i.kind=.st (fs.toList.map (λf=>(f.offset,f.type))):=by rfl)(a:(P.info? t).map (λx=>(x.zero.map (·.cells.toList),x.size,x.bytes))=some (some (i.zero.map cval),i.size,i.bytes):=by kernel_rfl)(z:kH i.zero:=by repeat' first|exact trivial|refine CM rfl ?_):ib P t i:=⟨a,z,by rw[k];exact⟨_,h,rfl⟩⟩
def Vd{e:Nat}{i:TI}{v:Value}(h:P.underlying t=some (.map 3 e))(d:P.underlying 3=some (.int .i64))(k:i.kind=.mp 3 e v:=by rfl)(a:(P.info? t).map (λx=>(x.zero.map (·.cells.toList),x.size,x.bytes))=some (some (i.zero.map cval),i.size,i.bytes):=by kernel_rfl)(z:kH i.zero:=by repeat' first|exact trivial|refine CM rfl ?_)(b:(P.info? e).bind (·.zero)=some v:=by kernel_rfl)(c:v.oneCell'=true:=by rfl):ib P t i:=⟨a,z,by rw[k];exact⟨h,d,b,c⟩⟩
def ti3:TI:=⟨1,8,[.v (.int .i64 0)],.sc (.int .i64)⟩
def ti4:TI:=⟨1,1,[.v (.bool false)],.sc .bool⟩
def ti2:TI:=⟨1,8,[.v (.int .i64 0)],.sc (.int .i64)⟩
def ti5:TI:=⟨1,1,[.v (.int .u8 0)],.sc (.int .u8)⟩
def ti6:TI:=⟨1,1,[.v (.int .u8 0)],.sc (.int .u8)⟩
def ti7:TI:=⟨4,24,[.v (.int .i64 0),.v (.int .i64 0),.v (.bool false),.v (.int .u8 0)],.st [(0,2),(1,3),(2,4),(3,6)]⟩
def ti8:TI:=⟨4,24,[.v (.int .i64 0),.v (.int .i64 0),.v (.bool false),.v (.int .u8 0)],.st [(0,2),(1,3),(2,4),(3,6)]⟩
def ti9:TI:=⟨1,16,[.v (.string ⟨#[]⟩)],.sc .string⟩
def ti10:TI:=⟨1,16,[.v (.string ⟨#[]⟩)],.sc .string⟩
def ti11:TI:=⟨1,16,[.v (.string ⟨#[]⟩)],.sc .string⟩
def ti12:TI:=⟨1,8,[.v (.int .u64 0)],.sc (.int .u64)⟩
def ti13:TI:=⟨2,24,[.v (.string ⟨#[]⟩),.v (.int .u64 0)],.st [(0,9),(1,12)]⟩
def ti14:TI:=⟨2,24,[.v (.string ⟨#[]⟩),.v (.int .u64 0)],.st [(0,9),(1,12)]⟩
def ti21:TI:=⟨1,4,[.v (.int .i32 0)],.sc (.int .i32)⟩
def ti22:TI:=⟨1,24,[.z],.sl 5⟩
def ti24:TI:=⟨1,24,[.z],.sl 33⟩
def ti25:TI:=⟨1,24,[.z],.sl 4⟩
def ti26:TI:=⟨2,48,[.z,.z],.st [(0,24),(1,25)]⟩
def ti27:TI:=⟨2,48,[.z,.z],.st [(0,24),(1,25)]⟩
def ti28:TI:=⟨1,24,[.z],.sl 82⟩
def ti29:TI:=⟨1,24,[.z],.st [(0,28)]⟩
def ti30:TI:=⟨1,24,[.z],.st [(0,28)]⟩
def ti31:TI:=⟨3,72,[.z,.z,.z],.st [(0,27),(2,30)]⟩
def ti32:TI:=⟨3,72,[.z,.z,.z],.st [(0,27),(2,30)]⟩
def ti33:TI:=⟨1,24,[.z],.sl 3⟩
def ti34:TI:=⟨5,104,[.z,.z,.z,.v (.int .i64 0),.z],.st [(0,32),(3,3),(4,33)]⟩
def ti35:TI:=⟨5,104,[.z,.z,.z,.v (.int .i64 0),.z],.st [(0,32),(3,3),(4,33)]⟩
def ti36:TI:=⟨1,24,[.z],.sl 180⟩
def ti37:TI:=⟨1,24,[.z],.sl 267⟩
def ti38:TI:=⟨1,24,[.z],.sl 175⟩
def ti39:TI:=⟨1,24,[.z],.sl 74⟩
def ti40:TI:=⟨1,24,[.z],.sl 158⟩
def ti41:TI:=⟨1,24,[.z],.sl 192⟩
def ti42:TI:=⟨2,48,[.z,.z],.st [(0,41),(1,24)]⟩
def ti43:TI:=⟨2,48,[.z,.z],.st [(0,41),(1,24)]⟩
def ti44:TI:=⟨1,24,[.z],.sl 190⟩
def ti45:TI:=⟨2,32,[.v (.int .i64 0),.z],.st [(0,3),(1,44)]⟩
def ti46:TI:=⟨2,32,[.v (.int .i64 0),.z],.st [(0,3),(1,44)]⟩
def ti47:TI:=⟨3,40,[.v (.int .i64 0),.v (.int .i64 0),.z],.st [(0,3),(1,3),(2,33)]⟩
def ti48:TI:=⟨3,40,[.v (.int .i64 0),.v (.int .i64 0),.z],.st [(0,3),(1,3),(2,33)]⟩
def ti49:TI:=⟨5,56,[.v (.int .i64 0),.v (.int .i64 0),.z,.v (.int .i64 0),.v (.int .i64 0)],.st [(0,48),(3,3),(4,3)]⟩
def ti50:TI:=⟨5,56,[.v (.int .i64 0),.v (.int .i64 0),.z,.v (.int .i64 0),.v (.int .i64 0)],.st [(0,48),(3,3),(4,3)]⟩
def ti51:TI:=⟨24,400,[.z,.z,.z,.v (.int .i64 0),.z,.z,.z,.z,.z,.z,.z,.z,.v (.int .i64 0),.z,.v (.int .i64 0),.v (.int .i64 0),.v (.int .i64 0),.v (.int .i64 0),.v (.bool false),.v (.int .i64 0),.v (.int .i64 0),.z,.v (.int .i64 0),.v (.int .i64 0)],.st [(0,35),(5,36),(6,37),(7,38),(8,39),(9,40),(10,43),(12,46),(14,3),(15,3),(16,3),(17,3),(18,4),(19,50)]⟩
def ti52:TI:=⟨24,400,[.z,.z,.z,.v (.int .i64 0),.z,.z,.z,.z,.z,.z,.z,.z,.v (.int .i64 0),.z,.v (.int .i64 0),.v (.int .i64 0),.v (.int .i64 0),.v (.int .i64 0),.v (.bool false),.v (.int .i64 0),.v (.int .i64 0),.z,.v (.int .i64 0),.v (.int .i64 0)],.st [(0,35),(5,36),(6,37),(7,38),(8,39),(9,40),(10,43),(12,46),(14,3),(15,3),(16,3),(17,3),(18,4),(19,50)]⟩
def ti53:TI:=⟨1,24,[.z],.sl 325⟩
def ti54:TI:=⟨2,32,[.v (.int .i64 0),.z],.st [(0,3),(1,53)]⟩
def ti55:TI:=⟨2,32,[.v (.int .i64 0),.z],.st [(0,3),(1,53)]⟩
def ti56:TI:=⟨26,432,[.z,.z,.z,.v (.int .i64 0),.z,.z,.z,.z,.z,.z,.z,.z,.v (.int .i64 0),.z,.v (.int .i64 0),.v (.int .i64 0),.v (.int .i64 0),.v (.int .i64 0),.v (.bool false),.v (.int .i64 0),.v (.int .i64 0),.z,.v (.int .i64 0),.v (.int .i64 0),.v (.int .i64 0),.z],.st [(0,52),(24,55)]⟩
def ti57:TI:=⟨26,432,[.z,.z,.z,.v (.int .i64 0),.z,.z,.z,.z,.z,.z,.z,.z,.v (.int .i64 0),.z,.v (.int .i64 0),.v (.int .i64 0),.v (.int .i64 0),.v (.int .i64 0),.v (.bool false),.v (.int .i64 0),.v (.int .i64 0),.z,.v (.int .i64 0),.v (.int .i64 0),.v (.int .i64 0),.z],.st [(0,52),(24,55)]⟩
def ti73:TI:=⟨4,32,[.v (.int .i64 0),.v (.int .i64 0),.v (.int .i64 0),.v (.int .i64 0)],.st [(0,3),(1,3),(2,3),(3,3)]⟩
def ti74:TI:=⟨4,32,[.v (.int .i64 0),.v (.int .i64 0),.v (.int .i64 0),.v (.int .i64 0)],.st [(0,3),(1,3),(2,3),(3,3)]⟩
def ti77:TI:=⟨1,24,[.z],.sl 168⟩
def ti81:TI:=⟨2,16,[.v (.int .i64 0),.v (.int .i64 0)],.st [(0,3),(1,3)]⟩
def ti82:TI:=⟨2,16,[.v (.int .i64 0),.v (.int .i64 0)],.st [(0,3),(1,3)]⟩
def ti86:TI:=⟨5,56,[.v (.int .i64 0),.v (.int .i64 0),.v (.int .i64 0),.v (.int .i64 0),.z],.st [(0,3),(1,3),(2,3),(3,3),(4,33)]⟩
def ti87:TI:=⟨5,56,[.v (.int .i64 0),.v (.int .i64 0),.v (.int .i64 0),.v (.int .i64 0),.z],.st [(0,3),(1,3),(2,3),(3,3),(4,33)]⟩
def ti88:TI:=⟨1,24,[.z],.sl 199⟩
def ti97:TI:=⟨2,48,[.z,.z],.st [(0,24),(1,25)]⟩
def ti98:TI:=⟨1,24,[.z],.sl 515⟩
def ti99:TI:=⟨1,24,[.z],.st [(0,98)]⟩
def ti100:TI:=⟨1,24,[.z],.st [(0,98)]⟩
def ti101:TI:=⟨3,72,[.z,.z,.z],.st [(0,97),(2,100)]⟩
def ti102:TI:=⟨3,72,[.z,.z,.z],.st [(0,97),(2,100)]⟩
def ti103:TI:=⟨5,104,[.z,.z,.z,.v (.int .i64 0),.z],.st [(0,102),(3,3),(4,33)]⟩
def ti104:TI:=⟨5,104,[.z,.z,.z,.v (.int .i64 0),.z],.st [(0,102),(3,3),(4,33)]⟩
def ti105:TI:=⟨1,24,[.z],.sl 343⟩
def ti106:TI:=⟨1,24,[.z],.sl 345⟩
def ti107:TI:=⟨1,24,[.z],.sl 347⟩
def ti108:TI:=⟨1,24,[.z],.sl 349⟩
def ti109:TI:=⟨1,24,[.z],.sl 336⟩
def ti110:TI:=⟨1,24,[.z],.sl 436⟩
def ti111:TI:=⟨2,48,[.z,.z],.st [(0,110),(1,24)]⟩
def ti112:TI:=⟨2,48,[.z,.z],.st [(0,110),(1,24)]⟩
def ti113:TI:=⟨1,24,[.z],.sl 441⟩
def ti114:TI:=⟨2,32,[.v (.int .i64 0),.z],.st [(0,3),(1,113)]⟩
def ti115:TI:=⟨2,32,[.v (.int .i64 0),.z],.st [(0,3),(1,113)]⟩
def ti116:TI:=⟨3,40,[.v (.int .i64 0),.v (.int .i64 0),.z],.st [(0,3),(1,3),(2,33)]⟩
def ti117:TI:=⟨5,56,[.v (.int .i64 0),.v (.int .i64 0),.z,.v (.int .i64 0),.v (.int .i64 0)],.st [(0,116),(3,3),(4,3)]⟩
def ti118:TI:=⟨5,56,[.v (.int .i64 0),.v (.int .i64 0),.z,.v (.int .i64 0),.v (.int .i64 0)],.st [(0,116),(3,3),(4,3)]⟩
def ti119:TI:=⟨24,400,[.z,.z,.z,.v (.int .i64 0),.z,.z,.z,.z,.z,.z,.z,.z,.v (.int .i64 0),.z,.v (.int .i64 0),.v (.int .i64 0),.v (.int .i64 0),.v (.int .i64 0),.v (.bool false),.v (.int .i64 0),.v (.int .i64 0),.z,.v (.int .i64 0),.v (.int .i64 0)],.st [(0,104),(5,105),(6,106),(7,107),(8,108),(9,109),(10,112),(12,115),(14,3),(15,3),(16,3),(17,3),(18,4),(19,118)]⟩
def ti120:TI:=⟨24,400,[.z,.z,.z,.v (.int .i64 0),.z,.z,.z,.z,.z,.z,.z,.z,.v (.int .i64 0),.z,.v (.int .i64 0),.v (.int .i64 0),.v (.int .i64 0),.v (.int .i64 0),.v (.bool false),.v (.int .i64 0),.v (.int .i64 0),.z,.v (.int .i64 0),.v (.int .i64 0)],.st [(0,104),(5,105),(6,106),(7,107),(8,108),(9,109),(10,112),(12,115),(14,3),(15,3),(16,3),(17,3),(18,4),(19,118)]⟩
def ti126:TI:=⟨5,56,[.v (.int .i64 0),.v (.int .i64 0),.v (.int .i64 0),.v (.int .i64 0),.z],.st [(0,3),(1,3),(2,3),(3,3),(4,33)]⟩
def ti127:TI:=⟨1,24,[.z],.sl 254⟩
def ti157:TI:=⟨1,24,[.z],.st [(0,24)]⟩
def ti158:TI:=⟨1,24,[.z],.st [(0,24)]⟩
def ti167:TI:=⟨3,24,[.v (.int .i64 0),.v (.int .i64 0),.v (.int .i64 0)],.st [(0,3),(1,3),(2,3)]⟩
def ti168:TI:=⟨3,24,[.v (.int .i64 0),.v (.int .i64 0),.v (.int .i64 0)],.st [(0,3),(1,3),(2,3)]⟩
def ti174:TI:=⟨3,24,[.v (.int .i64 0),.v (.int .i64 0),.v (.int .i64 0)],.st [(0,3),(1,3),(2,3)]⟩
def ti175:TI:=⟨3,24,[.v (.int .i64 0),.v (.int .i64 0),.v (.int .i64 0)],.st [(0,3),(1,3),(2,3)]⟩
def ti179:TI:=⟨2,16,[.v (.int .i64 0),.v (.int .i64 0)],.st [(0,3),(1,3)]⟩
def ti180:TI:=⟨2,16,[.v (.int .i64 0),.v (.int .i64 0)],.st [(0,3),(1,3)]⟩
def ti185:TI:=⟨2,16,[.v (.int .i64 0),.v (.int .i64 0)],.st [(0,3),(1,3)]⟩
def ti186:TI:=⟨2,16,[.v (.int .i64 0),.v (.int .i64 0)],.st [(0,3),(1,3)]⟩
def ti189:TI:=⟨3,24,[.v (.int .i64 0),.v (.int .i64 0),.v (.int .i64 0)],.st [(0,3),(1,3),(2,3)]⟩
def ti190:TI:=⟨3,24,[.v (.int .i64 0),.v (.int .i64 0),.v (.int .i64 0)],.st [(0,3),(1,3),(2,3)]⟩
def ti192:TI:=⟨1,24,[.z],.sl 186⟩
def ti198:TI:=⟨5,40,[.v (.int .i64 0),.v (.int .i64 0),.v (.int .i64 0),.v (.int .i64 0),.v (.int .i64 0)],.st [(0,3),(1,3),(2,3),(3,3),(4,3)]⟩
def ti199:TI:=⟨5,40,[.v (.int .i64 0),.v (.int .i64 0),.v (.int .i64 0),.v (.int .i64 0),.v (.int .i64 0)],.st [(0,3),(1,3),(2,3),(3,3),(4,3)]⟩
def ti210:TI:=⟨8,64,[.v (.int .i64 0),.v (.int .i64 0),.v (.int .i64 0),.v (.int .i64 0),.v (.int .i64 0),.v (.int .i64 0),.v (.int .i64 0),.v (.int .i64 0)],.st [(0,3),(1,3),(2,3),(3,3),(4,3),(5,3),(6,3),(7,3)]⟩
def ti211:TI:=⟨8,64,[.v (.int .i64 0),.v (.int .i64 0),.v (.int .i64 0),.v (.int .i64 0),.v (.int .i64 0),.v (.int .i64 0),.v (.int .i64 0),.v (.int .i64 0)],.st [(0,3),(1,3),(2,3),(3,3),(4,3),(5,3),(6,3),(7,3)]⟩
def ti254:TI:=⟨5,40,[.v (.int .i64 0),.v (.int .i64 0),.v (.int .i64 0),.v (.int .i64 0),.v (.int .i64 0)],.st [(0,3),(1,3),(2,3),(3,3),(4,3)]⟩
def ti256:TI:=⟨3,40,[.z,.v (.int .i64 0),.v (.int .i64 0)],.st [(0,22),(1,3),(2,3)]⟩
def ti257:TI:=⟨3,40,[.z,.v (.int .i64 0),.v (.int .i64 0)],.st [(0,22),(1,3),(2,3)]⟩
def ti266:TI:=⟨3,24,[.v (.int .i64 0),.v (.int .i64 0),.v (.int .i64 0)],.st [(0,3),(1,3),(2,3)]⟩
def ti267:TI:=⟨3,24,[.v (.int .i64 0),.v (.int .i64 0),.v (.int .i64 0)],.st [(0,3),(1,3),(2,3)]⟩
def ti281:TI:=⟨1,8,[.v (.map none)],.mp 3 4 (.bool false)⟩
def ti289:TI:=⟨4,32,[.v (.int .i64 0),.v (.int .i64 0),.v (.int .i64 0),.v (.int .i64 0)],.st [(0,3),(1,3),(2,3),(3,3)]⟩
def ti290:TI:=⟨4,32,[.v (.int .i64 0),.v (.int .i64 0),.v (.int .i64 0),.v (.int .i64 0)],.st [(0,3),(1,3),(2,3),(3,3)]⟩
def ti292:TI:=⟨1,8,[.v (.map none)],.mp 3 3 (.int .i64 0)⟩
def ti304:TI:=⟨1,8,[.v (.int .u64 0)],.sc (.int .u64)⟩
def ti324:TI:=⟨2,32,[.v (.int .i64 0),.z],.st [(0,3),(1,33)]⟩
def ti325:TI:=⟨2,32,[.v (.int .i64 0),.z],.st [(0,3),(1,33)]⟩
def ti336:TI:=⟨1,24,[.z],.st [(0,24)]⟩
def ti343:TI:=⟨2,16,[.v (.int .i64 0),.v (.int .i64 0)],.st [(0,3),(1,3)]⟩
def ti345:TI:=⟨3,24,[.v (.int .i64 0),.v (.int .i64 0),.v (.int .i64 0)],.st [(0,3),(1,3),(2,3)]⟩
def ti347:TI:=⟨3,24,[.v (.int .i64 0),.v (.int .i64 0),.v (.int .i64 0)],.st [(0,3),(1,3),(2,3)]⟩
def ti349:TI:=⟨4,32,[.v (.int .i64 0),.v (.int .i64 0),.v (.int .i64 0),.v (.int .i64 0)],.st [(0,3),(1,3),(2,3),(3,3)]⟩
def ti398:TI:=⟨1,24,[.z],.sl 404⟩
def ti403:TI:=⟨2,16,[.v (.int .i64 0),.v (.int .i64 0)],.st [(0,3),(1,3)]⟩
def ti404:TI:=⟨2,16,[.v (.int .i64 0),.v (.int .i64 0)],.st [(0,3),(1,3)]⟩
def ti408:TI:=⟨1,8,[.v (.int .i64 0)],.sc (.int .i64)⟩
def ti415:TI:=⟨1,4,[.v (.int .u32 0)],.sc (.int .u32)⟩
def ti417:TI:=⟨1,8,[.v (.int .u64 0)],.sc (.int .u64)⟩
def ti436:TI:=⟨1,24,[.z],.sl 491⟩
def ti441:TI:=⟨3,24,[.v (.int .i64 0),.v (.int .i64 0),.v (.int .i64 0)],.st [(0,3),(1,3),(2,3)]⟩
def ti470:TI:=⟨1,8,[.v (.int .u64 0)],.sc (.int .u64)⟩
def ti491:TI:=⟨2,16,[.v (.int .i64 0),.v (.int .i64 0)],.st [(0,3),(1,3)]⟩
def ti515:TI:=⟨2,16,[.v (.int .i64 0),.v (.int .i64 0)],.st [(0,3),(1,3)]⟩
def ti528:TI:=⟨0,0,[],.st [(0,527)]⟩
def ti529:TI:=⟨0,0,[],.st [(0,527)]⟩
def ti531:TI:=⟨1,1,[.v (.int .u8 0)],.sc (.int .u8)⟩
def ti532:TI:=⟨1,1,[.v (.int .u8 0)],.sc (.int .u8)⟩
def ti535:TI:=⟨1,4,[.v (.int .i32 0)],.sc (.int .i32)⟩
def ti536:TI:=⟨1,4,[.v (.int .i32 0)],.sc (.int .i32)⟩
def tab:List (Nat × TI):=[(3,ti3),(4,ti4),(2,ti2),(5,ti5),(6,ti6),(7,ti7),(8,ti8),(9,ti9),(10,ti10),(11,ti11),(12,ti12),(13,ti13),(14,ti14),(21,ti21),(22,ti22),(24,ti24),(25,ti25),(26,ti26),(27,ti27),(28,ti28),(29,ti29),(30,ti30),(31,ti31),(32,ti32),(33,ti33),(34,ti34),(35,ti35),(36,ti36),(37,ti37),(38,ti38),(39,ti39),(40,ti40),(41,ti41),(42,ti42),(43,ti43),(44,ti44),(45,ti45),(46,ti46),(47,ti47),(48,ti48),(49,ti49),(50,ti50),(51,ti51),(52,ti52),(53,ti53),(54,ti54),(55,ti55),(56,ti56),(57,ti57),(73,ti73),(74,ti74),(77,ti77),(81,ti81),(82,ti82),(86,ti86),(87,ti87),(88,ti88),(97,ti97),(98,ti98),(99,ti99),(100,ti100),(101,ti101),(102,ti102),(103,ti103),(104,ti104),(105,ti105),(106,ti106),(107,ti107),(108,ti108),(109,ti109),(110,ti110),(111,ti111),(112,ti112),(113,ti113),(114,ti114),(115,ti115),(116,ti116),(117,ti117),(118,ti118),(119,ti119),(120,ti120),(126,ti126),(127,ti127),(157,ti157),(158,ti158),(167,ti167),(168,ti168),(174,ti174),(175,ti175),(179,ti179),(180,ti180),(185,ti185),(186,ti186),(189,ti189),(190,ti190),(192,ti192),(198,ti198),(199,ti199),(210,ti210),(211,ti211),(254,ti254),(256,ti256),(257,ti257),(266,ti266),(267,ti267),(281,ti281),(289,ti289),(290,ti290),(292,ti292),(304,ti304),(324,ti324),(325,ti325),(336,ti336),(343,ti343),(345,ti345),(347,ti347),(349,ti349),(398,ti398),(403,ti403),(404,ti404),(408,ti408),(415,ti415),(417,ti417),(436,ti436),(441,ti441),(470,ti470),(491,ti491),(515,ti515),(528,ti528),(529,ti529),(531,ti531),(532,ti532),(535,ti535),(536,ti536)]
abbrev zzA:=ay Tryz.prog
abbrev zzB:=aM Tryz.prog
def Tp:TR Tryz.prog tab:=⟨E8 Tryz.underlying3,E8 Tryz.underlying4,E8 Tryz.underlying2,E8 Tryz.underlying5,E8 Tryz.underlying6,fI Tryz.underlying7,fI Tryz.underlying8,E8 Tryz.underlying9,E8 Tryz.underlying10,E8 Tryz.underlying11,E8 Tryz.underlying12,fI Tryz.underlying13,fI Tryz.underlying14,E8 Tryz.underlying21,vd Tryz.underlying22,vd Tryz.underlying24,vd Tryz.underlying25,fI Tryz.underlying26,fI Tryz.underlying27,vd Tryz.underlying28,fI Tryz.underlying29,fI Tryz.underlying30,fI Tryz.underlying31,fI Tryz.underlying32,vd Tryz.underlying33,fI Tryz.underlying34,fI Tryz.underlying35,vd Tryz.underlying36,vd Tryz.underlying37,vd Tryz.underlying38,vd Tryz.underlying39,vd Tryz.underlying40,vd Tryz.underlying41,fI Tryz.underlying42,fI Tryz.underlying43,vd Tryz.underlying44,fI Tryz.underlying45,fI Tryz.underlying46,fI Tryz.underlying47,fI Tryz.underlying48,fI Tryz.underlying49,fI Tryz.underlying50,fI Tryz.underlying51,fI Tryz.underlying52,vd Tryz.underlying53,fI Tryz.underlying54,fI Tryz.underlying55,fI Tryz.underlying56,fI Tryz.underlying57,fI Tryz.underlying73,fI Tryz.underlying74,vd Tryz.underlying77,fI Tryz.underlying81,fI Tryz.underlying82,fI Tryz.underlying86,fI Tryz.underlying87,vd Tryz.underlying88,fI Tryz.underlying97,vd Tryz.underlying98,fI Tryz.underlying99,fI Tryz.underlying100,fI Tryz.underlying101,fI Tryz.underlying102,fI Tryz.underlying103,fI Tryz.underlying104,vd Tryz.underlying105,vd Tryz.underlying106,vd Tryz.underlying107,vd Tryz.underlying108,vd Tryz.underlying109,vd Tryz.underlying110,fI Tryz.underlying111,fI Tryz.underlying112,vd Tryz.underlying113,fI Tryz.underlying114,fI Tryz.underlying115,fI Tryz.underlying116,fI Tryz.underlying117,fI Tryz.underlying118,fI Tryz.underlying119,fI Tryz.underlying120,fI Tryz.underlying126,vd Tryz.underlying127,fI Tryz.underlying157,fI Tryz.underlying158,fI Tryz.underlying167,fI Tryz.underlying168,fI Tryz.underlying174,fI Tryz.underlying175,fI Tryz.underlying179,fI Tryz.underlying180,fI Tryz.underlying185,fI Tryz.underlying186,fI Tryz.underlying189,fI Tryz.underlying190,vd Tryz.underlying192,fI Tryz.underlying198,fI Tryz.underlying199,fI Tryz.underlying210,fI Tryz.underlying211,fI Tryz.underlying254,fI Tryz.underlying256,fI Tryz.underlying257,fI Tryz.underlying266,fI Tryz.underlying267,Vd Tryz.underlying281 Tryz.underlying3,fI Tryz.underlying289,fI Tryz.underlying290,Vd Tryz.underlying292 Tryz.underlying3,E8 Tryz.underlying304,fI Tryz.underlying324,fI Tryz.underlying325,fI Tryz.underlying336,fI Tryz.underlying343,fI Tryz.underlying345,fI Tryz.underlying347,fI Tryz.underlying349,vd Tryz.underlying398,fI Tryz.underlying403,fI Tryz.underlying404,E8 Tryz.underlying408,E8 Tryz.underlying415,E8 Tryz.underlying417,vd Tryz.underlying436,fI Tryz.underlying441,E8 Tryz.underlying470,fI Tryz.underlying491,fI Tryz.underlying515,fI Tryz.underlying528,fI Tryz.underlying529,E8 Tryz.underlying531,E8 Tryz.underlying532,E8 Tryz.underlying535,E8 Tryz.underlying536,trivial⟩
def TE:Nat->Option TI:=JM tab
def qX:∀t i,TE t=some i->ib Tryz.prog t i:=Fk Tp
def Tu:C->Value->C
 | .s .own rows,v=>.s (.tag v) rows
 | c,_=>c
def wG(u:Nat->Value):Nat->List C->List C
 | _,[]=>[]
 | j,c::cs=>Tu c (u j)::wG u (j+1) cs
def zy(u:Nat->Nat->Value):Nat->List MA->List (Nat × AV)
 | _,[]=>[]
 | i,.val a cs::A=>(i,.H (me a) cs)::zy u (i+1) A
 | i,.mut a cs::A=>(i,.H (me a) (wG (u i) 0 cs))::zy u (i+1) A
 | i,.ptr cs::A=>(i,.H .box cs)::zy u (i+1) A
def KY(p:Nat->Value):Nat->List MA->List (Nat × Value)
 | _,[]=>[]
 | i,.ptr _::A=>(i,p i)::KY p (i+1) A
 | i,_::A=>KY p (i+1) A
def GE:Nat->List MA->List (Nat × Nat)->List (Option Nat)
 | i,.val _ _::A,_::pl=>none::GE (i+1) A pl
 | i,.mut _ _::A,p::pl=>some p.1::GE (i+1) A pl
 | i,.ptr _::A,_::pl=>some i::GE (i+1) A pl
 | _,_,_=>[]
def HO:List (Option Nat)->Bool
 | []=>true
 | none::l=>HO l
 | some t::l=>l.all (λx=>match x with|some a=>!Nat.beq t a|none=>true)&&HO l
def sles:List (Option Nat)->List Nat
 | []=>[]
 | none::l=>sles l
 | some t::l=>t::sles l
def UZ(v:Value)(c y o:C):Prop:=
 match c with
 | .s .own _=>(match y with|.s (.tag v') rows=>v'=v/\o=.s .own rows|_=>False)
 | .s (.tag _) _=>False
 | .m _=>False
 | .it _ _=>False
 | c=>o=c
def Tk(u:Nat->Value):Nat->List C->List C->List C->Prop
 | _,[],_,o=>o=[]
 | j,c::cs,y::xs,o::os=>UZ (u j) c y o/\Tk u (j+1) cs xs os
 | _,_,_,_=>False
def iL(u:Nat->Nat->Value)(F:Nat->AV):Nat->List MA->List (Nat × Nat)->List MA->Prop
 | _,[],_,[]=>True
 | i,.val _ _::A,_::pl,.val _ _::B=>iL u F (i+1) A pl B
 | i,.mut ag cs::A,p::pl,.mut a out::B=>(a=ag/\match F p.1 with|.H _ xs=>Tk (u i) 0 cs (xs.drop p.2) out|_=>False)/\iL u F (i+1) A pl B
 | i,.ptr _::A,_::pl,.ptr out::B=>(match F i with|.H .box xs=>xs=out|_=>False)/\iL u F (i+1) A pl B
 | _,_,_,_=>False
inductive aS(k k':Kd)(cs cs':List C)(Q:Prop):Prop
 |mk_ (h:k=k'/\cs=cs'/\Q)
theorem aS.mk{b:Kd}{Q:Prop}(h1:k=b)(c:cs=a)(d:Q):aS k b cs a Q:=by refine .mk_ ?_;grind
def CH:type_of% @aS.mk:=@aS.mk
def aS.out{b:Kd}{Q:Prop}(h:aS k b cs a Q):k=b/\cs=a/\Q:=by obtain⟨h⟩:=h;exact h
def T3(TE:Nat->Option TI)(d:List ResultVar)(k:Kd)(rcs:List C)(u:Nat->Nat->Value)(A B:List MA)(a:List (Nat × Nat)):Exit->(Nat->AV)->Prop:=λe F=>
 match e with
 | .normal=>resA TE F d (sles (GE 0 A a)) λb c=>aS (kO b) k c rcs (iL u F 0 A a B)
 | .ret=>resA TE F d (sles (GE 0 A a)) λb c=>aS (kO b) k c rcs (iL u F 0 A a B)
 | _=>False
section
variable{P:Program}{w0 w w1:World}{M S0 S:am}{N:f7}{φ:Nat->am}{F:Nat->AV}{a:Act}{TE:Nat->Option TI}
theorem dJ.tag{Y:am}{c:C}{v:Value}(h:dJ w S Y c v):dJ w S Y (Tu c v) v:=by
 cases h with
 | nil _ o a B=>cases o with
  | own=>exact .nil _ _ _ rfl
  | _=>exact .nil _ _ _ B
 | own _ o g k n l e u f B D E i p t K L M y=>cases o with
  | own=>exact .own _ _ g k n l e u f rfl D E i p t K L M y
  | V=>exact B.elim
  | tag z=>exact .own _ _ g k n l e u f B D E i p t K L M y
 | v _ x F=>exact .v _ _ F
 | x _ u F=>exact .x _ _ F
 | z _ a=>exact .z _ _
 | V _ g G k n l e u D E i N y=>exact .V _ g G k n l e u D E i N y
 | m _ b d O j t H P J q=>exact .m _ b d O j t H P J q
 | it _ r b since Q d seen j cur left t R H q y J T A=>exact .it _ r b since Q d seen j cur left t R H q y J T A
def dJ.untag{Y:am}{z v:Value}{rows:List (List C)}(h:dJ w S Y (.s (.tag z) rows) v):v=z/\dJ w S Y (.s .own rows) v:=by
 cases h with
 | nil _ o a d=>exact⟨Eq.symm d,.nil _ _ _ trivial⟩
 | own _ o g k n e rows u f d i j b c l p q r t=>exact⟨Eq.symm d,.own _ _ g k n e rows u f trivial i j b c l p q r t⟩
theorem p6(u:Nat->Value):∀(j:Nat)(cs:List C),(wG u j cs).length=cs.length
 | _,[]=>rfl
 | j,c::cs=>by simp[wG,p6 u (j+1) cs]
theorem G3(u:Nat->Value):∀(a:Nat)(cs:List C)(j:Nat),(wG u a cs)[j]? = (cs[j]?).map λc=>Tu c (u (a+j))
 | _,[],j=>by simp[wG]
 | a,c::cs,0=>by simp[wG]
 | a,c::cs,j+1=>by simp only[wG,List.getElem?_cons_succ];rw[G3 u (a+1) cs j,show a+1+j=a+(j+1) by omega]
variable{u:Nat->Value}
theorem cP.tag{Y:am}{cs:List C}(h:cP w S Y cs u):cP w S Y (wG u 0 cs) u:=by
 obtain⟨f,i,b,d⟩:=h;refine⟨f,λj c a=>?_,λj a=>b j (by grind [p6]),λj e a g=>d j e (by grind [p6]) (by grind [p6])⟩
 grind [G3,dJ.tag]
def celF(v:Value)(j:Nat):Value:=v.cells.toList.getD j undef
def bC.celF{Y:am}{ag:Option Nat}{cs:List C}{v:Value}(h:bC w S Y ag cs v):cs.length=ag.getD 1/\v=mkv ag (celF v)/\cP w S Y cs (celF v):=by
 obtain⟨b,u,c,d⟩:=h;have g:=qv (ag:=ag) (u:=u) (λe=>by subst e;exact d.one (by simp at b;omega));have f:∀j,j<ag.getD 1->Ab.celF v j=u j:=λj a=>by
  unfold Ab.celF;rw[c,g];simp[List.getD,a]
 exact⟨b,c.trans (jG λj a=>(f j a).symm),d.congr λj a=>f j ω⟩
def Tc(u:Nat->Nat->Value)(i:Nat):MA->AV
 | .val a cs=>.H (me a) cs
 | .mut a cs=>.H (me a) (wG (u i) 0 cs)
 | .ptr cs=>.H .box cs
theorem AR{u:Nat->Nat->Value} : ∀{A:List MA}{vs:List Value}{V:Nat->am}(i:Nat),KP w S V A vs->∀t,(lay (zy u i A) t=.dead)\/(∃m v,i<=t/\vs[t - i]? = some v/\A[t - i]? = some m/\lay (zy u i A) t=Tc u t m/\qP w S (V (t - i)) m v)
 | [],_,_,i,_,t=>.inl rfl
 | m::A,[],_,i,h,t=>h.elim
 | m::A,v::vs,V,i,h,t=>by
  have b:lay (zy u i (m::A)) t=bif Nat.beq t i then Tc u i m else lay (zy u (i+1) A) t:=by cases m<;>rfl
  rw[b];cases c:Nat.beq t i with
  | true=>
   have:=W2 c;subst this;exact .inr ⟨m,v,W3 _,by simp,by simp,rfl,by rw[Nat.sub_self];exact h.1⟩
  | false=>
   have d:t≠i:=λe=>by simp_all
   rcases AR (i+1) h.2 t with a|⟨f,g,a,j,k,l,n⟩
   ·exact .inl a
   grind
def KC:∀{A:List MA}{vs:List Value}{V:Nat->am},KP w S V A vs->A.length=vs.length
 | [],[],_,_=>rfl
 | _::_,_::_,_,h=>by simp[KC h.2]
 | [],_::_,_,h=>h.elim
 | _::_,[],_,h=>h.elim
theorem Kq{p:Nat->Value} : ∀{A:List MA}{i:Nat}{q:Nat × Value},q∈KY p i A->i<=q.1/\q.1<i+A.length/\q.2=p q.1
 | [],_,_,h=>by simp[KY]at h
 | m::A,i,q,h=>by
  have a:q∈KY p (i+1) A->i<=q.1/\q.1<i+(m::A).length/\q.2=p q.1:=λh=>by
   obtain⟨b,c,d⟩:=Kq h
   grind
  cases m with
  | ptr e=>
   rcases List.mem_cons.1 h with rfl|h
   all_goals grind
  | val=>exact a h
  | «mut»=>exact a h
theorem Lo{p:Nat->Value} : ∀{A:List MA}{i n:Nat}{cs:List C},A[n]? = some (.ptr cs)->(i+n,p (i+n))∈KY p i A
 | [],_,n,_,h=>by simp at h
 | m::A,i,0,cs,h=>by grind [KY]
 | m::A,i,n+1,cs,h=>by
  have a:=Lo (p:=p) (i:=i+1) (show A[n]? = some (.ptr cs) by simpa using h);rw[show i+1+n=i+(n+1) by omega]at a;cases m with
  | ptr cs=>exact Z5 _ a
  | val=>exact a
  | «mut»=>exact a
def T7(φ:Nat->am):Option (Option Nat)->am
 | some (some t)=>φ t
 | _=>NO
theorem DB{u:Nat->Value} : ∀{b:Nat}{cs xs a:List C},Tk u b cs xs a->cs.length=a.length/\∀(j:Nat)(c o:C),cs[j]? = some c->a[j]? = some o->∃y,(eD c=true->xs[j]? = some y)/\UZ (u (b+j)) c y o
 | _,[],xs,a,h=>by grind [Tk]
 | _,_::_,[],_,h=>by grind [Tk]
 | _,_::_,_::_,[],h=>by grind [Tk]
 | b,d::cs,e::xs,f::a,h=>by
  simp only[Tk]at h;obtain⟨g,i⟩:=DB h.2
  grind
theorem Qa{S' Y r:am}{E:Nat->Value}{cs xs t:List C}{off:Nat}(g:bp S w w1)(l:∀b o,S b o->S' b o)(h:cP w S Y cs u)(h':cP w1 S' r xs E)(F:Tk u 0 cs (xs.drop off) t):cP w1 S' r t u:=by
 obtain⟨f,G,O,P⟩:=h;obtain⟨A,n,H,J⟩:=h';obtain⟨Q,K⟩:=DB F;refine⟨λj b o=>off+j<xs.length/\A (off+j) b o,λj c B=>?_,ψ,ψ⟩;have L:=(Z2.1 B).1;have i:cs[j]? = some cs[j]:=ψ
 obtain⟨y,k,a⟩:=K j _ c i B;rw[X7]at a;have d:=G j _ i;generalize cs[j]=p at i a d k;have keep:eD p=false->c=p->dJ w1 S' (λb o=>off+j<xs.length/\A (off+j) b o) c (u j):=λM e=>by
  subst e;exact((d.bare (F':=NO) M).keep g (λ_ _ h=>h.elim)).mono l (λ_ _ h=>h.elim)
 cases p with
 | v R=>exact keep rfl a
 | x=>exact keep rfl a
 | z=>exact keep rfl a
 | m T=>exact a.elim
 | it=>exact a.elim
 | s o D=>
  cases o with
  | V=>exact keep rfl a
  | tag z=>exact a.elim
  | own=>
   have k:=k rfl;rw[List.getElem?_drop]at k;have N:=(Z2.1 k).1;simp only[UZ]at a;split at a
   case h_2=>exact a.elim
   rename_i U q;obtain⟨rfl,rfl⟩:=a;obtain⟨V,W⟩:=(n _ _ k).untag
   simp_all
theorem bg.backs{C:World}{S':am}{u:Nat->Nat->Value}(h:bg w0 M S0 N S' φ F a C)(d:bp S w C)(f:∀b o,S b o->S' b o):∀{A:List MA}{g:List (Nat × Nat)}{B:List MA}{vs:List Value}{V:Nat->am}{i:Nat},KP w S V A vs->
  (∀j v,vs[j]? = some v->u (i+j)=celF v)->(∀j v cs,vs[j]? = some v->A[j]? = some (.ptr cs)->tvs a (i+j)=v)->iL u F i A g B->DQ C S' (λn=>T7 φ (GE i A g)[n]?) B vs
 | [],g,B,vs,V,i,l,r,t,c=>by
  cases vs with
  | cons _ _=>exact l.elim
  | nil=>cases B with
   | nil=>trivial
   | cons _ _=>grind [iL]
 | m::A,[],B,vs,V,i,l,r,t,c=>by grind [iL]
 | m::A,p::g,[],vs,V,i,l,r,t,c=>by grind [iL]
 | m::A,p::g,D::B,[],V,i,l,r,t,c=>l.elim
 | m::A,p::g,D::B,v::vs,V,i,l,r,t,c=>by
  have next:iL u F (i+1) A g B->DQ C S' (λn=>T7 φ (GE (i+1) A g)[n]?) B vs:=λc=>
   bg.backs h d f l.2 (λj v T=>by rw[show i+1+j=i+(j+1) by omega];simp_all)
    (λj v cs T X=>by rw[show i+1+j=i+(j+1) by omega];simp_all) c
  cases m with
  | val U cs=>
   cases D with
   | val y W=>simp only[iL]at c;exact⟨trivial,next c⟩
   | ptr=>grind [iL]
   | «mut»=>grind [iL]
  | «mut» U cs=>
   cases D with
   | val=>grind [iL]
   | ptr=>grind [iL]
   | «mut» y out=>
    simp only[iL]at c;obtain⟨⟨rfl,e⟩,G⟩:=c;refine⟨?_,next G⟩;have E:=bC.celF (show bC w S (V 0) y cs v from l.1);have H:u i=celF v:=r 0 v (by simp);have q:=h.slot p.1;cases J:F p.1 with
    | H k xs=>
     rw[J]at e q;simp only at e;rw[H]at e;obtain⟨O,Y,P,K,Q,R,L⟩:=q;refine⟨by grind [DB],celF v,E.2.1,?_⟩;exact(Qa d f E.2.2 L e).mono (λ_ _ h=>h) (λb o c=>by simpa[GE,T7] using K b o c)
    | _=>grind
  | ptr cs=>
   cases D with
   | val=>grind [iL]
   | «mut»=>grind [iL]
   | ptr out=>
    simp only[iL]at c;refine⟨?_,next c.2⟩;have E:tvs a i=v:=t 0 v cs (by simp) (by simp);have q:=h.slot i;cases J:F i with
    | H k xs=>
     cases k with
     | box=>
      rw[J]at c q;have:=c.1;simp only at this;subst this;rw[E]at q;obtain⟨O,Y,P,K,Q,R,L⟩:=q;exact⟨O,Y,λb o c=>by simpa[GE,T7] using P b o c,λb o c=>by simpa[GE,T7] using K b o c,Q,R,L⟩
     | _=>grind
    | _=>grind
theorem uq:∀{l:List (Option Nat)},HO l=true->∀(i a t c:Nat),i≠a->l[i]? = some (some t)->l[a]? = some (some c)->t≠c
 | [],_,i,a,t,c,_,h,_=>by simp at h
 | none::l,b,i,a,t,c,f,h,d=>by
  cases i with
  | zero=>simp at h
  | succ i=>cases a with
   | zero=>simp at d
   | succ a=>exact uq (l:=l) b i a t c ω (by simpa using h) (by simpa using d)
 | some g::l,b,i,a,t,c,f,h,d=>by
  simp only[HO,I0]at b;have k:∀(n s:Nat),l[n]? = some (some s)->g≠s:=λn s j e=>by
   have:=O4.1 b.1 _ (O2 j)
   simp_all
  cases i with
  | zero=>
   grind
  | succ i=>cases a with
   | zero=>grind
   | succ a=>exact uq b.2 i a t c ω (by simpa using h) (by simpa using d)
theorem xN:∀{l:List (Option Nat)}{i t:Nat},l[i]? = some (some t)->t∈sles l
 | [],i,t,h=>by simp at h
 | none::l,i,t,h=>by
  cases i with
  | zero=>simp at h
  | succ i=>exact xN (l:=l) (i:=i) (by simpa using h)
 | some a::l,i,t,h=>by
  cases i with
  | zero=>grind [sles]
  | succ i=>exact Z5 _ (xN (l:=l) (i:=i) (by simpa using h))
theorem yW{φ:Nat->am}{x:Option (Option Nat)}{b o:Nat}(h:T7 φ x b o):∃t,x=some (some t)/\φ t b o:=by
 match x,h with
 | some (some t),h=>exact⟨t,rfl,h⟩
 | some none,h=>exact h.elim
 | none,h=>exact h.elim
theorem Mx{f : Nat}{y : Func}{c : Code}{sh : Bool}{A B : List MA}{k : Kd}{rcs : List C}{mo : List (Nat × List Nat)}{n : Nat}(O : List (Nat × Nat))(hTE : ∀t i, TE t = some i -> ib P t i)(hf : P.funcs[f]? = some y)(hn : (y.name == "runtime.NumGoroutine") = false)(d:y.body=some c){ck:Nat->Array Oper->Bool}{D:f7->Nat->Array Oper->((Nat->AV)->Prop)->(Nat->AV)->Prop}(hD:∀N,yP P N ck (D N))(hc:gw ck c=true)(hN:A.length+(y.ntmps - A.length)=n)(hok:HO (GE 0 A O)=true)(hsh:sh=true\/iv rcs)(hp:∀(u:Nat->Nat->Value)(p:Nat->Value),aw P TE ⟨n,KY p 0 A,mo⟩ (D ⟨n,KY p 0 A,mo⟩) c (T3 TE y.results.toList k rcs u A B O) (lay (zy u 0 A))):aM P f sh A B k rcs:=by
 refine⟨⟨y,hf,hn,by rw[d];rfl⟩,λw S V E hS hV hVd hA=>?_⟩;have hlen:=KC hA;refine calls_of_wp hf d ?_
 let u:Nat->Nat->Value:=λi=>celF (E.getD i undef)
 let p:Nat->Value:=λi=>E.getD i undef
 have htv:∀t v,E[t]? = some v->tvs {tmps:=E.toArray++Array.replicate (y.ntmps - E.toArray.size) undef,defers:=[]} t=v:=λt v r=>by
  have Q:=(Z2.1 r).1;simp only[tvs,S7]
  grind
 have hst:St w (λb o=>∃i,V i b o) S ⟨n,KY p 0 A,mo⟩ (lay (zy u 0 A)) {tmps:=E.toArray++Array.replicate (y.ntmps - E.toArray.size) undef,defers:=[]} w:=by
  refine⟨S,V,λt=>?_,hVd,ψ,ψ,λ_ _ h=>h,ψ,Cc _ _,by simp;omega,rfl,λq hq=>?_⟩
  ·rcases AR (u:=u) 0 hA t with J|⟨m,v,-,r,h2',K,U⟩
   ·rw[J];trivial
   rw[K];rw[Nat.sub_zero]at r U;rw[htv t v r];have hu:u t=celF v:=ψ
   cases m with
   | val M G=>exact(bC.mono (show bC w S NO M G v from U) (λ_ _ h=>h) (λ_ _ h=>h.elim)).slot
   | «mut» M G=>
    obtain⟨e1,e2,e3⟩:=bC.celF (show bC w S (V t) M G v from U);refine bC.slot ⟨by grind [p6],celF v,e2,?_⟩
    grind [cP.tag]
   | ptr G=>exact U
  obtain⟨-,J,r⟩:=Kq hq
  grind
 refine jf hTE (hD _) c hc _ _ _ _ w (hp u p) hst λe F' W l he hs'=>?_
 obtain⟨S',φ',h⟩:=hs';have fin:resA TE F' y.results.toList (sles (GE 0 A O)) (λsh G=>aS (kO sh) k G rcs (iL u F' 0 A O B))->W.defers=[]/\∃v,(results y W.tmps).run P l=.ok v l/\(∃v',Ending.returned v=.returned v'/\bz (λb o=>∃i,V i b o) w l/\∃(X:am)(Z:Nat->am)(S1:am),
     (∀b o,X b o->(∃i,V i b o)\/(b<l.heap.size/\w.heap.size<=b))/\(∀i b o,Z i b o->(∃i,V i b o)\/(b<l.heap.size/\w.heap.size<=b))/\
     (∀b o,S1 b o->(sh=true/\S b o)\/(∃i,V i b o)\/(b<l.heap.size/\w.heap.size<=b))/\
     (∀i i',i≠i'->∀b o,Z i b o->¬Z i' b o)/\(∀i b o,X b o->¬Z i b o)/\(∀b o,X b o->¬S1 b o)/\(∀i b o,Z i b o->¬S1 b o)/\
     fL l NO k rcs.length v'/\cP l S1 X rcs (cu l k v')/\DQ l (λb o=>S b o\/S1 b o) Z B E):=by
  intro hr;obtain⟨shs,G,a,u',hfin,hrun,L,hln,hL,hcells,H,hrow⟩:=h.resA hTE hr;obtain⟨rfl,rfl,R⟩:=hfin.out;refine⟨h.defers,?_⟩;have T:(results y W.tmps).run P l=.ok (if h:a.toArray.size=1 then a.toArray[0] else .tuple a.toArray) l:=by
   have e:results y W.tmps=(do let E <-y.results.mapM (Gp W.tmps);pure (if h:E.size=1 then E[0] else .tuple E)):=by
    unfold results
    congr 1
   rw[e,<-Array.toArray_toList (xs:=y.results),List.mapM_toArray]
   simp_all
  have hex:∀t b o,φ' t b o->(∃i,V i b o)\/(b<l.heap.size/\w.heap.size<=b):=λt b o d=>(h.ex t b o d).2.elim (λh'=>.inr ⟨(h.ex t b o d).1,h'⟩) .inl
  have hsameS:bp S w l:=λb o d=>by
   have Q:=hS b o d;exact⟨h.old.cel b o Q ψ,h.old.fro b o Q ψ⟩
  have hm:=h.backs (u:=u) hsameS h.sub hA ψ (λj v G hj hc=>by
    have:=h.par _ (Lo (p:=p) (i:=0) hc)
    grind) R
  refine⟨_,T,_,rfl,h.old,λb o=>∃t,t∉sles (GE 0 A O)/\φ' t b o,λi=>T7 φ' (GE 0 A O)[i]?,λb o=>(sh=true/\S' b o)\/(S' b o/\((∃i,V i b o)\/w.heap.size<=b)),ψ,λi b o d=>?_,λb o d=>?_,λi i' hne b o d g=>?_,λi b o ⟨t,ht,d⟩ g=>?_,λb o ⟨t,_,d⟩ g=>h.disS t b o d ψ,λi b o d g=>?_,?_⟩
  ·grind [yW]
  ·rcases d with⟨J,r⟩|⟨J,r⟩
   ·rcases(h.sup b o r).2 with K|K|K
    ·grind
    ·exact .inr (.inr ⟨(h.sup b o r).1,K⟩)
    grind
   rcases r with r|r
   ·grind
   exact .inr (.inr ⟨(h.sup b o J).1,r⟩)
  ·obtain⟨t,e1,d⟩:=yW d
   obtain⟨t',e2,g⟩:=yW g;exact h.dis t t' (uq hok i i' t t' hne e1 e2) b o d g
  ·obtain⟨t',e2,g⟩:=yW g
   exact h.dis t t' (λe=>ht (by grind [xN])) b o d g
  ·obtain⟨t,-,d⟩:=yW d
   exact h.disS t b o d ψ
  have hk:fL l NO (kO shs) G.length (if h:a.toArray.size=1 then a.toArray[0] else .tuple a.toArray)/\cP l S' (λb o=>∃t,t∉sles (GE 0 A O)/\φ' t b o) G (cu l (kO shs) (if h:a.toArray.size=1 then a.toArray[0] else .tuple a.toArray)):=by
   match shs,L,H,hL with
   | [],L,_,hL=>
    cases a with
    | cons _ _=>exact L.elim
    | nil=>
     have:G=[]:=ψ
     subst this;exact⟨⟨_,rfl,trivial,rfl⟩,cP.nil _ _ _ _⟩
   | [M],_,H,_=>
    obtain⟨v,rfl,hv⟩:=H M rfl;have:=hv.slot (F:=F') (tv:=tvs W);obtain⟨X1,Y,J,r,K,U,h5⟩:=this;refine⟨?_,h5.mono (λ_ _ h=>h) r⟩;cases M<;>exact U
   | M::ag2::sh,L,_,hL=>
    have hsz:¬a.toArray.size=1:=by
     match a,L with
     | [],L=>simp
     | [v],L=>cases M<;>cases ag2<;>exact L.2.elim
     | _::_::_,_=>simp
    rw[dif_neg hsz];refine⟨⟨_,rfl,L,hL⟩,hrow.congr λj hj=>?_⟩;simp only[cu,kO,ns,hcells];simp[List.getD,hj]
  refine⟨hk.1,?_,hm.mono λb o d=>?_⟩
  ·rcases hsh with J|J
   ·exact hk.2.mono ψ (λ_ _ h=>h)
   exact(hk.2.fresh J).mono (λ_ _ h=>h.elim) (λ_ _ h=>h)
  rcases(h.sup b o d).2 with K|K|K
  all_goals grind
 cases e with
 | normal=>exact fin he
 | ret=>exact fin he
 | _=>exact he.elim
end
abbrev I(z:Int):C:=.v (.int .i64 z)
abbrev B(b:Bool):C:=.v (.bool b)
def rI(_:dY)(z:Int):List C:=[I z]
def rB(_:dY)(b:Bool):List C:=[B b]
def r6(z:Int):iv (rI .own z):=⟨trivial,trivial⟩
def Ff(b:Bool):iv (rB .own b):=⟨trivial,trivial⟩
def nE(z:Int):Prop:=-9223372036854775808<=z/\z<=9223372036854775807
def Vh(_:Bool):Prop:=True
def rQ : Tryz.prog.follows .mixedOrders=true:=by kernel_rfl
variable{tb: List (Nat × Nat × List Nat)}{rcs: List C}{A: List RA}{sh: Bool}{c: Code}{mo: List (Nat × List Nat)}{f: Nat}
def Uy{a : Func}(d : Tryz.prog.funcs[f]? = some a)(e : (a.name == "runtime.NumGoroutine") = false)(g : a.body = some c)(h : gw (nO tb) c = true)(i:A.length+(a.ntmps - A.length)=n)(b:sh=true\/iv rcs)(j:aw Tryz.prog TE ⟨n,[],mo⟩ (DF Tryz.prog TE ⟨n,[],mo⟩ tb) c (RE TE a.results.toList k rcs) (lay (wu 0 A))):zzA f sh A k rcs:=
 Mc qX d e g (ss qX rQ ⟨n,[],mo⟩ tb) h i rfl b j
def U9{a : Func}{A B : List MA}(b : List (Nat × Nat))(g : Tryz.prog.funcs[f]? = some a)(h : (a.name == "runtime.NumGoroutine") = false)(i : a.body = some c)(j : gw (nO tb) c = true)(l:A.length+(a.ntmps - A.length)=n)(d:HO (GE 0 A b)=true)(e:sh=true\/iv rcs)(o:∀(u:Nat->Nat->Value)(p:Nat->Value),aw Tryz.prog TE ⟨n,KY p 0 A,mo⟩ (DF Tryz.prog TE ⟨n,KY p 0 A,mo⟩ tb) c (T3 TE a.results.toList k rcs u A B b) (lay (zy u 0 A))):zzB f sh A B k rcs:=
 Mx b qX g h i (λN=>ss qX rQ N tb) j l d e o
def Uj{a : Func}(b : Tryz.prog.funcs[f]? = some a)(d : (a.name == "runtime.NumGoroutine") = false)(e : a.body = some c)(g : gw (nO tb) c = true)(h:A.length+(a.ntmps - A.length)=n)(i:a.results = #[.tmp t])(j:aw Tryz.prog TE ⟨n,[],mo⟩ (DF Tryz.prog TE ⟨n,[],mo⟩ tb) c (Ur t rcs) (lay (wu 0 A))):sf Tryz.prog f true A .box rcs:=
 M9 qX b d e (ss qX rQ ⟨n,[],mo⟩ tb) g h rfl i j
theorem gc{x:Int}(h1 : -9223372036854775808<=x)(a:x<=9223372036854775807):IntKind.i64.wrap x=x:=IntWalk.i64_in x ω
def Qv:RA->RA->Prop
 | .val ag cs,.val ag' cs'=>ag=ag'/\cs=cs'
 | .ptr cs,.ptr cs'=>cs=cs'
 | A,a=>A=a
theorem Qv.eq{A a:RA}(h:Qv A a):A=a:=by
 unfold Qv at h
 grind
def BE:List RA->List RA->Prop
 | [],[]=>True
 | A::As,B::Bs=>Qv A B/\BE As Bs
 | _,_=>False
theorem BE.eq:∀{A a:List RA},BE A a->A=a
 | [],[],_=>rfl
 | A::As,B::Bs,h=>by rw[Qv.eq h.1,BE.eq h.2]
 | [],_::_,h=>h.elim
 | _::_,[],h=>h.elim
theorem Cl.eq{b:Bool}{a:List RA}{K:AV->Prop}(h:ay P f false a k rcs)(c:BE A a)(d:K (.H k rcs)):Cl P f b A K:=by grind [BE.eq,C9]
def CG:type_of% @Cl.eq:=@Cl.eq
def y4{b:Nat}(h:n<=1048576)(a:b<=1000):n*b<=140737488355328:=I5 (Nat.mul_le_mul h a) (by decide)
variable{X Y:Prop}
theorem Bf.NB{a b:Bool}(h1:a≠b->X)(c:a=b->Y):Bf (a != b) X Y:=by grind [Bf.P]
theorem Rw.one{off k j:Nat}{K:List C->Nat->Prop}{o:dY}{rows:List (List C)}{r:List C}(h1:a[off]? = some (.s o rows))(c:rows[i]? = some r)(d:r.length=k)(b:K r j):Rw a off [(i,k,j)] K:=
 Rw.mk (r:=r) (j:=j) (by grind [cw]) b
def CK:type_of% @Rw.one:=@Rw.one
section
variable{α:Type}{A B:List α}
end
def aa{β:Type}{f:α->β}{l:List α}{k:Nat}{x:α}(h:l[k]? = some x):(l.map f)[k]? = some (f x):=by simp[h]
def aH(o:dY)(x:List Int):List C:=[.s o (x.map (rI o))]
def dK(x:List Int):dG (aH .own x)=aH .V x:=by simp[dG,aH,rI,dG]
theorem bT(x:List Int):iv (aH .own x):=⟨⟨.inl ψ,bj _ _ λy _=>r6 y⟩,trivial⟩
def iA(x:List Int):Prop:=x.length<=9223372036854775807/\∀y∈x,nE y
def tj(x:List Int):Prop:=x.length<=1048576
def jF(o:dY)(x:List (List Int)):List C:=[.s o (x.map (aH o))]
def Uf(x:List (List Int)):dG (jF .own x)=jF .V x:=by simp[dG,jF,dK,<-ch,W6]
def EG(x:List (List Int)):Prop:=x.length<=9223372036854775807/\∀y∈x,iA y
def zA(x:List (List Int)):Prop:=x.length<=1048576/\∀y∈x,tj y
def wV(o:dY)(x:List Bool):List C:=[.s o (x.map (rB o))]
def Rp(x:List Bool):Prop:=x.length<=9223372036854775807/\∀y∈x,Vh y
def NR(x:List Bool):Prop:=x.length<=1048576
structure aU where
 T:List (List Int)
 a1:List Bool
deriving DecidableEq,Inhabited
def aU.enc(o:dY)(x:aU):List C:=[.s o (x.T.map (aH o)),.s o (x.a1.map (rB o))]
def aU.enc_fz(x:aU):dG (aU.enc .own x)=aU.enc .V x:=by simp[dG,aU.enc,rB,dK,<-ch,W6]
theorem aU.enc_fr(x:aU):iv (aU.enc .own x):=⟨⟨.inl ψ,bj _ _ λy _=>bT y⟩,⟨.inl ψ,bj _ _ λy _=>Ff y⟩,trivial⟩
def aU.wf(x:aU):Prop:=EG x.T/\Rp x.a1
def aU.sml(x:aU):Prop:=zA x.T/\NR x.a1
structure bh where
 e:Int
 o:Int
deriving DecidableEq,Inhabited
def bh.enc(o:dY)(x:bh):List C:=[I x.e,I x.o]
def bh.enc_fz(x:bh):dG (bh.enc .own x)=bh.enc .V x:=by simp[dG,bh.enc]
def bh.enc_fr(x:bh):iv (bh.enc .own x):=⟨trivial,trivial,trivial⟩
def bh.wf(x:bh):Prop:=nE x.e/\nE x.o
def bh.sml(_:bh):Prop:=True
def FT(o:dY)(x:List bh):List C:=[.s o (x.map (bh.enc o))]
def M2(x:List bh):Prop:=x.length<=9223372036854775807/\∀y∈x,bh.wf y
def Jb(x:List bh):Prop:=x.length<=1048576/\∀y∈x,bh.sml y
structure aJ where
 J:List bh
deriving DecidableEq,Inhabited
def aJ.enc(o:dY)(x:aJ):List C:=[.s o (x.J.map (bh.enc o))]
def aJ.enc_fz(x:aJ):dG (aJ.enc .own x)=aJ.enc .V x:=by simp[dG,aJ.enc,bh.enc_fz,<-ch,W6]
def Cb:type_of% @aJ.enc_fz:=@aJ.enc_fz
theorem aJ.enc_fr(x:aJ):iv (aJ.enc .own x):=⟨⟨.inl ψ,bj _ _ λy _=>bh.enc_fr y⟩,trivial⟩
def aJ.wf(x:aJ):Prop:=M2 x.J
def aJ.sml(x:aJ):Prop:=Jb x.J
structure aY where
 W:aU
 Q:aJ
deriving DecidableEq,Inhabited
def aY.enc(o:dY)(x:aY):List C:=[.s o (x.W.T.map (aH o)),.s o (x.W.a1.map (rB o)),.s o (x.Q.J.map (bh.enc o))]
def aY.enc_fz(x:aY):dG (aY.enc .own x)=aY.enc .V x:=by simp[dG,aY.enc,bh.enc_fz,rB,dK,<-ch,W6]
theorem aY.enc_fr(x:aY):iv (aY.enc .own x):=⟨⟨.inl ψ,bj _ _ λy _=>bT y⟩,⟨.inl ψ,bj _ _ λy _=>Ff y⟩,⟨.inl ψ,bj _ _ λy _=>bh.enc_fr y⟩,trivial⟩
def aY.wf(x:aY):Prop:=aU.wf x.W/\aJ.wf x.Q
def aY.sml(x:aY):Prop:=aU.sml x.W/\aJ.sml x.Q
structure ah where
 F:aY
 Calls:Int
 w:List Int
deriving DecidableEq,Inhabited
def ah.enc(o:dY)(x:ah):List C:=[.s o (x.F.W.T.map (aH o)),.s o (x.F.W.a1.map (rB o)),.s o (x.F.Q.J.map (bh.enc o)),I x.Calls,.s o (x.w.map (rI o))]
def ah.enc_fz(x:ah):dG (ah.enc .own x)=ah.enc .V x:=by simp[dG,ah.enc,bh.enc_fz,rB,rI,dK,<-ch,W6]
def CR:type_of% @ah.enc_fz:=@ah.enc_fz
theorem ah.enc_fr(x:ah):iv (ah.enc .own x):=⟨⟨.inl ψ,bj _ _ λy _=>bT y⟩,⟨.inl ψ,bj _ _ λy _=>Ff y⟩,⟨.inl ψ,bj _ _ λy _=>bh.enc_fr y⟩,trivial,⟨.inl ψ,bj _ _ λy _=>r6 y⟩,trivial⟩
def Ce:type_of% @ah.enc_fr:=@ah.enc_fr
def ah.wf(x:ah):Prop:=aY.wf x.F/\nE x.Calls/\iA x.w
def ah.sml(x:ah):Prop:=aY.sml x.F/\tj x.w
structure aB where
 At:Int
 a8:Int
deriving DecidableEq,Inhabited
def aB.enc(o:dY)(x:aB):List C:=[I x.At,I x.a8]
def aB.enc_fz(x:aB):dG (aB.enc .own x)=aB.enc .V x:=by simp[dG,aB.enc]
def aB.enc_fr(x:aB):iv (aB.enc .own x):=⟨trivial,trivial,trivial⟩
def aB.wf(x:aB):Prop:=nE x.At/\nE x.a8
def aB.sml(_:aB):Prop:=True
def bw(o:dY)(x:List aB):List C:=[.s o (x.map (aB.enc o))]
def ew(x:List aB):dG (bw .own x)=bw .V x:=by simp[dG,bw,aB.enc_fz,<-ch,W6]
theorem iM(x:List aB):iv (bw .own x):=⟨⟨.inl ψ,bj _ _ λy _=>aB.enc_fr y⟩,trivial⟩
def LY(x:List aB):Prop:=x.length<=9223372036854775807/\∀y∈x,aB.wf y
def gT(x:List aB):Prop:=x.length<=1048576/\∀y∈x,aB.sml y
structure aA where
 R:Int
 d:Int
 a9:Int
deriving DecidableEq,Inhabited
def aA.enc(o:dY)(x:aA):List C:=[I x.R,I x.d,I x.a9]
def aA.enc_fz(x:aA):dG (aA.enc .own x)=aA.enc .V x:=by simp[dG,aA.enc]
def aA.enc_fr(x:aA):iv (aA.enc .own x):=⟨trivial,trivial,trivial,trivial⟩
def aA.wf(x:aA):Prop:=nE x.R/\nE x.d/\nE x.a9
def aA.sml(_:aA):Prop:=True
def cF(o:dY)(x:List aA):List C:=[.s o (x.map (aA.enc o))]
def za(x:List aA):dG (cF .own x)=cF .V x:=by simp[dG,cF,aA.enc_fz,<-ch,W6]
theorem JH(x:List aA):iv (cF .own x):=⟨⟨.inl ψ,bj _ _ λy _=>aA.enc_fr y⟩,trivial⟩
def NU(x:List aA):Prop:=x.length<=9223372036854775807/\∀y∈x,aA.wf y
def dC(x:List aA):Prop:=x.length<=1048576/\∀y∈x,aA.sml y
structure aF where
 R:Int
 a3:Int
 q:Int
deriving DecidableEq,Inhabited
def aF.enc(o:dY)(x:aF):List C:=[I x.R,I x.a3,I x.q]
def aF.enc_fz(x:aF):dG (aF.enc .own x)=aF.enc .V x:=by simp[dG,aF.enc]
def aF.enc_fr(x:aF):iv (aF.enc .own x):=⟨trivial,trivial,trivial,trivial⟩
def aF.wf(x:aF):Prop:=nE x.R/\nE x.a3/\nE x.q
def aF.sml(_:aF):Prop:=True
def cA(o:dY)(x:List aF):List C:=[.s o (x.map (aF.enc o))]
def Gs(x:List aF):dG (cA .own x)=cA .V x:=by simp[dG,cA,aF.enc_fz,<-ch,W6]
def MI(x:List aF):Prop:=x.length<=9223372036854775807/\∀y∈x,aF.wf y
def dS(x:List aF):Prop:=x.length<=1048576/\∀y∈x,aF.sml y
structure bt where
 Id:Int
 Addr:Int
 q:Int
 a5:Int
deriving DecidableEq,Inhabited
def bt.enc(o:dY)(x:bt):List C:=[I x.Id,I x.Addr,I x.q,I x.a5]
def bt.enc_fz(x:bt):dG (bt.enc .own x)=bt.enc .V x:=by simp[dG,bt.enc]
def bt.enc_fr(x:bt):iv (bt.enc .own x):=⟨trivial,trivial,trivial,trivial,trivial⟩
def bt.wf(x:bt):Prop:=nE x.Id/\nE x.Addr/\nE x.q/\nE x.a5
def bt.sml(_:bt):Prop:=True
def nL(o:dY)(x:List bt):List C:=[.s o (x.map (bt.enc o))]
def L9(x:List bt):dG (nL .own x)=nL .V x:=by simp[dG,nL,bt.enc_fz,<-ch,W6]
def QU(x:List bt):Prop:=x.length<=9223372036854775807/\∀y∈x,bt.wf y
def PD(x:List bt):Prop:=x.length<=1048576/\∀y∈x,bt.sml y
structure aE where
 a:List (List Int)
deriving DecidableEq,Inhabited
def aE.enc(o:dY)(x:aE):List C:=[.s o (x.a.map (aH o))]
def aE.enc_fz(x:aE):dG (aE.enc .own x)=aE.enc .V x:=by simp[dG,aE.enc,dK,<-ch,W6]
def Cg:type_of% @aE.enc_fz:=@aE.enc_fz
theorem aE.enc_fr(x:aE):iv (aE.enc .own x):=⟨⟨.inl ψ,bj _ _ λy _=>bT y⟩,trivial⟩
def Ci:type_of% @aE.enc_fr:=@aE.enc_fr
def aE.wf(x:aE):Prop:=EG x.a
def aE.sml(x:aE):Prop:=zA x.a
def pQ(o:dY)(x:List aE):List C:=[.s o (x.map (aE.enc o))]
def M4(x:List aE):Prop:=x.length<=9223372036854775807/\∀y∈x,aE.wf y
def Jn(x:List aE):Prop:=x.length<=1048576/\∀y∈x,aE.sml y
structure dx where
 To:Int
 Addr:Int
deriving DecidableEq,Inhabited
def dx.enc(o:dY)(x:dx):List C:=[I x.To,I x.Addr]
def dx.enc_fz(x:dx):dG (dx.enc .own x)=dx.enc .V x:=by simp[dG,dx.enc]
def dx.enc_fr(x:dx):iv (dx.enc .own x):=⟨trivial,trivial,trivial⟩
def dx.wf(x:dx):Prop:=nE x.To/\nE x.Addr
def dx.sml(_:dx):Prop:=True
def cL(o:dY)(x:List dx):List C:=[.s o (x.map (dx.enc o))]
def sr(x:List dx):dG (cL .own x)=cL .V x:=by simp[dG,cL,dx.enc_fz,<-ch,W6]
theorem rM(x:List dx):iv (cL .own x):=⟨⟨.inl ψ,bj _ _ λy _=>dx.enc_fr y⟩,trivial⟩
def Nv(x:List dx):Prop:=x.length<=9223372036854775807/\∀y∈x,dx.wf y
def Lz(x:List dx):Prop:=x.length<=1048576/\∀y∈x,dx.sml y
def x8(o:dY)(x:List (List dx)):List C:=[.s o (x.map (cL o))]
def M0(x:List (List dx)):Prop:=x.length<=9223372036854775807/\∀y∈x,Nv y
def Jq(x:List (List dx)):Prop:=x.length<=1048576/\∀y∈x,Lz y
structure aP where
 U:List (List dx)
 a0:List (List Int)
deriving DecidableEq,Inhabited
def aP.enc(o:dY)(x:aP):List C:=[.s o (x.U.map (cL o)),.s o (x.a0.map (aH o))]
def aP.enc_fz(x:aP):dG (aP.enc .own x)=aP.enc .V x:=by simp[dG,aP.enc,sr,dK,<-ch,W6]
theorem aP.enc_fr(x:aP):iv (aP.enc .own x):=⟨⟨.inl ψ,bj _ _ λy _=>rM y⟩,⟨.inl ψ,bj _ _ λy _=>bT y⟩,trivial⟩
def aP.wf(x:aP):Prop:=M0 x.U/\EG x.a0
def aP.sml(x:aP):Prop:=Jq x.U/\zA x.a0
structure aV where
 Addr:Int
 d:Int
 b7:Int
deriving DecidableEq,Inhabited
def aV.enc(o:dY)(x:aV):List C:=[I x.Addr,I x.d,I x.b7]
def aV.enc_fz(x:aV):dG (aV.enc .own x)=aV.enc .V x:=by simp[dG,aV.enc]
def aV.enc_fr(x:aV):iv (aV.enc .own x):=⟨trivial,trivial,trivial,trivial⟩
def aV.wf(x:aV):Prop:=nE x.Addr/\nE x.d/\nE x.b7
def aV.sml(_:aV):Prop:=True
def cY(o:dY)(x:List aV):List C:=[.s o (x.map (aV.enc o))]
def Hl(x:List aV):dG (cY .own x)=cY .V x:=by simp[dG,cY,aV.enc_fz,<-ch,W6]
theorem vA(x:List aV):iv (cY .own x):=⟨⟨.inl ψ,bj _ _ λy _=>aV.enc_fr y⟩,trivial⟩
def Mp(x:List aV):Prop:=x.length<=9223372036854775807/\∀y∈x,aV.wf y
def lH(x:List aV):Prop:=x.length<=1048576/\∀y∈x,aV.sml y
structure bO where
 b8:Int
 a6:List aV
deriving DecidableEq,Inhabited
def bO.enc(o:dY)(x:bO):List C:=[I x.b8,.s o (x.a6.map (aV.enc o))]
def bO.enc_fz(x:bO):dG (bO.enc .own x)=bO.enc .V x:=by simp[dG,bO.enc,aV.enc_fz,<-ch,W6]
theorem bO.enc_fr(x:bO):iv (bO.enc .own x):=⟨trivial,⟨.inl ψ,bj _ _ λy _=>aV.enc_fr y⟩,trivial⟩
def bO.wf(x:bO):Prop:=nE x.b8/\Mp x.a6
def bO.sml(x:bO):Prop:=lH x.a6
structure cE where
 a4:Int
 a2:Int
 T:List Int
deriving DecidableEq,Inhabited
def cE.enc(o:dY)(x:cE):List C:=[I x.a4,I x.a2,.s o (x.T.map (rI o))]
def cE.enc_fz(x:cE):dG (cE.enc .own x)=cE.enc .V x:=by simp[dG,cE.enc,rI,<-ch,W6]
theorem cE.enc_fr(x:cE):iv (cE.enc .own x):=⟨trivial,trivial,⟨.inl ψ,bj _ _ λy _=>r6 y⟩,trivial⟩
def cE.wf(x:cE):Prop:=nE x.a4/\nE x.a2/\iA x.T
def cE.sml(x:cE):Prop:=tj x.T
structure cK where
 X:cE
 b0:Int
 b:Int
deriving DecidableEq,Inhabited
def cK.enc(o:dY)(x:cK):List C:=[I x.X.a4,I x.X.a2,.s o (x.X.T.map (rI o)),I x.b0,I x.b]
def cK.enc_fz(x:cK):dG (cK.enc .own x)=cK.enc .V x:=by simp[dG,cK.enc,rI,<-ch,W6]
theorem cK.enc_fr(x:cK):iv (cK.enc .own x):=⟨trivial,trivial,⟨.inl ψ,bj _ _ λy _=>r6 y⟩,trivial,trivial,trivial⟩
def cK.wf(x:cK):Prop:=cE.wf x.X/\nE x.b0/\nE x.b
def cK.sml(x:cK):Prop:=cE.sml x.X
structure ac where
 G:ah
 j:List aB
 K:List aA
 M:List aF
 O:List bt
 S:List aE
 y:aP
 a7:bO
 b3:Int
 b2:Int
 b1:Int
 b:Int
 u:Bool
 Z:cK
deriving DecidableEq,Inhabited
def ac.enc(o:dY)(x:ac):List C:=[.s o (x.G.F.W.T.map (aH o)),.s o (x.G.F.W.a1.map (rB o)),.s o (x.G.F.Q.J.map (bh.enc o)),I x.G.Calls,.s o (x.G.w.map (rI o)),.s o (x.j.map (aB.enc o)),.s o (x.K.map (aA.enc o)),.s o (x.M.map (aF.enc o)),.s o (x.O.map (bt.enc o)),.s o (x.S.map (aE.enc o)),.s o (x.y.U.map (cL o)),.s o (x.y.a0.map (aH o)),I x.a7.b8,.s o (x.a7.a6.map (aV.enc o)),I x.b3,I x.b2,I x.b1,I x.b,B x.u,I x.Z.X.a4,I x.Z.X.a2,.s o (x.Z.X.T.map (rI o)),I x.Z.b0,I x.Z.b]
def ac.enc_fz(x:ac):dG (ac.enc .own x)=ac.enc .V x:=by simp[dG,ac.enc,Cg,bh.enc_fz,aF.enc_fz,bt.enc_fz,aB.enc_fz,aA.enc_fz,aV.enc_fz,rB,sr,rI,dK,<-ch,W6]
def CX:type_of% @ac.enc_fz:=@ac.enc_fz
theorem ac.enc_fr(x:ac):iv (ac.enc .own x):=⟨⟨.inl ψ,bj _ _ λy _=>bT y⟩,⟨.inl ψ,bj _ _ λy _=>Ff y⟩,⟨.inl ψ,bj _ _ λy _=>bh.enc_fr y⟩,trivial,⟨.inl ψ,bj _ _ λy _=>r6 y⟩,⟨.inl ψ,bj _ _ λy _=>aB.enc_fr y⟩,⟨.inl ψ,bj _ _ λy _=>aA.enc_fr y⟩,⟨.inl ψ,bj _ _ λy _=>aF.enc_fr y⟩,⟨.inl ψ,bj _ _ λy _=>bt.enc_fr y⟩,⟨.inl ψ,bj _ _ λy _=>Ci y⟩,⟨.inl ψ,bj _ _ λy _=>rM y⟩,⟨.inl ψ,bj _ _ λy _=>bT y⟩,trivial,⟨.inl ψ,bj _ _ λy _=>aV.enc_fr y⟩,trivial,trivial,trivial,trivial,trivial,trivial,trivial,⟨.inl ψ,bj _ _ λy _=>r6 y⟩,trivial,trivial,trivial⟩
def ac.wf(x:ac):Prop:=ah.wf x.G/\LY x.j/\NU x.K/\MI x.M/\QU x.O/\M4 x.S/\aP.wf x.y/\bO.wf x.a7/\nE x.b3/\nE x.b2/\nE x.b1/\nE x.b/\Vh x.u/\cK.wf x.Z
def ac.sml(x:ac):Prop:=ah.sml x.G/\gT x.j/\dC x.K/\dS x.M/\PD x.O/\Jn x.S/\aP.sml x.y/\bO.sml x.a7/\cK.sml x.Z
structure jL where
 b6:Int
 c0:Int
 c4:Int
 c1:Int
deriving DecidableEq,Inhabited
def jL.enc(o:dY)(x:jL):List C:=[I x.b6,I x.c0,I x.c4,I x.c1]
def jL.enc_fr(x:jL):iv (jL.enc .own x):=⟨trivial,trivial,trivial,trivial,trivial⟩
structure Vg where
 Id:Int
 q:Int
 Sum:Int
deriving DecidableEq,Inhabited
structure bH where
 Id:Int
 T:List Int
deriving DecidableEq,Inhabited
def bH.enc(o:dY)(x:bH):List C:=[I x.Id,.s o (x.T.map (rI o))]
def bH.enc_fz(x:bH):dG (bH.enc .own x)=bH.enc .V x:=by simp[dG,bH.enc,rI,<-ch,W6]
theorem bH.enc_fr(x:bH):iv (bH.enc .own x):=⟨trivial,⟨.inl ψ,bj _ _ λy _=>r6 y⟩,trivial⟩
def bH.sml(x:bH):Prop:=tj x.T
def GL(x:List bH):Prop:=x.length<=1048576/\∀y∈x,bH.sml y
structure aD where
 b:Int
 O:List bH
deriving DecidableEq,Inhabited
def aD.enc(o:dY)(x:aD):List C:=[I x.b,.s o (x.O.map (bH.enc o))]
def aD.enc_fz(x:aD):dG (aD.enc .own x)=aD.enc .V x:=by simp[dG,aD.enc,bH.enc_fz,<-ch,W6]
def Cj:type_of% @aD.enc_fz:=@aD.enc_fz
theorem aD.enc_fr(x:aD):iv (aD.enc .own x):=⟨trivial,⟨.inl ψ,bj _ _ λy _=>bH.enc_fr y⟩,trivial⟩
def aD.sml(x:aD):Prop:=GL x.O
structure bo where
 Y:ac
 b5:aD
deriving DecidableEq,Inhabited
def bo.enc(o:dY)(x:bo):List C:=[.s o (x.Y.G.F.W.T.map (aH o)),.s o (x.Y.G.F.W.a1.map (rB o)),.s o (x.Y.G.F.Q.J.map (bh.enc o)),I x.Y.G.Calls,.s o (x.Y.G.w.map (rI o)),.s o (x.Y.j.map (aB.enc o)),.s o (x.Y.K.map (aA.enc o)),.s o (x.Y.M.map (aF.enc o)),.s o (x.Y.O.map (bt.enc o)),.s o (x.Y.S.map (aE.enc o)),.s o (x.Y.y.U.map (cL o)),.s o (x.Y.y.a0.map (aH o)),I x.Y.a7.b8,.s o (x.Y.a7.a6.map (aV.enc o)),I x.Y.b3,I x.Y.b2,I x.Y.b1,I x.Y.b,B x.Y.u,I x.Y.Z.X.a4,I x.Y.Z.X.a2,.s o (x.Y.Z.X.T.map (rI o)),I x.Y.Z.b0,I x.Y.Z.b,I x.b5.b,.s o (x.b5.O.map (bH.enc o))]
theorem bo.enc_fr(x:bo):iv (bo.enc .own x):=⟨⟨.inl ψ,bj _ _ λy _=>bT y⟩,⟨.inl ψ,bj _ _ λy _=>Ff y⟩,⟨.inl ψ,bj _ _ λy _=>bh.enc_fr y⟩,trivial,⟨.inl ψ,bj _ _ λy _=>r6 y⟩,⟨.inl ψ,bj _ _ λy _=>aB.enc_fr y⟩,⟨.inl ψ,bj _ _ λy _=>aA.enc_fr y⟩,⟨.inl ψ,bj _ _ λy _=>aF.enc_fr y⟩,⟨.inl ψ,bj _ _ λy _=>bt.enc_fr y⟩,⟨.inl ψ,bj _ _ λy _=>Ci y⟩,⟨.inl ψ,bj _ _ λy _=>rM y⟩,⟨.inl ψ,bj _ _ λy _=>bT y⟩,trivial,⟨.inl ψ,bj _ _ λy _=>aV.enc_fr y⟩,trivial,trivial,trivial,trivial,trivial,trivial,trivial,⟨.inl ψ,bj _ _ λy _=>r6 y⟩,trivial,trivial,trivial,⟨.inl ψ,bj _ _ λy _=>bH.enc_fr y⟩,trivial⟩
structure Uz where
 a3:Int
 Mapped:Int
 W:Int
 Held:Int
 nB:Int
 Cached:Int
 c2:Int
 Posted:Int
deriving DecidableEq,Inhabited
def Lm{β:Type}{f:α->β}{l:List α}{K:Nat->Prop}(h:K l.length):Ln (l.map f).length K:=Ln.mk (I1 ..) h
def Wm{z:Int}{K:Int->Prop}(h : -9223372036854775808<=z/\z<=9223372036854775807)(a:K z):Wr .i64 z K:=CN (gc h.1 h.2) a
variable{p:Prop}
def dT[Decidable p](h:p)(a:p->X):Bf (decide p) X Y:=.D a λe=>absurd h e
def dF[Decidable p](h:¬p)(a:¬p->Y):Bf (decide p) X Y:=.D (λe=>absurd e h) a
variable{b:Int}
def nT{a:Int}(h:a≠b)(c:a≠b->X):Bf (a != b) X Y:=.N c λe=>absurd e h
def nF{a:Int}(h:a=b)(c:a=b->Y):Bf (a != b) X Y:=.N (λe=>absurd h e) c
def eT{a:Int}(h:a=b)(c:a=b->X):Bf (a == b) X Y:=.E c λe=>absurd h e
def eF{a:Int}(h:a≠b)(c:a≠b->Y):Bf (a == b) X Y:=.E (λe=>absurd e h) c
def Bn{b:Bool}(h:Bf b Y X):Bf (!b) X Y:=.not h
def Bt(h:X):Bf true X Y:=.t rfl h
def Bu(h:Y):Bf false X Y:=.f rfl h
def Fm{b:Kd}(h1:k=b)(h:cs=a):jt k b cs a:=.mk h1 h
def dV[Decidable p](h:p)(a:X):Bf (decide p) X Y:=.D (λ_=>a) λe=>absurd h e
def dW[Decidable p](h:¬p)(a:Y):Bf (decide p) X Y:=.D (λe=>absurd e h) λ_=>a
def nV{a:Int}(h:a≠b)(c:X):Bf (a != b) X Y:=.N (λ_=>c) λe=>absurd e h
def nW{a:Int}(h:a=b)(c:Y):Bf (a != b) X Y:=.N (λe=>absurd h e) λ_=>c
def eV{a:Int}(h:a=b)(c:X):Bf (a == b) X Y:=.E (λ_=>c) λe=>absurd h e
def eW{a:Int}(h:a≠b)(c:Y):Bf (a == b) X Y:=.E (λe=>absurd e h) λ_=>c
structure Lx(Y:Prop):Prop where
 out:Y
def gO(y:Y)(h:Lx Y->X:=by intro y;(conv=>whnf);(first|with_reducible (first|refine Lm ?_|refine Wm ω ?_|refine Bn ?_|refine Fm rfl ?_)|refine Bt ?_|refine Bu ?_|fail);exact y.out):X:=h ⟨y⟩
def gP(y:Y)(h:Lx Y->X:=by intro y;(conv=>whnf);(first|with_reducible (first|refine Lm ?_|refine Wm ω ?_|refine Bn ?_|refine Fm rfl ?_)|refine Bt ?_|refine Bu ?_|refine C9 (by assumption) ?_|refine CE (aa (by assumption)) ?_|refine CK rfl (aa (by assumption)) rfl ?_|refine CC ?_|fail);exact y.out):X:=h ⟨y⟩
def gD(y:Y)(h:Lx Y->X:=by intro y;(conv=>whnf);(first|with_reducible (first|refine Lm ?_|refine Wm ω ?_|refine dV ω ?_|refine dW ω ?_|refine Bn ?_|refine Fm rfl ?_)|refine Bt ?_|refine Bu ?_|fail);exact y.out):X:=h ⟨y⟩
def gE(y:Y)(h:Lx Y->X:=by intro y;(conv=>whnf);(first|with_reducible (first|refine Lm ?_|refine Wm ω ?_|refine dV ω ?_|refine dW ω ?_|refine Bn ?_|refine Fm rfl ?_)|refine Bt ?_|refine Bu ?_|refine C9 (by assumption) ?_|refine CE (aa (by assumption)) ?_|refine CK rfl (aa (by assumption)) rfl ?_|refine CC ?_|fail);exact y.out):X:=h ⟨y⟩
def gA(y:Y)(h:Lx Y->X:=by intro y;(conv=>whnf);(first|with_reducible (first|refine Lm ?_|refine Wm ω ?_|refine dV ω ?_|refine dW ω ?_|refine nV ω ?_|refine nW ω ?_|refine eV ω ?_|refine eW ω ?_|refine Bn ?_|refine Fm rfl ?_)|refine Bt ?_|refine Bu ?_|fail);exact y.out):X:=h ⟨y⟩
def gB(y:Y)(h:Lx Y->X:=by intro y;(conv=>whnf);(first|with_reducible (first|refine Lm ?_|refine Wm ω ?_|refine dV ω ?_|refine dW ω ?_|refine nV ω ?_|refine nW ω ?_|refine eV ω ?_|refine eW ω ?_|refine Bn ?_|refine Fm rfl ?_)|refine Bt ?_|refine Bu ?_|refine C9 (by assumption) ?_|refine CE (aa (by assumption)) ?_|refine CK rfl (aa (by assumption)) rfl ?_|refine CC ?_|fail);exact y.out):X:=h ⟨y⟩
def Uo{z1 z2:Int}(h:z1=z2):Ro (I z1) (I z2):=by subst h;rfl
def UL(c:C):Ro c c:=(n6 [c]).1
def wA(h:X:=by repeat'(first|exact trivial|rfl|refine CM ?_ ?_)):X:=h
def wB(h:X:=by repeat'(first|exact trivial|rfl|refine CM ?_ ?_|(exact Uo (by first|omega|(simp only;omega)|(simp;omega))))):X:=h
def wC(h:X:=by repeat'(first|exact trivial|rfl|exact UL _|refine CM ?_ ?_|(exact Uo (by first|omega|(simp only;omega)|(simp;omega))))):X:=h
def fO(n : Nat){a : Func}(tb : List (Nat × Nat × List Nat))(d : Tryz.prog.funcs[f]? = some a)(e : a.body = some c)(g : aw Tryz.prog TE ⟨n, [], []⟩ (DF Tryz.prog TE ⟨n, [], []⟩ tb) c (RE TE a.results.toList k rcs) (lay (wu 0 A)))(b : sh = true \/ iv rcs := by exact .inr ⟨trivial, trivial⟩)(h : (a.name == "runtime.NumGoroutine") = false := by kernel_rfl)(i : gw (nO tb) c = true := by kernel_rfl)(j : A.length + (a.ntmps - A.length) = n := by rfl) : zzA f sh A k rcs := Uy d h e i j b g
def fP(n : Nat){a : Func}(mo : List (Nat × List Nat))(tb : List (Nat × Nat × List Nat))(d : Tryz.prog.funcs[f]? = some a)(e : a.body = some c)(g : aw Tryz.prog TE ⟨n, [], mo⟩ (DF Tryz.prog TE ⟨n, [], mo⟩ tb) c (RE TE a.results.toList k rcs) (lay (wu 0 A)))(b : sh = true \/ iv rcs := by exact .inr ⟨trivial, trivial⟩)(h : (a.name == "runtime.NumGoroutine") = false := by kernel_rfl)(i : gw (nO tb) c = true := by kernel_rfl)(j : A.length + (a.ntmps - A.length) = n := by rfl) : zzA f sh A k rcs := Uy d h e i j b g
def fM(n : Nat){a : Func}{A B : List MA}(mo : List (Nat × List Nat))(tb : List (Nat × Nat × List Nat))(b : List (Nat × Nat))(g : Tryz.prog.funcs[f]? = some a)(h : a.body = some c)(i : ∀(u : Nat -> Nat -> Value)(p : Nat -> Value), aw Tryz.prog TE ⟨n, KY p 0 A, mo⟩ (DF Tryz.prog TE ⟨n, KY p 0 A, mo⟩ tb) c (T3 TE a.results.toList k rcs u A B b) (lay (zy u 0 A)))(d : sh = true \/ iv rcs := by exact .inr ⟨trivial, trivial⟩)(j : (a.name == "runtime.NumGoroutine") = false := by kernel_rfl)(l : gw (nO tb) c = true := by kernel_rfl)(o : A.length + (a.ntmps - A.length) = n := by rfl)(e : HO (GE 0 A b) = true := by rfl) : zzB f sh A B k rcs := U9 b g j h l o e d i
end Go.Proofs.YtiopgblagimpmaaGreat.Ab
