/- A region that draws its order may be run in the text's order, where its operations are apart. No condition. -/
import Derived.Test.YtiopgblagimpmaaGreatKbb
import Derived.Orders
import Derived.Test.YtiopgblagimpmaaGreatKba
import Derived.KernelRfl
import Derived.Test.YtiopgblagimpmaaGreatProg
set_option linter.unusedVariables false
set_option linter.defProp false
set_option linter.unusedSimpArgs false
set_option linter.constructorNameAsVariable false
namespace Go.Proofs.YtiopgblagimpmaaGreat.Ab
open Go.RowKit
def de(o:Oper)(i:Nat):Bool:=o.after.toList.any λe=>Region.binds .any e&&Nat.beq e.on i
def du(ops:Array Oper)(i:Nat):Oper:=ops.getD i default
def below(n:Nat)(p:Nat->Bool):Bool:=(List.range n).all p
def ue(ops:Array Oper)(i j:Nat):Bool:=match(du ops i).dst with|some d=>((du ops j).looksAt ops).any (Nat.beq d)|none=>false
def Ff:List Nat->Nat
 | []=>0
 | k::a=>2 ^ k ||| Ff a
def ons(o:Oper):List Nat:=(o.after.toList.filter λe=>Region.binds .any e).map (·.on)
variable{α:Type}
def frc(n:Nat)(K:Nat->α):α:=match n with|0=>K 0|n+1=>K (n+1)
def P8(n:Nat)(K:Nat->α):frc n K=K n:=by cases n<;>rfl
def clo(ops:Array Oper):Nat->Nat->Nat
 | 0,S=>S
 | k+1,S=>bif S.testBit k then frc (S ||| Ff (ons (du ops k))) (clo ops k) else clo ops k S
def D0(ops:Array Oper)(m:Nat):Bool:=
 below ops.size λj=>((du ops j).after.toList.all λe=>!Region.binds .any e || Nat.blt e.on j) &&
  (bif Nat.blt j m then below m (λi=>Nat.beq i j || ((de (du ops j) i || de (du ops i) j || (du ops i).apart ops (du ops j))&&(!ue ops i j || de (du ops j) i))) else frc (clo ops j (Ff (ons (du ops j)))) λS=>below j λi=>S.testBit i)
def xp:List (Nat × Nat × List Nat)->Nat->Option (Nat × List Nat)
 | [],_=>none
 | p::l,id=>bif Nat.beq id p.1 then some p.2 else xp l id
def gH(P:Program)(TE:Nat->Option TI)(N:fm)(ops:Array Oper)(o:Oper)(K:(Nat->AV)->Prop)(F:Nat->AV):Prop:=
 fN F ops o.guard (λF=>match o.dst with|some d=>dm P TE F o.op λa=>bS N F d a K|none=>False)
  (λF=>match o.dst with|some d=>bS N F d (.H (.tup []) []) K|none=>False)
def nS:Op->Option (Option Nat × Nat)
 | .buildSlice T 1 ps=>(match ps.toList with|[(0,.tmp s)]=>some (some T,s)|_=>none)
 | .move (.tmp s)=>some (none,s)
 | _=>none
def own1(T:Option Nat)(k:Kd)(cs:List C):Bool:=match T with
 | some _=>(match k with
   | .one=>(match cs with|[c]=>ed c|_=>false)
   | .agg=>(match cs with|[c]=>ed c|_=>false)
   | _=>false)
 | none=>(match k with|.tup _=>!bj cs|_=>false)
def T7(TE:Nat->Option TI)(N:fm)(F:Nat->AV)(d:Nat)(T:Option Nat)(s:Nat)(K:(Nat->AV)->Prop):Prop:=match T with
 | some T=>gg TE N F d T 1 [(0,.tmp s)] K
 | none=>iV N F d (.tmp s) K
def JT(F:Nat->AV)(o:Oper):Option (Option Nat × Nat):=
 match o.guard with
 | some _=>none
 | none=>match nS o.op with
  | none=>none
  | some p=>match F p.2 with
   | .H k cs=>bif own1 p.1 k cs then some p else none
   | .dead=>none
   | .ref ..=>none
   | .c1 ..=>none
   | .iref ..=>none
   | .fn ..=>none
   | .fv _=>none
def jq(ops:Array Oper)(o:Oper)(s:Nat):Bool:=
 ((List.range ops.size).any λk=>de o k&&(match(du ops k).dst with|some a=>Nat.beq a s|none=>false))&&Nat.ble (ops.toList.filter λk=>(k.looksAt ops).any (Nat.beq s)).length 1
def q8(ds:List Nat)(o:Oper):Bool:=match o.dst with|some d=>ds.any (Nat.beq d)|none=>false
def twk:List Nat->List Nat
 | []=>[]
 | e::l=>bif Nat.ble 1000 e then(e - 1000)::twk l else []
def dec:List Nat->List (Nat × List Nat)
 | []=>[]
 | e::l=>bif Nat.ble 1000 e then dec l else(e,twk l)::dec l
def R6:Op->Bool
 | .move (.tmp _)=>true
 | .assign _=>true
 | .extract ..=>true
 | .build ..=>true
 | .buildSlice ..=>true
 | .store ..=>true
 | .load ..=>true
 | .fieldAddr ..=>true
 | .field ..=>true
 | .binOp ..=>true
 | .unOp ..=>true
 | .call c=>(qR c).isSome
 | .slice _ _ none (some _) none=>true
 | _=>false
def oT:Op->Bool
 | .call c=>(match c.callee with|.value (.func _)=>true|_=>false)
 | _=>false
def wW(l:List (Nat × List Nat))(i:Nat):Bool:=l.any λp=>Nat.beq p.1 i
def wh(ops:Array Oper)(j i:Nat):Bool:=(clo ops j (Ff (ons (du ops j)))).testBit i
def TZ(o:Oper):Bool:=match o.guard with|none=>true|some _=>false
def Uk(sch:List (Nat × List Nat))(i:Nat):Bool:=sch.any λp=>Nat.beq p.1 i&&!p.2.isEmpty
def TF(ops:Array Oper)(a b:Oper)(nm:Bool):Bool:=match b.dst with
 | none=>false
 | some c=>TZ a&&(R6 a.op || oT a.op)&&!(match a.dst with|some d=>Nat.beq d c|none=>false)&&!(a.looksAt ops).any (Nat.beq c)&&TZ b&&!(b.looksAt ops).any (Nat.beq c)&&(nm || match nS b.op with|none=>true|some p=>!jq ops b p.2)
def Bl(ops:Array Oper)(ds:List Nat)(nm:Nat->Bool)(i j:Nat):Bool:=
 bif q8 ds (du ops j) then(bif q8 ds (du ops i) then(de (du ops j) i || de (du ops i) j || (du ops i).apart ops (du ops j))&&(!ue ops i j || de (du ops j) i)&&!(match(du ops i).dst with|some d=>(match(du ops j).dst with|some e=>Nat.beq d e|none=>false)|none=>false) else true)
 else(bif q8 ds (du ops i) then(wh ops j i || wh ops i j || TF ops (du ops j) (du ops i) (nm i))&&(!ue ops i j || de (du ops j) i) else true)
def EF(ops:Array Oper)(ds:List Nat):List (Nat × List Nat)->Bool
 | []=>true
 | k::l=>Nat.blt k.1 ops.size&&!wW l k.1&&((du ops k.1).after.toList.all λe=>!Region.binds .any e || !(Nat.beq k.1 e.on || wW l e.on)) &&
  (q8 ds (du ops k.1) || ((l.all λj=>wh ops j.1 k.1)&&(below ops.size λp=>!q8 ds (du ops p) || wW l p || wh ops k.1 p || k.2.any (Nat.beq p))&&(!(l.any λj=>q8 ds (du ops j.1)) || (TZ (du ops k.1)&&(R6 (du ops k.1).op || oT (du ops k.1).op)))))&&EF ops ds l
def BI(ops:Array Oper)(ds:List Nat)(sch:List (Nat × List Nat)):Bool:=
 (below ops.size λj=>((du ops j).after.toList.all λe=>!Region.binds .any e || Nat.blt e.on j)&&wW sch j&&(!q8 ds (du ops j) || (match nS (du ops j).op with|none=>true|some p=>!jq ops (du ops j) p.2 || ds.any (Nat.beq p.2)))&&below ops.size λi=>Nat.beq i j || Bl ops ds (Uk sch) i j)&&Nat.beq sch.length ops.size&&EF ops ds sch
def ou(tb:List (Nat × Nat × List Nat))(id:Nat)(ops:Array Oper):Bool:=
 match xp tb id with
 | some (m,ds)=>bif Nat.ble 65536 m then true else bif Nat.ble 256 m then BI ops (ds.take (m - 256)) (dec (ds.drop (m - 256))) else(Nat.ble m ops.size&&below m λj=>match(du ops j).dst with|some d=>ds.any (Nat.beq d)|none=>true)&&D0 ops m
 | none=>false
def ly(P:Program)(TE:Nat->Option TI)(N:fm)(ops:Array Oper)(o:Oper)(K:(Nat->AV)->Prop)(F:Nat->AV):Prop:=
 match JT F o with
 | some p=>(match o.dst with|some d=>bif jq ops o p.2 then T7 TE N F d p.1 p.2 K else False|none=>False)
 | none=>gH P TE N ops o K F
def PJ(P:Program)(TE:Nat->Option TI)(N:fm)(ops:Array Oper):Nat->List Oper->((Nat->AV)->Prop)->(Nat->AV)->Prop
 | 0,l,K,F=>LR P TE N ops l K F
 | _+1,[],K,F=>K F
 | m+1,o::l,K,F=>ly P TE N ops o (PJ P TE N ops m l K) F
def Qn(ds:List Nat)(t:Nat):Bool:=ds.any (Nat.beq t)
def Uy(ds:List Nat):AV->AV
 | .ref t off st=>bif Qn ds t then .dead else .ref t off st
 | .c1 t off st ag=>bif Qn ds t then .dead else .c1 t off st ag
 | .fn f caps=>bif caps.any (Qn ds) then .dead else .fn f caps
 | .H k cs=>.H k cs
 | .iref r off=>.iref r off
 | .fv Ok=>.fv Ok
 | .dead=>.dead
def clr(ds:List Nat)(F:Nat->AV):Nat->AV:=λt=>Uy ds (F t)
theorem BE(ds:List Nat)(F:Nat->AV)(t:Nat):clr ds F t=bif ds.any (λd=>(F t).uses d) then .dead else F t:=by
 unfold clr;cases F t with
 | dead=>cases ds.any λd=>AV.uses d .dead<;>rfl
 | H k i=>
  have:ds.any (λd=>(AV.H k i).uses d)=false:=by
   rw[<-C6,I4]
   rintro⟨d,_,h⟩
   cases h
  rw[this];rfl
 | iref r a=>
  have:ds.any (λd=>(AV.iref r a).uses d)=false:=by
   rw[<-C6,I4]
   rintro⟨d,_,h⟩
   cases h
  rw[this];rfl
 | fv Ok=>
  have:ds.any (λd=>(AV.fv Ok).uses d)=false:=by
   rw[<-C6,I4]
   rintro⟨d,_,h⟩
   cases h
  rw[this];rfl
 | ref j a l=>rfl
 | c1 j a l n=>rfl
 | fn f caps=>
  have:ds.any (λd=>(AV.fn f caps).uses d)=caps.any (Qn ds):=by
   rw[C5,I4,I4];constructor
   ·rintro⟨d,b,h⟩
    simp only[AV.uses,I4]at h;obtain⟨c,e,g⟩:=h;exact⟨c,e,I4.2 ⟨d,b,g⟩⟩
   rintro⟨c,e,h⟩
   obtain⟨d,b,g⟩:=I4.1 h
   grind [AV.uses]
  rw[this];rfl
inductive Sm(a b:AV)(K:Prop):Prop
 |mk_ (h:a=b/\K)
def Sm.rf{a:AV}{K:Prop}(h:K):Sm a a K:=.mk_ ⟨rfl,h⟩
def CC:type_of% @Sm.rf:=@Sm.rf
def Sm.out{a b:AV}{K:Prop}(h:Sm a b K):a=b/\K:=h.1
def TH(P:Program)(TE:Nat->Option TI)(ops:Array Oper)(p:Nat)(K:Prop)(F:Nat->AV):Prop:=
 match(du ops p).dst with
 | none=>False
 | some d=>(match JT F (du ops p) with
   | some _=>False
   | none=>dm P TE F (du ops p).op λa=>Sm a (F d) K)
def NU(P:Program)(TE:Nat->Option TI)(ops:Array Oper):List Nat->Prop->(Nat->AV)->Prop
 | [],K,_=>K
 | p::l,K,F=>TH P TE ops p (NU P TE ops l K F) F
def Ns(P:Program)(TE:Nat->Option TI)(N:fm)(ops:Array Oper)(nm:Bool)(o:Oper)(K:(Nat->AV)->Prop)(F:Nat->AV):Prop:=
 match nm with
 | false=>ly P TE N ops o K F
 | true=>(match JT F o with
   | some _=>False
   | none=>gH P TE N ops o K F)
def Li(P:Program)(TE:Nat->Option TI)(N:fm)(ops:Array Oper)(ds:List Nat)(nm:Nat->Bool):List (Nat × List Nat)->((Nat->AV)->Prop)->(Nat->AV)->Prop
 | [],K,F=>K F
 | k::l,K,F=>bif q8 ds (du ops k.1) then Ns P TE N ops (nm k.1) (du ops k.1) (Li P TE N ops ds nm l K) F else iX P TE N ops (du ops k.1) (λa=>NU P TE ops k.2 (Li P TE N ops ds nm l K a) a) F
def Qo:List Nat->(List Nat->Prop)->Prop
 | [],K=>K []
 | a::l,K=>Qo l λb=>K (a::b)
def JN:∀(l:List Nat)(K:List Nat->Prop),Qo l K=K l
 | [],_=>rfl
 | a::l,K=>by rw[Qo,JN l]
def Dw(l:List Nat)(j:Nat):Bool:=l.any (Nat.beq j)
def MM(ops:Array Oper)(done:List Nat):List Nat:=(List.range ops.size).filter λj=>!Dw done j&&((du ops j).after.toList.all λe=>!Region.binds .any e || Dw done e.on)
def Ux(p:Nat->Prop):Nat->List Nat->Prop
 | i,[]=>p i
 | i,j::l=>p i/\Ux p j l
def Uw(l:List Nat)(K:Prop)(p:Nat->Prop):Prop:=match l with
 | []=>K
 | i::l=>Ux p i l
def Tj(P:Program)(TE:Nat->Option TI)(N:fm)(ops:Array Oper)(K:(Nat->AV)->Prop):Nat->List Nat->(Nat->AV)->Prop
 | 0,done,F=>Uw (MM ops done) (K F) λ_=>False
 | n+1,done,F=>Uw (MM ops done) (K F) λi=>iX P TE N ops (du ops i) (Tj P TE N ops K n (i::done)) F
def DD(P:Program)(TE:Nat->Option TI)(N:fm)(tb:List (Nat × Nat × List Nat))(id:Nat)(ops:Array Oper)(K:(Nat->AV)->Prop)(F:Nat->AV):Prop:=
 match xp tb id with
 | some (m,ds)=>bif Nat.ble 65536 m then Tj P TE N ops K ops.size [] F else bif Nat.ble 256 m then Qo (ds.take (m - 256)) λa=>Li P TE N ops a (Uk (dec (ds.drop (m - 256)))) (dec (ds.drop (m - 256))) K (clr a F) else PJ P TE N ops m ops.toList K (clr ds F)
 | none=>False
variable{i n:Nat}
theorem gF{p:Nat->Bool}(h:below n p=true)(a:i<n):p i=true:=O4.1 h i ψ
theorem cu{o:Oper} : de o i=true↔∃e,e∈o.after/\Region.binds .any e=true/\e.on=i:=by grind [W2,Nat.beq_refl,de]
theorem bz{ops:Array Oper}{o:Oper}(h:ops[i]? = some o):du ops i=o:=by simp[du,S7,h]
section
variable{P:Program}{w0 w w1:World}{M S0 S:am}{N:fm}{φ:Nat->am}{F:Nat->AV}{a:Act}{TE:Nat->Option TI}{ops:Array Oper}
variable{d:Nat}
theorem B1{b:Bool}(a:F d=.H .one [.v (.bool b)]):FY F d b=F:=by grind [W2,FY]
theorem i6(o:Oper)(t:Nat)(h:t∈dz o.op):t∈o.looksAt ops:=by grind [Go.Oper.looksAt,dz,tm]
structure Ut(P:Program)(TE:Nat->Option TI)(N:fm)(ops:Array Oper)(o:Oper)(F:Nat->AV)(d:Nat)(av:AV):Prop where
 dst:o.dst=some d
 lt:N.free d=true
 self:av.uses d=false
 from_:eC F (o.looksAt ops) av
 at_:∀F':Nat->AV,hB F F' (o.looksAt ops)->∀K':(Nat->AV)->Prop,K' (put F' d av)->gH P TE N ops o K' F'
def hB.refl(F:Nat->AV)(ts:List Nat):hB F F ts:=λ_ _=>⟨rfl,λ_ _ _ _ h=>h⟩
theorem Cc:type_of% @hB.refl:=@hB.refl
variable{K:(Nat->AV)->Prop}{o:Oper}
theorem wR(h:gH P TE N ops o K F):∃d av,Ut P TE N ops o F d av/\K (put F d av):=by
 cases e:o.dst with
 | none=>
  exfalso;unfold gH at h;rw[e]at h;unfold fN at h
  grind [Bf.out]
 | some d=>
  have put1:∀{a:Nat->AV}{av:AV}{c:(Nat->AV)->Prop},N.free d=true->av.uses d=false->c (put a d av)->bS N a d av c:=λA B E=>by grind [bS]
  have put2:∀{a:Nat->AV}{av:AV}{c:(Nat->AV)->Prop},bS N a d av c->N.free d=true/\av.uses d=false/\c (put a d av):=fun {a av c} n=>by grind [bS]
  have pure1:dm P TE F o.op (λav=>bS N F d av K)->∃av,N.free d=true/\av.uses d=false/\K (put F d av)/\eC F (o.looksAt ops) av/\∀a:Nat->AV,hB F a (o.looksAt ops)->∀c:(Nat->AV)->Prop,c (put a d av)->dm P TE a o.op (λav=>bS N a d av c):=λn=>by
   obtain⟨av,A,B,E⟩:=kq n
   grind [eC.mono,i6,hB.mono]
  unfold gH at h;rw[e]at h;unfold fN at h;cases r:o.guard with
  | none=>
   rw[r]at h;obtain⟨av,i,k,l,w,C⟩:=pure1 h;exact⟨d,av,⟨e,i,k,w,λa f c t=>by unfold gH fN;simp_all⟩,l⟩
  | some p=>
   obtain⟨j,want⟩:=p;rw[r]at h;simp only at h;cases y:(ops[j]?).bind (·.dst) with
   | none=>grind
   | some u=>
    rw[y]at h;simp only at h;have q:u∈o.looksAt ops:=by grind [Go.Oper.looksAt]
    split at h
    case h_3=>exact h.elim
    case h_2=>
     rename_i J L g;obtain⟨i,k,l⟩:=put2 h;refine⟨d,.H (.tup []) [],⟨e,i,k,(λd e=>by cases e),λa f c t=>?_⟩,l⟩;unfold gH fN;rw[r,e];simp only;rw[y];simp only;rw[(f u q).1.trans g];exact put1 i k t
    rename_i b g;have same:∀{a:Nat->AV},hB F a (o.looksAt ops)->a u=.H .one [.v (.bool b)]:=λf=>(f u q).1.trans g
    have back:∀{a:Nat->AV}{c:(Nat->AV)->Prop},hB F a (o.looksAt ops)->(b=want->dm P TE a o.op (λav=>bS N a d av c))->(b = !want->bS N a d (.H (.tup []) []) c)->gH P TE N ops o c a:=fun {a c} f A B=>by
     unfold gH fN;rw[r,e];simp only;rw[y];simp only;rw[same f];simp only;refine Bf.P (λG=>?_) (λG=>?_)
     all_goals grind [B1]
    have D:=B1 g;replace h:=Bf.out h;by_cases H:b=want
    ·have n:dm P TE F o.op (λav=>bS N F d av K):=ψ
     obtain⟨av,i,k,l,w,C⟩:=pure1 n;exact⟨d,av,⟨e,i,k,w,λa f c t=>back f (λ_=>C a f c t) ψ⟩,l⟩
    have n:bS N F d (.H (.tup []) []) K:=ψ
    obtain⟨i,k,l⟩:=put2 n;exact⟨d,.H (.tup []) [],⟨e,i,k,(λd e=>by cases e),ψ⟩,l⟩
def aft:AV->AV
 | .H k a=>.H k (splice a 0 (List.replicate a.length .x))
 | _=>.H .one [.x]
theorem MY(v:AV)(e:Nat):(aft v).uses e=false:=by unfold aft;split<;>rfl
def eff(a:Option Nat)(d:Nat)(av:AV)(F:Nat->AV):Nat->AV:=λt=>if t=d then av else if a=some t then aft (F t) else F t
theorem Ef(av:AV)(a:∀t,(F t).uses d=false):put F d av=eff none d av F:=by grind [pI,iL,Ax,eff]
variable{s:Nat}
theorem RJ{v:AV}(h:v.uses s=false):sK s v=v:=by
 cases v with
 | c1 t a b c=>grind [AV.uses,sK]
 | ref t a b=>simp only[AV.uses]at h;cases b<;>simp[sK,h]
 | _=>rfl
theorem MS{k:Kd}{cs:List C}(av:AV)(a:F s=.H k cs)(c:∀t,(F t).uses d=false)(e:∀t,(F t).uses s=false):put (updH F s k (splice cs 0 (List.replicate cs.length .x))) d av=eff (some s) d av F:=by
 funext t
 unfold eff;by_cases h:t=d
 ·grind [pI]
 rw[iL _ _ h,CB h];by_cases b:t=s
 ·subst b;rw[iH,CD rfl,a];rfl
 grind [Nat.beq_eq,RJ,Ax,updH]
theorem Jt{T:Nat}{k:Kd}{c:C}(o:k=.one\/k=.agg)(p:F s=.H k [c])(q:ed c=true)(h:gg TE N F d T 1 [(0,.tmp s)] K) :
  ∃av,N.free d=true/\(∀e,av.uses e=false)/\K (put (updH F s k [.x]) d av)/\∀(F':Nat->AV)(b:(Nat->AV)->Prop),F' s=.H k [c]->b (put (updH F' s k [.x]) d av)->gg TE N F' d T 1 [(0,.tmp s)] b:=by
 have key:∀F':Nat->AV,F' s=.H k [c]->∀b:(Nat->AV)->Prop,gg TE N F' d T 1 [(0,.tmp s)] b=H6 TE T λ_ a=>bif Nat.ble (1*a.size) 16777216 then(bif Nat.beq 1 a.size&&Nat.ble (0*a.size+a.size) (rep a.zero 1).length then bS N (updH F' s k [.x]) d (.H .one [.s .own (chunk a.size 1 (splice (rep a.zero 1) (0*a.size) [c]))]) b else False) else False:=by
  intro F' f b;unfold gg
  congr 1
  funext e a
  rcases o with rfl|rfl<;>simp only[dq,fillW,Uo,vJ,nq,f,i7,bj,q,cond_true,cond_false,gz,pN,List.length_singleton,List.replicate]
  all_goals rfl
 rw[key F p]at h;obtain⟨e,a,g,n⟩:=iv h;cases i:Nat.ble (1*a.size) 16777216 with
 | false=>grind
 | true=>
  cases j:(Nat.beq 1 a.size&&Nat.ble (0*a.size+a.size) (rep a.zero 1).length) with
  | false=>grind
  | true=>
   rw[i,j]at g;simp only[cond_true]at g;unfold bS at g;cases l:N.free d with
   | false=>grind
   | true=>
    rw[l]at g;refine⟨_,rfl,λ_=>rfl,g,λF' b f r=>?_⟩
    grind [bS]
variable{T:Option Nat}
theorem Tc{k:Kd}{cs:List C}(j:F s=.H k cs)(l:own1 T k cs=true)(h:T7 TE N F d T s K) :
  ∃av,N.free d=true/\(∀e,av.uses e=false)/\K (put (updH F s k (splice cs 0 (List.replicate cs.length .x))) d av)/\∀(F':Nat->AV)(a:(Nat->AV)->Prop),F' s=.H k cs->a (put (updH F' s k (splice cs 0 (List.replicate cs.length .x))) d av)->T7 TE N F' d T s a:=by
 cases T with
 | some T=>
  have f:(k=.one\/k=.agg)/\∃c,cs=[c]/\ed c=true:=by
   unfold own1 at l
   grind
  obtain⟨n,c,rfl,o⟩:=f;exact Jt n j o h
 | none=>
  have f:∃b,k=.tup b/\bj cs=false:=by
   unfold own1 at l
   grind
  obtain⟨b,rfl,p⟩:=f;have key:∀F':Nat->AV,F' s=.H (.tup b) cs->∀a,T7 TE N F' d none s a=bS N (updH F' s (.tup b) (splice cs 0 (List.replicate cs.length .x))) d (.H (.tup b) cs) a:=λF' g a=>by grind [T7,iV]
  rw[key F j]at h;unfold bS at h;cases i:N.free d with
  | false=>grind
  | true=>
   rw[i]at h;refine⟨_,rfl,λ_=>rfl,h,λF' a g q=>?_⟩
   grind [bS]
structure Yl(P:Program)(TE:Nat->Option TI)(N:fm)(ops:Array Oper)(o:Oper)(F:Nat->AV)(mv:Option Nat)(d:Nat)(av:AV):Prop where
 dst:o.dst=some d
 lt:N.free d=true
 self:av.uses d=false
 from_:eC F (o.looksAt ops) av
 mvl:∀s,mv=some s->o.guard=none/\(∃T,nS o.op=some (T,s))/\jq ops o s=true
 at_:∀F':Nat->AV,hB F F' (o.looksAt ops)->(∀t,(F' t).uses d=false)->(∀s,mv=some s->∀t,(F' t).uses s=false)->∀K':(Nat->AV)->Prop,K' (eff mv d av F')->ly P TE N ops o K' F'
theorem J7{o:Op}(h:nS o=some (T,s)):(∃a ps,T=some a/\o=.buildSlice a 1 ps/\ps.toList=[(0,.tmp s)])\/(T=none/\o=.move (.tmp s)):=by
 unfold nS at h
 grind
theorem db(h:nS o.op=some (T,s)):s∈o.looksAt ops:=by
 refine i6 o s ?_;unfold dz;refine List.mem_flatMap.2 ⟨.tmp s,?_,by simp[tm]⟩
 grind [J7,Go.Op.operands]
theorem EA{p:Option Nat × Nat}(h:JT F o=some p):o.guard=none/\nS o.op=some p/\∃k cs,F p.2=.H k cs/\own1 p.1 k cs=true:=by grind [JT]
theorem wy{F':Nat->AV}(a:hB F F' (o.looksAt ops)):JT F' o=JT F o:=by
 unfold JT;cases c:o.guard with
 | some _=>rfl
 | none=>
  cases b:nS o.op with
  | none=>rfl
  | some p=>simp only;rw[(a p.2 (db b)).1]
theorem tq(c:JT F o=none)(h:gH P TE N ops o K F)(e:∀d,o.dst=some d->∀t,(F t).uses d=false):∃d av,Yl P TE N ops o F none d av/\K (eff none d av F):=by
 obtain⟨d,av,a,f⟩:=wR h;refine⟨d,av,⟨a.dst,a.lt,a.self,a.from_,ψ,λg i j _ k b=>?_⟩,by grind [Ef,Ut.dst]⟩
 grind [wy,Ut.at_,Ef,ly]
theorem qg(h:ly P TE N ops o K F)(E:∀d,o.dst=some d->∀t,(F t).uses d=false)(y:∀T s,o.guard=none->nS o.op=some (T,s)->jq ops o s=true->∀t,(F t).uses s=false) :
  ∃r d av,Yl P TE N ops o F r d av/\K (eff r d av F):=by
 unfold ly at h;cases f:JT F o with
 | none=>
  grind [tq]
 | some p=>
  rw[f]at h;obtain⟨G,a,k,H,g,b⟩:=EA f;simp only at h;cases i:o.dst with
  | none=>grind
  | some d=>
   rw[i]at h;simp only at h;cases c:jq ops o p.2 with
   | false=>grind
   | true=>
    rw[c]at h;simp only[cond_true]at h;obtain⟨av,A,u,J,B⟩:=Tc g b h;refine⟨some p.2,d,av,⟨i,A,u d,λe w=>(by rw[u e]at w;cases w),λs y=>?_,λC j l n D q=>?_⟩,?_⟩
    ·grind
    ·unfold ly
     rw[wy j,f];simp only;rw[i];simp only;rw[c];refine B C D ((j p.2 (db a)).1.trans g) ?_;rw[MS av ((j p.2 (db a)).1.trans g) l (n p.2 rfl)];exact q
    grind [MS]
theorem LH{nm:Bool}(h:Ns P TE N ops nm o K F)(b:∀d,o.dst=some d->∀t,(F t).uses d=false)(c:∀T s,o.guard=none->nS o.op=some (T,s)->jq ops o s=true->∀t,(F t).uses s=false) :
  ∃a d av,Yl P TE N ops o F a d av/\K (eff a d av F)/\(nm=true->a=none):=by
 unfold Ns at h
 grind [qg,tq]
end
section
variable{P:Program}{w0 w w1:World}{M S0 S:am}{N:fm}{φ:Nat->am}{F:Nat->AV}{a:Act}{TE:Nat->Option TI}{ops:Array Oper}
def y2(P:Program)(TE:Nat->Option TI)(N:fm)(ops:Array Oper)(m i:Nat)(K:(Nat->AV)->Prop)(F:Nat->AV):Prop:=
 match ops[i]? with
 | none=>K F
 | some o=>if i<m then ly P TE N ops o K F else iX P TE N ops o K F
def Hd(P:Program)(TE:Nat->Option TI)(N:fm)(ops:Array Oper)(m:Nat)(K:(Nat->AV)->Prop):Nat->Array Bool->(Nat->AV)->Prop
 | 0,listed,F=>Region.ready .any ops listed=[]/\K F
 | fuel+1,listed,F=>(Region.ready .any ops listed=[]->K F)/\∀i,i∈Region.ready .any ops listed->y2 P TE N ops m i (Hd P TE N ops m K fuel (listed.setIfInBounds i true)) F
variable{Q:Exit->Act->World->Prop}{Kc:Act->World->Prop}{K:(Nat->AV)->Prop}{o:Oper}
theorem bg.oneP0(h:bg w0 M S0 N S φ F a w)(c:∀t i,TE t=some i->hO P t i)(b:gH P TE N ops o K F)(p:∀F' j e,K F'->St w0 M S0 N F' j e->Kc j e) :
  if Region.wanted o (yielded ops a.tmps) then o.wp P a w Kc Q else Kc (a.put o.dst undef) w:=by
 unfold gH at b;rcases xx h b with⟨f,b⟩|⟨f,b⟩
 ·rw[f,CD rfl]
  cases g:o.dst with
  | none=>grind
  | some d=>
   rw[g]at b;obtain⟨av,k,l⟩:=h.pure_ c b;refine l Kc Q λv e q=>?_
   grind [bg.putD_new]
 rw[f,CB (by simp)];cases g:o.dst with
 | none=>grind
 | some d=>
  rw[g]at b;obtain⟨F',k,n⟩:=h.putD_new (v:=undef) (lS.same (av:=.H (.tup []) []) M9) b
  grind
variable{d:Nat}
def Lc{p:Option Nat × Nat}(f:JT F o=some p)(c:o.dst=some d)(h:T7 TE N F d p.1 p.2 K):iX P TE N ops o K F:=by
 obtain⟨e,a,-⟩:=EA f;obtain⟨T,s⟩:=p;rcases J7 a with⟨i,j,rfl,b,g⟩|⟨rfl,b⟩
 ·unfold iX fN
  rw[e];simp only;rw[b];simp only[Bd];rw[c];simp only[kx,g];exact h
 unfold iX fN;rw[e];simp only;rw[b];simp only[Bd];rw[c];simp only[kx];exact h
theorem bg.oneP(h:bg w0 M S0 N S φ F a w)(c:∀t i,TE t=some i->hO P t i)(b:ly P TE N ops o K F)(g:∀F' j k,K F'->St w0 M S0 N F' j k->Kc j k) :
  if Region.wanted o (yielded ops a.tmps) then o.wp P a w Kc Q else Kc (a.put o.dst undef) w:=by
 unfold ly at b;cases e:JT F o with
 | none=>rw[e]at b;exact h.oneP0 c b g
 | some p=>
  rw[e]at b;simp only at b;cases l:o.dst with
  | none=>grind
  | some d=>
   rw[l]at b;simp only at b;cases f:jq ops o p.2 with
   | false=>grind
   | true=>
    rw[f]at b;have:=h.one c (Lc (P:=P) (ops:=ops) e l b) (Q:=Q) g
    grind
variable{m i:Nat}
theorem Ju(c:∀t i,TE t=some i->hO P t i)(b:y2 P TE N ops m i K F)(g:St w0 M S0 N F a w)(d:∀F' e f,K F'->St w0 M S0 N F' e f->Kc e f):wpOp P ops Q i Kc a w:=by
 unfold y2 at b;unfold wpOp;cases j:ops[i]? with
 | none=>grind
 | some o=>
  rw[j]at b;simp only at b |-;obtain⟨S,φ,h⟩:=g;have:if Region.wanted o (yielded ops a.tmps) then o.wp P a w Kc Q else Kc (a.put o.dst undef) w:=by
   split at b
   ·exact h.oneP c b d
   exact h.one c b d
  grind
def Bk(b:∀t i,TE t=some i->hO P t i){m:Nat}{K:(Nat->AV)->Prop}{Q:Exit->Act->World->Prop}(g:∀F' d e,K F'->St w0 M S0 N F' d e->Q .normal d e) :
  ∀(fuel:Nat)(listed:Array Bool)(F:Nat->AV)(a:Act)(w:World),Hd P TE N ops m K fuel listed F->St w0 M S0 N F a w->wpAny P .any ops Q fuel listed a w
 | 0,_,F,a,w,c,f=>⟨c.1,g F a w c.2 f⟩
 | fuel+1,_,F,a,w,c,f=>⟨λj=>g F a w (c.1 j) f,λi k=>Ju b (c.2 i k) f λF' d e l h=>Bk b g fuel _ F' d e l h⟩
structure A2(ops:Array Oper)(m:Nat)(F:Nat->AV)(listed:Array Bool):Prop where
 dst:∀j o d,j<m->ops[j]? = some o->listed.getD j true=false->o.dst=some d->∀t,(F t).uses d=false
 mv:∀j o T s,j<m->ops[j]? = some o->listed.getD j true=false->o.guard=none->nS o.op=some (T,s)->jq ops o s=true->∀t,(F t).uses s=false
def DC(ops:Array Oper)(listed:Array Bool):Prop:=∀j a,ops[j]? = some a->listed.getD j false=true->∀k,de a k=true->listed.getD k false=true
variable{e:Nat}
theorem QB{v:AV}(h:(kl d v).uses e=true):v.uses e=true/\v.uses d=false:=by
 rw[Ax]at h;cases a:v.uses d with
 | true=>rw[a]at h;cases h
 | false=>grind
theorem wN{α:Type}{p:α->Bool} : ∀{l:List α}{i j:Nat}{x y:α},(l.filter p).length<=1->l[i]? = some x->l[j]? = some y->p x=true->p y=true->i=j
 | [],_,_,_,_,_,h,_,_,_=>by simp at h
 | a::l,0,0,_,_,_,_,_,_,_=>rfl
 | a::l,i+1,j+1,x,y,h,b,c,d,e=>by
  rw[wN (l:=l) (I5 (List.Sublist.length_le ((List.sublist_cons_self a l).filter p)) h) b c d e]
 | a::l,0,j+1,x,y,h,b,c,d,e=>by
  simp only[List.getElem?_cons_zero,C1]at b;subst b;rw[List.filter_cons_of_pos d]at h;have:y∈l.filter p:=Z4.2 ⟨O2 c,e⟩;have:=List.length_pos_of_mem this;rw[List.length_cons]at h;omega
 | a::l,i+1,0,x,y,h,b,c,d,e=>by
  simp only[List.getElem?_cons_zero,C1]at c;subst c;rw[List.filter_cons_of_pos e]at h;have:x∈l.filter p:=Z4.2 ⟨O2 b,d⟩;have:=List.length_pos_of_mem this;rw[List.length_cons]at h;omega
variable{j:Nat}{listed:Array Bool}
theorem iI{a:Nat}(b:(listed.setIfInBounds j true).getD a true=false):a≠j:=λe=>by simp_all
variable{av:AV}{t:Nat}
theorem ko{a:Option Nat}(b:av.uses e=false)(c:(F t).uses e=false):(eff a d av F t).uses e=false:=by grind [MY,eff]
theorem A2.put{o:Option Nat}(h:A2 ops m F listed)(p:∀a b g,a<m->a≠j->ops[a]? = some b->listed.getD a true=false->b.dst=some g->av.uses g=false)(q:∀a b T s,a<m->a≠j->ops[a]? = some b->listed.getD a true=false->b.guard=none->nS b.op=some (T,s)->jq ops b s=true->av.uses s=false) :
  A2 ops m (eff o d av F) (listed.setIfInBounds j true):=by
 refine⟨λa b g i c e k t=>?_,λa b T s i c e r l n t=>?_⟩
 ·have f:=iI e
  rw[getD_set_ne true (Ne.symm f)]at e;exact ko ψ (h.dst a b g i c e k t)
 have f:=iI e;rw[getD_set_ne true (Ne.symm f)]at e;exact ko ψ (h.mv a b T s i c e r l n t)
inductive oK(ops:Array Oper):Nat->Nat->Prop
 |one {j i:Nat} (h:de (du ops j) i=true):oK ops j i
 |step {j k i:Nat} (h:de (du ops j) k=true) (h2:oK ops k i):oK ops j i
def oK.trans{k:Nat}(h:oK ops j k)(a:oK ops k i):oK ops j i:=by
 induction h with
 | one h=>exact .step h a
 | step h _ b=>exact .step h (b a)
theorem Fb{i:Nat} : ∀{a:List Nat},(Ff a).testBit i=true->i∈a
 | [],h=>by simp[Ff]at h
 | k::a,h=>by
  rw[Ff,Nat.testBit_or,C7]at h;rcases h with h|h
  ·grind
  exact Z5 _ (Fb h)
theorem yA(h:(Ff (ons o)).testBit i=true):de o i=true:=by
 have:=Fb h
 grind [cu,ons]
def sP{j:Nat} : ∀(k S:Nat),(∀i,S.testBit i=true->oK ops j i)->∀i,(clo ops k S).testBit i=true->oK ops j i
 | 0,_,h,i,a=>h i a
 | k+1,S,h,i,a=>by
  rw[clo,P8]at a;cases c:S.testBit k with
  | false=>rw[c]at a;exact sP k S h i a
  | true=>
   rw[c]at a;refine sP k _ (λe b=>?_) i a;rw[Nat.testBit_or,C7]at b;rcases b with d|d
   ·exact h e d
   exact(h k c).trans (.one (yA d))
theorem n8(d:DC ops listed)(b:∀j n,ops[j]? = some n->∀e∈n.after,Region.binds .any e=true->e.on<j)(o:oK ops j i):j<ops.size->(∀k,de (du ops j) k=true->listed.getD k false=true)->listed.getD i false=true:=by
 induction o with
 | one h=>grind
 | @step j k i h h2 ih=>
  intro f p;have r:k<j:=by
   have c:=(show ops[j]? = some ops[j] from I7 f)
   rw[bz c]at h;obtain⟨e,g,l,rfl⟩:=cu.1 h;exact b j _ c e g l
  have a:k<ops.size:=ω
  have c:=(show ops[k]? = some ops[k] from I7 a)
  exact ih a λq a=>d k _ c (p k h) q (by rw[bz c]at a;exact a)
theorem DC.put(h:DC ops listed)(d:j∈Region.ready .any ops listed):DC ops (listed.setIfInBounds j true):=by
 obtain⟨l,n,f,b⟩:=mem_ready.1 d;intro k ok g c e i;by_cases a:k=j
 ·grind [cu,Go.getD_set_true]
 rw[getD_set_ne false (Ne.symm a)]at c;exact getD_set_true (h k ok g c e i)
theorem gj{s:Nat}(h:jq ops o s=true):(∃k ok,de o k=true/\ops[k]? = some ok/\ok.dst=some s)/\∀(i j:Nat)(a b:Oper),ops[i]? = some a->ops[j]? = some b->s∈a.looksAt ops->s∈b.looksAt ops->i=j:=by
 unfold jq at h;rw[I0]at h;obtain⟨q,c⟩:=h;constructor
 ·grind [bz,W2]
 intro i j a b d e f g;have l:=O1 c;have n:ops.toList[i]? = some a:=by simpa using d
 have p:ops.toList[j]? = some b:=by simpa using e
 grind [Nat.beq_refl,wN]
structure RR(ops:Array Oper)(m:Nat):Prop where
 back:∀j oj,ops[j]? = some oj->∀e∈oj.after,Region.binds .any e=true->e.on<j
 tail:∀j,m<=j->j<ops.size->∀i,i<j->oK ops j i
 apart:∀i j oi oj,i<m->j<m->i≠j->ops[i]? = some oi->ops[j]? = some oj->de oj i=true\/de oi j=true\/oi.apart ops oj=true
 look:∀i j oi oj d,i<m->j<m->i≠j->ops[i]? = some oi->ops[j]? = some oj->oi.dst=some d->d∈oj.looksAt ops->de oj i=true
theorem G0(h:D0 ops m=true):RR ops m:=by
 have o:∀j b,ops[j]? = some b->_:=λj b a=>gF h (t4.1 a).1
 refine⟨λj b a e t p=>?_,λj u a i f=>?_,λi j q b f a g r k=>?_,λi j q b d f a g r k w y=>?_⟩
 ·grind [bz,Nat.blt_eq]
 ·have l:=(show ops[j]? = some ops[j] from I7 a)
  have:=o j _ l;simp only[I0]at this;have c:=this.2;rw[show Nat.blt j m=false by rw[<-C6,Nat.blt_eq];omega]at c;simp only[cond_false,P8]at c;exact sP j _ (λA n=>.one (yA n)) i (gF c f)
 ·grind [bz,Nat.blt_eq,gF,Nat.beq_eq]
 have:=o j b k;rw[bz k]at this;simp only[I0]at this;have c:=this.2;rw[show Nat.blt j m=true by simpa[Nat.blt_eq] using a]at c
 grind [gF,bz,Nat.beq_eq,ue]
theorem KW(V:RR ops m){c:Oper}{u:Option Nat}(R:ops[i]? = some c)(w:i<m) :
  ∀(fuel:Nat)(listed:Array Bool)(F:Nat->AV),i∈Region.ready .any ops listed->A2 ops m F listed->DC ops listed->Yl P TE N ops c F u d av->Hd P TE N ops m K fuel (listed.setIfInBounds i true) (eff u d av F)->Hd P TE N ops m K (fuel+1) listed F:=by
 have self:∀(listed:Array Bool)(F:Nat->AV),i∈Region.ready .any ops listed->A2 ops m F listed->Yl P TE N ops c F u d av->∀S:(Nat->AV)->Prop,S (eff u d av F)->ly P TE N ops c S F:=λlisted F W a g S hK=>by
  have b:=(mem_ready.1 W).1;refine g.at_ F (Cc _ _) (a.dst i c d w R b g.dst) (λs X=>?_) S hK;obtain⟨A,⟨T,h2⟩,h3⟩:=g.mvl s X;exact a.mv i c T s w R b A h2 h3
 intro fuel
 induction fuel with
 | zero=>
  intro listed F W a E g H;refine⟨ψ,λj Y=>?_⟩;by_cases n:j=i
  ·grind [y2]
  have:=ready_mono Y n;rw[H.1]at this;cases this
 | succ fuel ih=>
  intro listed F W a E g H;refine⟨ψ,λj Y=>?_⟩;by_cases n:j=i
  ·grind [y2]
  have A:=H.2 j (ready_mono Y n);obtain⟨B,f,o,hall⟩:=mem_ready.1 Y;have b:=(mem_ready.1 W).1;have unl:∀k,listed.getD k true=false->listed.getD k false=true->False:=ψ
  have noedge:∀k ok,ops[k]? = some ok->listed.getD k true=false->de f k=false:=λk ok hk Z=>by grind [cu]
  have noedge':∀k ok,ops[k]? = some ok->listed.getD k true=false->de c k=false:=λk ok hk Z=>by grind [cu,Go.mem_ready]
  have G:j<m:=by
   rcases Nat.lt_or_ge j m with h|h
   ·exact h
   have C:=(t4.1 o).1;refine(unl i b (n8 E V.back (V.tail j h C i ω) C λk hk=>?_)).elim
   grind [bz,cu]
  have hap:c.apart ops f=true:=by grind [RR.apart]
  obtain⟨ap1,ap2,ap3⟩:=Oper.apart_spec hap;unfold y2 at A |-;rw[o]at A |-;simp only[CD G]at A |-;have hdl:d∉f.looksAt ops:=ap1 d g.dst;have cd:∀t,(F t).uses d=false:=a.dst i c d w R b g.dst
  have cdj':∀l,f.dst=some l->∀t,(F t).uses l=false:=λl J=>a.dst j f l G o B J
  have cmv:∀s,u=some s->(∀t,(F t).uses s=false)/\s∉f.looksAt ops/\s∈c.looksAt ops:=λs X=>by
   obtain⟨L,⟨T,q⟩,r⟩:=g.mvl s X;exact⟨a.mv i c T s w R b L q r,λhl=>n ((gj r).2 i j c f R o (db q) hl).symm,db q⟩
  have cmvj:∀T s,f.guard=none->nS f.op=some (T,s)->jq ops f s=true->(∀t,(F t).uses s=false)/\s∉c.looksAt ops/\s∈f.looksAt ops:=λT s L q r=>
   ⟨a.mv j f T s G o B L q r,λhl=>n ((gj r).2 i j c f R o hl (db q)).symm,db q⟩
  have avno:∀e,e∉c.looksAt ops->(∀t,(F t).uses e=false)->av.uses e=false:=λe A h2=>by
   cases hu:av.uses e with
   | false=>rfl
   | true=>
    rcases g.from_ e hu with h|⟨t,_,h⟩
    all_goals grind
  obtain⟨mvj,l,avj,p,hKj⟩:=qg A (λl J t=>ko ψ (cdj' l J t)) (λT s L q r t=>by grind [ko]);have hdne:d≠l:=λe=>ap2 d g.dst (by rw[p.dst,e])
  have hdjl:l∉c.looksAt ops:=ap3 l p.dst;have cdj:∀t,(F t).uses l=false:=cdj' l p.dst
  have cmj:∀s,mvj=some s->(∀t,(F t).uses s=false)/\s∉c.looksAt ops/\s∈f.looksAt ops:=λs X=>by
   obtain⟨L,⟨T,q⟩,r⟩:=p.mvl s X
   grind
  have lookj:∀t,t∈f.looksAt ops->eff u d av F t=F t:=λt U=>by grind [eff]
  have looki:∀t,t∈c.looksAt ops->eff mvj l avj F t=F t:=λt U=>by grind [eff]
  have avjno:∀e,e∉f.looksAt ops->(∀t,(F t).uses e=false)->avj.uses e=false:=λe A h2=>by
   cases hu:avj.uses e with
   | false=>rfl
   | true=>
    rcases p.from_ e hu with h|⟨t,U,h⟩
    all_goals grind
  have agrj:hB (eff u d av F) F (f.looksAt ops):=λt U=>by grind [eff]
  refine p.at_ F agrj cdj ψ _ (ih (listed.setIfInBounds j true) (eff mvj l avj F) (ready_mono W (Ne.symm n)) (a.put (λj' o' d' M D y O Q=>?_) (λj' o' T s M D y O L q r=>?_)) (E.put Y) ?_ ?_)
  ·refine avjno d' (λh=>?_) (a.dst j' o' d' M y O Q)
   grind [RR.look]
  ·exact avjno s (λh=>D ((gj r).2 j' j o' f y o (db q) h)) (a.mv j' o' T s M y O L q r)
  ·refine⟨g.dst,g.lt,g.self,λe he=>?_,g.mvl,λF' hA Q hs' S hK=>g.at_ F' (λt U=>?_) Q hs' S hK⟩
   ·rcases g.from_ e he with h|⟨t,U,h⟩
    all_goals grind
   obtain⟨a1,a2⟩:=hA t U
   grind [eff]
  rw[Array.setIfInBounds_comm _ _ n];have:eff u d av (eff mvj l avj F)=eff mvj l avj (eff u d av F):=by grind [eff]
  grind
theorem j7{o:Op}{K a:AV->Prop}(h:dm P TE F o K)(b:∀av,K av->a av):dm P TE F o a:=by
 obtain⟨av,c,-,d⟩:=kq h
 grind [Cc]
theorem bu{a:(Nat->AV)->Prop}(h:bS N F d av K)(b:∀F',K F'->a F'):bS N F d av a:=by grind [bS]
variable{y:Operand}
theorem fj{K b:(Nat->AV)->Option Nat->List C->Prop}(h:gz F y K)(g:∀F' ag cs,K F' ag cs->b F' ag cs):gz F y b:=by
 cases y with
 | tmp t=>
  simp only[gz]at h |-;cases d:F t with
  | H k cs=>
   grind
  | c1 e f c ag=>
   rw[d]at h;cases c with
   | cons s c=>
    simp only at h |-;cases a:F e with
    | H k cs=>
     rw[a]at h;obtain⟨r,j,i,l,n,o⟩:=Lq.out h;exact .mk_ ψ
    | _=>grind
   | nil=>
    grind
  | _=>grind
 | _=>exact h.elim
variable{x:Operand}
theorem Be{K a:AV->Prop}(h:bA F x K)(b:∀av,K av->a av):bA F x a:=by
 obtain⟨av,c,-,d⟩:=jT h
 grind [Cc]
theorem E6{a:(Nat->AV)->Prop}(h:kI N F d x K)(j:∀F',K F'->a F'):kI N F d x a:=by
 have i:∀y,bA F y (λb=>bS N F d b K)->bA F y (λb=>bS N F d b a):=λy h=>Be h λb h=>bu h j
 have k:∀y,gz F y (λF' c e=>bS N F' d (.H (lQ c) e) K)->gz F y (λF' c e=>bS N F' d (.H (lQ c) e) a):=λy h=>fj h λF' c e h=>bu h j
 cases x with
 | tmp t=>
  grind [kI]
 | const v=>exact i (.const v) h
 | global g=>exact i (.global g) h
 | func f=>exact i (.func f) h
theorem NP{a:(Nat->AV)->Prop}(h:DT N F d x K)(b:∀F',K F'->a F'):DT N F d x a:=by grind [bu,E6,DT,J9]
variable{b:(Nat->AV)->Prop}
theorem AB{cs:List C}(h:qI F x cs K)(d:∀F',K F'->b F'):qI F x cs b:=by
 cases x with
 | tmp t=>
  simp only[qI]at h |-;cases e:F t with
  | H k f=>
   grind [dq]
  | ref g i c=>
   rw[e]at h;cases c with
   | cons s c=>
    simp only at h |-;cases a:F g with
    | H k f=>
     rw[a]at h;obtain⟨r,j,l,n,o,p⟩:=Pu.out h;exact Pu.mk l n o rfl (d _ p)
    | _=>grind
   | nil=>
    grind [dq]
  | _=>grind
 | _=>exact h.elim
variable{T:Nat}
theorem xU{a:(Nat->AV)->Prop}(h:mD TE F T x y K)(b:∀F',K F'->a F'):mD TE F T x y a:=by
 unfold mD at h |-;split at h
 all_goals grind [cx,Cc,AB,fj]
theorem Hp{g:Option (Nat × Bool)}{a K1' K0':(Nat->AV)->Prop}(h:fN F ops g a b)(h1:∀F,a F->K1' F)(c:∀F,b F->K0' F):fN F ops g K1' K0':=by
 unfold fN at h |-;split at h
 ·exact h1 _ h
 rename_i j want;split at h
 all_goals grind [Bf.out,Bf.in_]
theorem u7{K a:(Nat->AV)->Option Nat->List C->Prop}(h:vJ F x K)(c:∀F' ag cs,K F' ag cs->a F' ag cs):vJ F x a:=by
 obtain⟨ag,cs,d,b⟩:=cx h;refine b F (Cc _ _) _ ?_
 grind [fj]
theorem jC{c:Nat->Option (Nat × Nat)} : ∀{parts:List (Nat × Operand)}{cs:List C}{K a:(Nat->AV)->List C->Prop}{F:Nat->AV},fillW c parts cs K F->(∀F' cs,K F' cs->a F' cs)->fillW c parts cs a F
 | [],cs,K,a,F,h,b=>b _ _ h
 | p::rest,cs,K,a,F,h,b=>by
  simp only[fillW]at h |-;split at h
  case h_2=>exact h.elim
  rename_i q e;refine u7 h λF' f xs h=>?_
  cases d:(Nat.beq xs.length q.2&&Nat.ble (q.1+q.2) cs.length) with
  | false=>grind
  | true=>
   rw[d]at h;simp only[cond_true,dq]at h |-;exact jC h b
variable{parts:List (Nat × Operand)}
theorem Gm{a:(Nat->AV)->Prop}(h:kJ TE N F d T parts K)(b:∀F',K F'->a F'):kJ TE N F d T parts a:=by grind [jC,bu,kJ]
theorem Ex{n:Nat}{a:(Nat->AV)->Prop}(h:gg TE N F d T n parts K)(c:∀F',K F'->a F'):gg TE N F d T n parts a:=by
 obtain⟨e,f,h,b⟩:=iv h;refine b _ ?_
 grind [bu,dq,jC,pN]
theorem G8{K a:Bool->(Nat->AV)->List (List C)->Prop}(h:Ew F y K)(c:∀b F' xr,K b F' xr->a b F' xr):Ew F y a:=by
 unfold Ew at h |-;split at h
 all_goals grind [fj,cx,Cc]
theorem B4{K a:(Nat->AV)->List (List C)->Prop}(h:B0 F x K)(c:∀F' xr,K F' xr->a F' xr):B0 F x a:=by
 obtain⟨d,e,f,b⟩:=cx h;refine b F (Cc _ _) _ ?_
 grind [fj]
theorem Me{a:(Nat->AV)->Prop}(h:AU TE N F d T x y K)(f:∀F',K F'->a F'):AU TE N F d T x y a:=by
 obtain⟨e,p,h,g⟩:=iv h;refine g _ (G8 h λb F' q h=>B4 h λF'' c h=>?_);obtain⟨i,j,k,l,n,o⟩:=h.out;exact CV i j k l n rfl (bu o f)
theorem Fd{a:(Nat->AV)->Prop}(h:qu TE N F d T x K)(b:∀F',K F'->a F'):qu TE N F d T x a:=by
 unfold qu at h |-;split at h
 all_goals grind [fj,bu]
theorem H1(h:iV N F d x K)(c:∀F',K F'->b F'):iV N F d x b:=by
 have std:∀{y:Operand},bA F y (λa=>bS N F d a K)->bA F y (λa=>bS N F d a b):=λh=>Be h λa h=>bu h c
 cases x with
 | tmp t=>
  simp only[iV]at h |-
  grind [bu]
 | const v=>grind [iV]
 | global g=>grind [iV]
 | func f=>grind [iV]
theorem Jq{a:(Nat->AV)->Prop}(h:uL N F d x K)(b:∀F',K F'->a F'):uL N F d x a:=by
 unfold uL at h |-;split at h
 case h_2=>exact h.elim
 split at h
 all_goals grind [Nt.out,Nt.mk,bu]
theorem F8{a:(Nat->AV)->Prop}(h:qw N F d x K)(b:∀F',K F'->a F'):qw N F d x a:=by
 unfold qw at h |-
 grind [bu]
variable{c:(Nat->AV)->Prop}
theorem Nf{b:Operand}(h:E4 TE N F d T x b K)(f:∀F',K F'->c F'):E4 TE N F d T x b c:=by
 unfold E4 at h |-;obtain⟨e,q,h,a⟩:=iv h;refine a _ ?_;obtain⟨n,g,i⟩:=nN h;refine i F (Cc _ _) _ (fj g λF' r t h=>?_);split at h
 case h_2=>exact h.elim
 obtain⟨m,y,j,k,l,o,p,h⟩:=h.out;exact .mk_ ⟨m,y,j,k,l,o,p,_,rfl,bu h f⟩
theorem FO{b:Op}{e:(Nat->AV)->Prop}(h:kx P TE N d b K F)(a:∀F',K F'->e F'):kx P TE N d b e F:=by
 cases b with
 | assign x=>exact NP h a
 | box T x=>grind [u7,bu,kx,N4]
 | build T g=>exact Gm h a
 | buildSlice T n g=>exact Ex h a
 | range T x=>exact Fd h a
 | move x=>exact H1 h a
 | next x str=>
  cases str with
  | true=>exact h.elim
  | false=>exact Jq h a
 | entry x=>exact F8 h a
 | call c=>
  grind [j7,bu,Me,kx]
 | slice T x i f j=>
  cases i with
  | some _=>grind [j7,bu,kx]
  | none=>
   cases f with
   | none=>grind [j7,bu,kx]
   | some f=>
    cases j with
    | some _=>grind [j7,bu,kx]
    | none=>
     grind [j7,bu,Nf,kx]
 | _=>grind [j7,bu,kx]
theorem fp{off n:Nat}{st:cG}{K a:(Nat->AV)->List C->Prop}(h:lendAt F t off st n K)(b:∀F' cs,K F' cs->a F' cs):lendAt F t off st n a:=by
 unfold lendAt at h |-;split at h
 case h_2=>exact h.elim
 split at h
 ·grind [dq]
 obtain⟨r,j,c,d,e,f⟩:=Lq.out h;refine .mk_ ?_
 grind
theorem cw:∀{xs:List (Operand × Nat)}{K a:(Nat->AV)->List (MA × rx)->Prop}{F:Nat->AV},lendP xs K F->(∀F' l,K F' l->a F' l)->lendP xs a F
 | [],K,a,F,h,b=>b _ _ h
 | (x,0)::xs,K,a,F,h,b=>cw (xs:=xs) h ψ
 | (x,1)::xs,K,a,F,h,b=>by
  simp only[lendP]at h |-;split at h
  case h_2=>exact h.elim
  split at h
  ·exact fp h λF' c h=>cw h ψ
  ·exact fp h λF' c h=>cw h ψ
  ·exact fp h λF' c h=>cw h ψ
  exact h.elim
 | (x,n+2)::xs,K,a,F,h,b=>by
  simp only[lendP]at h |-;split at h
  case h_2=>exact h.elim
  split at h
  ·split at h
   ·exact cw h ψ
   exact h.elim
  ·exact cw h ψ
  exact h.elim
theorem jy:∀{l:List (MA × rx)}{xs:List Operand}{K a:Bool->List MA->Prop},valsP F l xs K->(∀b A,K b A->a b A)->valsP F l xs a
 | [],[],K,a,h,c=>c _ _ h
 | (m,.no)::l,x::xs,K,a,h,c=>by
  obtain⟨f,g,d,e⟩:=cx h;refine e F (Cc _ _) _ (jy d λb A h=>?_)
  grind
 | (m,.at_ t off st)::l,x::xs,K,a,h,c=>jy (l:=l) (xs:=xs) h ψ
 | (m,.box t)::l,x::xs,K,a,h,c=>jy (l:=l) (xs:=xs) h ψ
 | [],_::_,K,a,h,c=>h.elim
 | (m,.no)::l,[],K,a,h,c=>h.elim
 | (m,.at_ t off st)::l,[],K,a,h,c=>h.elim
 | (m,.box t)::l,[],K,a,h,c=>h.elim
theorem dt{K b:(Nat->AV)->Prop}(a:∀F',K F'->b F'):∀{l:List (MA × rx)}{B:List MA}{F:Nat->AV},gZ l B K F->gZ l B b F
 | [],[],F,h=>a _ h
 | [],_::_,F,h=>h.elim
 | (m,.no)::l,[],F,h=>h.elim
 | (m,.at_ t off st)::l,[],F,h=>h.elim
 | (m,.box t)::l,[],F,h=>h.elim
 | (m,.no)::l,.val _ _::B,F,h=>dt a (l:=l) (B:=B) h
 | (m,.no)::l,.mut _ _::B,F,h=>dt a (l:=l) (B:=B) h
 | (m,.no)::l,.ptr _::B,F,h=>dt a (l:=l) (B:=B) h
 | (m,.at_ t off st)::l,.val _ _::B,F,h=>h.elim
 | (m,.at_ t off st)::l,.ptr _::B,F,h=>h.elim
 | (m,.box t)::l,.val _ _::B,F,h=>h.elim
 | (m,.box t)::l,.mut _ _::B,F,h=>h.elim
 | (m,.at_ t off st)::l,.mut ag out::B,F,h=>by
  simp only[gZ]at h |-;split at h
  case h_2=>exact h.elim
  split at h
  ·rename_i k c _ _
   cases d:Nat.ble (off+out.length) c.length with
   | false=>grind
   | true=>
    rw[d]at h;simp only[cond_true,dq]at h |-;exact dt a h
  obtain⟨r,j,e,f,g,i⟩:=Pu.out h;exact Pu.mk e f g rfl (dt a i)
 | (m,.box t)::l,.ptr out::B,F,h=>by
  simp only[gZ]at h |-;split at h
  ·exact dt a h
  exact h.elim
variable{modes:List Nat}{args:List Operand}{f:Nat}
theorem Jk{d:Option Nat}{a:(Nat->AV)->Prop}(h:lz P N F d f args modes K)(j:∀F',K F'->a F'):lz P N F d f args modes a:=by
 unfold lz at h |-;refine cw h λF' l h=>?_
 cases c:(vE l&&Nat.beq args.length modes.length) with
 | false=>grind
 | true=>
  rw[c]at h;refine jy h λb A h=>?_
  obtain⟨n,B,k,rcs,e,g,i⟩:=ch.out h;refine CL e g (dt (λF'' h=>?_) i)
  grind [bu]
theorem lg{F:Nat->AV}{K a:Nat->Nat->Prop}(h:zp F x K)(b:∀t o,K t o->a t o):zp F x a:=by grind [sM,zp]
theorem LY{d:Option Nat}{cs:List C}{c a b:Nat}{f:(Nat->AV)->Prop}{k:Kd}{rcs:List C}{B:List MA}(h:wJ N F d t cs c a e b K k rcs B)(l:∀F',K F'->f F'):wJ N F d t cs c a e b f k rcs B:=by
 unfold wJ at h |-;split at h
 case h_2=>exact h.elim
 rename_i g i;cases j:(Nat.beq g.length a&&Nat.beq i.length b) with
 | false=>grind
 | true=>
  rw[j]at h;simp only[cond_true,dq]at h |-
  grind [bu]
theorem GY{d:Option Nat}{a b:Nat}(h:k6 P N F d f args a b K)(e:∀F',K F'->c F'):k6 P N F d f args a b c:=by
 unfold k6 at h |-;split at h
 case h_2=>exact h.elim
 refine lg h λt g h=>lg h λi j h=>?_
 split at h
 all_goals grind [dq,ch.out,CL,LY]
theorem rX{d:Option Nat}{a:(Nat->AV)->Prop}(h:ky P N F d f args modes K)(b:∀F',K F'->a F'):ky P N F d f args modes a:=by grind [GY,Jk,ky]
theorem Gd{off:Nat}{z:Int}{v:Value}{a:(Nat->AV)->Prop}(h:putMap F t off z v K)(f:∀F',K F'->a F'):putMap F t off z v a:=by
 unfold putMap at h |-;cases b:F t with
 | H k d=>
  rw[b]at h;simp only at h |-;cases e:d[off]? with
  | none=>grind
  | some c=>
   rw[e]at h;cases c with
   | m g=>
    simp only at h |-;have:=h.out;refine Mu.mk rfl ?_
    grind [dq]
   | _=>exact h.elim
 | _=>grind
theorem vg{v:Operand}(h:ns TE F T x y v K)(f:∀F',K F'->b F'):ns TE F T x y v b:=by
 unfold ns at h |-;split at h
 case h_2=>exact h.elim
 obtain⟨z,c,d⟩:=je h;refine d F (Cc F _) _ ?_;obtain⟨g,a,e⟩:=je c;refine e F (Cc F _) _ ?_;split at a
 case h_2=>exact a.elim
 split at a
 all_goals grind [Gd]
theorem jY{a:(Nat->AV)->Prop}(h:iX P TE N ops o K F)(c:∀F',K F'->a F'):iX P TE N ops o a F:=by
 unfold iX at h |-;refine Hp h (λF h=>?_) (λF h=>?_)
 ·split at h
  ·rename_i p _
   have lt:tp P N F o.dst p.1 p.2.1 p.2.2 K->tp P N F o.dst p.1 p.2.1 p.2.2 a:=λh=>rX h λF' h=>by grind [n7]
   cases b:Np N o.op with
   | false=>grind
   | true=>
    rw[b]at h;rcases h with h|h
    ·refine .pl ?_
     grind [xU,vg,FO,kr]
    exact .lt (lt h)
  grind [xU,vg,FO]
 grind [bu]
theorem DY{m:Nat}(a:RR ops m){K:(Nat->AV)->Prop}(hm:m<=ops.size):∀(l:List Oper)(k:Nat)(listed:Array Bool)(F:Nat->AV),(∀j,l[j]? = ops[k+j]?)->listed.size=ops.size->(∀j,j<ops.size->listed.getD j true=decide (j<k))->A2 ops m F listed->DC ops listed->
  PJ P TE N ops (m - k) l K F->Hd P TE N ops m K l.length listed F
 | [],k,listed,F,C,L,b,_,_,i=>by
  have D:ops.size<=k:=by
   rcases Nat.lt_or_ge k ops.size with h|h
   ·have:=C 0;simp[h]at this
   exact h
  refine⟨?_,?_⟩
  ·apply List.eq_nil_iff_forall_not_mem.2
   grind [Go.mem_ready]
  cases M:m - k with
  | zero=>rw[M]at i;exact i
  | succ x=>omega
 | o::l,k,listed,F,C,L,b,c,n,i=>by
  have w:ops[k]? = some o:=by simpa using (C 0).symm
  have D:=(t4.1 w).1;have hready:k∈Region.ready .any ops listed:=mem_ready.2 ⟨by rw[b k D];simp,o,w,λe he hb=>by grind [RR.back]⟩;have A:∀j,l[j]? = ops[k+1+j]?:=λj=>by have:=C (j+1);grind
  have r:∀j,j<ops.size->(listed.setIfInBounds k true).getD j true=decide (j<k+1):=λj O=>by
   by_cases y:j=k
   ·simp_all
   rw[getD_set_ne true (Ne.symm y),b j O]
   grind
  show Hd P TE N ops m K (l.length+1) listed F;by_cases f:k<m
  ·have e1:m - k=(m - (k+1))+1:=ω
   rw[e1]at i;obtain⟨mv,d,av,Q,i⟩:=qg (show ly P TE N ops o (PJ P TE N ops (m - (k+1)) l K) F from i) (λd hd=>c.dst k o d f w (by rw[b k D];simp) hd) (λT s R S U=>c.mv k o T s f w (by rw[b k D];simp) R S U);refine KW a w f l.length listed F hready c n Q (DY a hm l (k+1) _ _ A (by simpa using L) r (c.put (λE G H p u q hl'' B=>?_) (λE G T s p u q hl'' R S U=>?_)) (n.put hready) i)
   ·cases V:av.uses H with
    | false=>rfl
    | true=>
     rcases Q.from_ H V with h|⟨t,_,h⟩
     ·have:=a.look E k G o H p f u q w B h
      grind [cu,RR.back]
     rw[c.dst E G H p q hl'' B t]at h;cases h
   cases V:av.uses s with
   | false=>rfl
   | true=>
    rcases Q.from_ s V with h|⟨t,_,h⟩
    ·grind [gj,db]
    rw[c.mv E G T s p q hl'' R S U t]at h;cases h
  refine⟨ψ,λj O=>?_⟩;have y:j=k:=by
   obtain⟨h1,oj,W,hall⟩:=mem_ready.1 O;have g:=(t4.1 W).1;rw[b j g]at h1;simp at h1;rcases Nat.lt_or_ge k j with X|hge
   ·exfalso
    have h2:=n8 n a.back (a.tail j ω g k X) g λk' hk'=>by grind [bz,cu]
    grind
   omega
  subst y;unfold y2;rw[w];simp only[CB f];have e0:m - j=0:=ω
  rw[e0]at i;have hp':iX P TE N ops o (LR P TE N ops l K) F:=i;have Y:∀J,LR P TE N ops l K J->Hd P TE N ops m K l.length (listed.setIfInBounds j true) J:=λJ Z=>
   DY a hm l (j+1) _ J A (by simpa using L) r ⟨ψ,ψ⟩ (n.put hready) (by rw[show m - (j+1)=0 by omega];cases l<;>exact Z)
  grind [jY]
theorem St.clr(h:St w0 M S0 N F a w)(ds:List Nat):St w0 M S0 N (Ab.clr ds F) a w:=by
 obtain⟨S,φ,h⟩:=h;refine⟨S,φ,λt=>?_,h.dis,h.disS,h.ex,h.sub,h.sup,h.old,h.size,h.defers,h.par⟩;rw[BE];cases b:ds.any (λd=>(F t).uses d) with
 | true=>trivial
 | false=>
  simp only[cond_false];refine(h.slot t).keep (φ:=φ) (λt _ _ _=>h.slot t) (λc _=>⟨λk e f=>?_,rfl,λ_ _ _=>⟨rfl,rfl⟩⟩) (λ_ _ _=>⟨rfl,rfl⟩) (λ_ _ _=>⟨rfl,rfl⟩) (λ_ _ h=>h) (λ_ _ h=>h)
  grind [BE,AV.uses]
theorem Ei(g:∀t i,TE t=some i->hO P t i)(E:P.follows .mixedOrders=true){id:Nat}{ds:List Nat}(b:((Nat.ble m ops.size&&below m λj=>match(du ops j).dst with|some d=>ds.any (Nat.beq d)|none=>true)&&D0 ops m)=true)(G:PJ P TE N ops m ops.toList K (Ab.clr ds F))(H:St w0 M S0 N F a w)(J:∀F' u y,K F'->St w0 M S0 N F' u y->Q .normal u y):(Code.region id ops true).wp P Q a w:=by
 simp only[I0]at b;obtain⟨⟨A,L⟩,b⟩:=b;have c:m<=ops.size:=by simp_all
 refine wp_region_any E ?_;have l:St w0 M S0 N (Ab.clr ds F) a {w with drawn:=w.drawn+1}:=by
  have O:=H.clr ds;obtain⟨S,φ,h⟩:=O;exact⟨S,φ,h.more (w1:={w with drawn:=w.drawn+1}) (λ_ _ h=>h) ψ ⟨rfl,rfl,rfl,W3 _,λ_ _ _=>rfl,λ_ _ _ _=>rfl,λ_ _ _ _=>rfl⟩⟩
 refine Bk g (m:=m) J ops.size (Array.replicate ops.size false) _ a _ ?_ l;have R:∀d,ds.any (Nat.beq d)=true->∀t,(Ab.clr ds F t).uses d=false:=λd U t=>by
  rw[BE];cases Z:ds.any (λd=>(F t).uses d) with
  | true=>rfl
  | false=>
   simp_all
 have B:∀j o d,j<m->ops[j]? = some o->o.dst=some d->ds.any (Nat.beq d)=true:=λj o d f C U=>by grind [gF,bz]
 have D:=G0 b;have:=DY (P:=P) (TE:=TE) (N:=N) D (K:=K) c ops.toList 0 (Array.replicate ops.size false) (Ab.clr ds F) (by simp) (by simp) (λj f=>by simp[f]) ⟨ψ,λj o T s f C _ _ _ V t=>by
   obtain⟨k,ok,n,W,X⟩:=(gj V).1;obtain⟨e,p,q,rfl⟩:=cu.1 n;have:=D.back j o C e p q
   grind⟩ (λj oj f Y=>by
   have r:=(t4.1 f).1;simp[r]at Y) G
 simpa using this
end
section
variable{P:Program}{w0 w w1:World}{M S0 S:am}{N:fm}{φ:Nat->am}{F:Nat->AV}{a:Act}{TE:Nat->Option TI}{ops:Array Oper}{ds:List Nat}{nm:Nat->Bool}
def Tg(P:Program)(TE:Nat->Option TI)(ops:Array Oper)(p:Nat)(F:Nat->AV):Prop:=∃d,(du ops p).dst=some d/\JT F (du ops p)=none/\dm P TE F (du ops p).op λa=>a=F d
def vH(P:Program)(TE:Nat->Option TI)(N:fm)(ops:Array Oper)(ds:List Nat)(listed:Array Bool)(i:Nat)(K:(Nat->AV)->Prop)(F:Nat->AV):Prop:=
 match ops[i]? with
 | none=>K F
 | some o=>if q8 ds o=true then ly P TE N ops o K F else iX P TE N ops o (λa=>(∀p,listed.getD p false=true->q8 ds (du ops p)=true->wh ops i p=false->Tg P TE ops p a)/\K a) F
def Fk(P:Program)(TE:Nat->Option TI)(N:fm)(ops:Array Oper)(ds:List Nat)(K:(Nat->AV)->Prop):Nat->Array Bool->(Nat->AV)->Prop
 | 0,listed,F=>Region.ready .any ops listed=[]/\K F
 | fuel+1,listed,F=>(Region.ready .any ops listed=[]->K F)/\∀i,i∈Region.ready .any ops listed->vH P TE N ops ds listed i (Fk P TE N ops ds K fuel (listed.setIfInBounds i true)) F
variable{Q:Exit->Act->World->Prop}{K:(Nat->AV)->Prop}{i:Nat}{listed:Array Bool}
theorem FN(c:∀t i,TE t=some i->hO P t i)(b:vH P TE N ops ds listed i K F)(g:St w0 M S0 N F a w){Kc:Act->World->Prop}(d:∀F' e f,K F'->St w0 M S0 N F' e f->Kc e f):wpOp P ops Q i Kc a w:=by
 unfold vH at b;unfold wpOp;cases j:ops[i]? with
 | none=>grind
 | some o=>
  rw[j]at b;simp only at b |-;obtain⟨S,φ,h⟩:=g;have:if Region.wanted o (yielded ops a.tmps) then o.wp P a w Kc Q else Kc (a.put o.dst undef) w:=by
   split at b
   ·exact h.oneP c b d
   exact h.one c (jY b λF' h=>h.2) d
  grind
def rr(b:∀t i,TE t=some i->hO P t i){K:(Nat->AV)->Prop}{Q:Exit->Act->World->Prop}(g:∀F' d e,K F'->St w0 M S0 N F' d e->Q .normal d e) :
  ∀(fuel:Nat)(listed:Array Bool)(F:Nat->AV)(a:Act)(w:World),Fk P TE N ops ds K fuel listed F->St w0 M S0 N F a w->wpAny P .any ops Q fuel listed a w
 | 0,_,F,a,w,c,f=>⟨c.1,g F a w c.2 f⟩
 | fuel+1,_,F,a,w,c,f=>⟨λj=>g F a w (c.1 j) f,λi k=>FN b (c.2 i k) f λF' d e l h=>rr b g fuel _ F' d e l h⟩
def bX(ts:List Nat)(F F1:Nat->AV):Prop:=∀t e,(F1 t).uses e=true->e∈ts\/∃a,(F a).uses e=true
theorem bX.refl(ts:List Nat)(F:Nat->AV):bX ts F F:=λt _ h=>.inr ⟨t,h⟩
variable{F1:Nat->AV}{ts:List Nat}
theorem bX.trans{F a:Nat->AV}(h1:bX ts F F1)(b:bX ts F1 a):bX ts F a:=λt e h=>by
 rcases b t e h with h|⟨c,h⟩
 ·exact .inl h
 exact h1 c e h
variable{d:Nat}
theorem bX.clean(h:bX ts F F1)(b:d∉ts)(c:∀t,(F t).uses d=false):∀t,(F1 t).uses d=false:=λt=>by
 cases a:(F1 t).uses d with
 | false=>rfl
 | true=>
  rcases h t d a with h|⟨e,h⟩
  all_goals grind
theorem bX.put{ts:List Nat}{dj:Nat}{av:AV}(h:∀e,av.uses e=true->e∈ts\/∃b,(F b).uses e=true):bX ts F (put F dj av):=λt e a=>by
 by_cases c:t=dj
 ·grind [pI]
 rw[iL _ _ c]at a;exact .inr ⟨t,(QB a).1⟩
variable{v:AV}{t e:Nat}
theorem MD(h:(sK t v).uses e=true):v.uses e=true:=by
 cases v with
 | c1 a b d f=>simp only[sK]at h;cases c:Nat.beq a t<;>rw[c]at h<;>first|exact h|cases h
 | ref a b d=>cases d<;>simp only[sK]at h<;>first|exact h|(cases c:Nat.beq a t<;>rw[c]at h<;>first|exact h|cases h)
 | _=>exact h
theorem bX.updH{ts:List Nat}{t:Nat}{k:Kd}{cs:List C} : bX ts F (updH F t k cs):=λs e a=>by
 unfold Ab.updH at a;cases b:Nat.beq s t with
 | true=>rw[b]at a;cases a
 | false=>grind [MD]
theorem NA(h:(PR t v).uses e=true):v.uses e=true:=by
 cases v with
 | c1 a b d f=>simp only[PR]at h;cases c:Nat.beq a t<;>rw[c]at h<;>first|exact h|cases h
 | ref a b d=>simp only[PR]at h;cases c:Nat.beq a t<;>rw[c]at h<;>first|exact h|cases h
 | _=>exact h
theorem bX.kill{ts:List Nat}{t:Nat} : bX ts F (kill F t):=λs e a=>by
 unfold Ab.kill at a;cases b:Nat.beq s t with
 | true=>rw[b]at a;cases a
 | false=>grind [NA]
variable{av:AV}
theorem cj(h:t≠d):eff none d av F t=F t:=by grind [eff]
theorem mG{a:Option Nat} : eff a d av F d=av:=by grind [eff]
theorem PE : eff none d (F d) F=F:=by grind [mG,cj]
theorem m8(a:d∉ts)(b:∀t,(F t).uses d=false):hB (eff none d av F) F ts:=λt c=>by grind [cj]
variable{dj:Nat}
theorem RZ(a:dj≠d):put (eff none d v F) dj av=eff none d (kl dj v) (put F dj av):=by grind [pI,cj,iL,mG]
variable{b:Kd}
theorem ny{a:List C}(c:t≠d):updH (eff none d v F) t b a=eff none d (sK t v) (updH F t b a):=by grind [mG,Nat.beq_eq,cj,updH]
theorem yb{a:List C}(c:t≠d):updH F t b a d=sK t (F d):=by grind [Nat.beq_eq,updH]
theorem JQ{a:List C}(c:t≠d):updN (eff none d v F) t b a=eff none d (PV t v) (updN F t b a):=by grind [mG,Nat.beq_eq,cj,updN]
theorem FK{a:List C}(c:t≠d):updN F t b a d=PV t (F d):=by grind [Nat.beq_eq,updN]
theorem Pi(h:(PV t v).uses e=true):v.uses e=true:=by
 cases v with
 | c1 b c a f=>
  cases a with
  | nil=>exact h
  | cons s a=>simp only[PV]at h;cases d:Nat.beq b t<;>rw[d]at h<;>first|exact h|cases h
 | ref b c a=>
  cases a with
  | nil=>exact h
  | cons s a=>simp only[PV]at h;cases d:Nat.beq b t<;>rw[d]at h<;>first|exact h|cases h
 | _=>exact h
theorem bX.updN{ts:List Nat}{t:Nat}{k:Kd}{cs:List C} : bX ts F (updN F t k cs):=λs e a=>by
 unfold Ab.updN at a;cases b:Nat.beq s t with
 | true=>rw[b]at a;cases a
 | false=>grind [Pi]
def Fq(d:Nat)(ts:List Nat)(v:AV)(F:Nat->AV)(K:(Nat->AV)->Prop)(F1:Nat->AV):Prop:=∃a,(v=F d->a=F1 d)/\K (eff none d a F1)/\bX ts F F1
def Uh(d:Nat)(ts:List Nat)(v:AV)(F:Nat->AV)(K:(Nat->AV)->Option Nat->List C->Prop)(F1:Nat->AV)(ag:Option Nat)(cs:List C):Prop:=∃a,(v=F d->a=F1 d)/\K (eff none d a F1) ag cs/\bX ts F F1
def Fq.trans{v1:AV}{a:Nat->AV}(h1:v=F d->v1=F1 d)(b:bX ts F F1)(h:Fq d ts v1 F1 K a):Fq d ts v F K a:=by
 obtain⟨c,f,g,i⟩:=h;exact⟨c,λe=>f (h1 e),g,b.trans i⟩
theorem gW(h:bS N (eff none d v F) dj av K)(a:dj≠d)(b:∀e,av.uses e=true->e∈ts\/∃c,(F c).uses e=true):bS N F dj av (Fq d ts v F K):=by
 unfold bS at h |-;cases f:(N.free dj&&!av.uses dj) with
 | false=>grind
 | true=>
  rw[f]at h;simp only[cond_true]at h |-;rw[RZ a]at h;exact⟨kl dj v,λe=>by grind [iL],h,bX.put b⟩
variable{cs:List C}{k:Kd}
def ja : ∀e,(AV.H k cs).uses e=true->e∈ts\/∃a,(F a).uses e=true:=λe h=>by cases h
theorem Ed{p:(Nat->AV)->(AV->Prop)->Prop}{ts0:List Nat}(h:oO p (eff none d v F) ts0 λav=>bS N (eff none d v F) dj av K)(a:dj≠d)(j:∀t,t∈ts0->t∈ts)(k:d∉ts)(b:∀t,(F t).uses d=false) :
  p F λav=>bS N F dj av (Fq d ts v F K):=by
 obtain⟨av,c,f,g⟩:=h;refine g F (m8 ψ b) _ (gW c a λe i=>?_);rcases f e i with h|⟨t,l,h⟩
 all_goals grind [cj]
variable{y:Operand}
theorem pU{K:(Nat->AV)->Option Nat->List C->Prop}(h:gz (eff none d v F) y K)(n:d∉tm y)(o:∀t,(F t).uses d=false):gz F y (Uh d ts v F K):=by
 have fin:∀{t:Nat}{k:Kd}{b:List C}{a:Option Nat}{xs:List C},t≠d->K (updH (eff none d v F) t k b) a xs->Uh d ts v F K (updH F t k b) a xs:=fun {t k b a xs} c h=>by
  rw[ny c]at h;exact⟨_,λe=>by rw[yb c,e],h,bX.updH⟩
 have zI:∀{t:Nat}{k:Kd}{b:List C}{a:Option Nat}{xs:List C},t≠d->K (updN (eff none d v F) t k b) a xs->Uh d ts v F K (updN F t k b) a xs:=fun {t k b a xs} c h=>by
  rw[JQ c]at h;exact⟨_,λe=>by rw[FK c,e],h,bX.updN⟩
 cases y with
 | tmp t=>
  have c:t≠d:=λe=>n (by simp[tm,e])
  simp only[gz]at h |-;rw[cj c]at h;cases g:F t with
  | H p q=>
   grind
  | c1 i u l a=>
   rw[g]at h;have w:i≠d:=λe=>by have:=o t;rw[g,e]at this;simp[AV.uses]at this
   cases l with
   | cons s l=>
    simp only at h |-;rw[cj w]at h;cases f:F i with
    | H p q=>
     rw[f]at h;obtain⟨r,j,A,B,D,E⟩:=Lq.out h;exact .mk_ ψ
    | _=>grind
   | nil=>
    grind [cj]
  | _=>grind
 | _=>exact h.elim
theorem Qy{K:(Nat->AV)->Option Nat->List C->Prop}(h:vJ (eff none d v F) y K)(b:d∉tm y)(c:∀t,(F t).uses d=false):vJ F y (Uh d ts v F K):=by
 obtain⟨i,xs,a,f⟩:=cx h;refine f F (m8 b c) _ ?_;cases g:bj xs with
 | true=>rw[g]at a;exact⟨v,λe=>e,a,bX.refl _ _⟩
 | false=>grind [pU]
def UE(d:Nat)(ts:List Nat)(v:AV)(F:Nat->AV)(K:(Nat->AV)->List C->Prop)(F1:Nat->AV)(cs:List C):Prop:=∃a,(v=F d->a=F1 d)/\K (eff none d a F1) cs/\bX ts F F1
theorem xv{d:Nat}{ts:List Nat}{c:Nat->Option (Nat × Nat)}(a:d∉ts):∀{parts:List (Nat × Operand)}{cs:List C}{K:(Nat->AV)->List C->Prop}{F:Nat->AV}{v:AV},fillW c parts cs K (eff none d v F)->(∀p,p∈parts->d∉tm p.2)->(∀t,(F t).uses d=false)->
  fillW c parts cs (UE d ts v F K) F
 | [],cs,K,F,v,h,_,b=>⟨v,λe=>e,h,bX.refl _ _⟩
 | p::rest,cs,K,F,v,h,r,b=>by
  simp only[fillW]at h |-;split at h
  case h_2=>exact h.elim
  rename_i q u;refine u7 (Qy (ts:=ts) h ψ b) λw y xs h=>?_
  obtain⟨A,g,h,f⟩:=h;cases i:(Nat.beq xs.length q.2&&Nat.ble (q.1+q.2) cs.length) with
  | false=>grind
  | true=>
   rw[i]at h;simp only[cond_true,dq]at h |-;refine jC (xv a h ψ (f.clean a b)) λB cs2 j=>?_
   obtain⟨k,l,n,o⟩:=j;exact⟨k,λe=>l (g e),n,f.trans o⟩
variable{parts:List (Nat × Operand)}{T:Nat}
theorem Lz(h:kJ TE N (eff none d v F) dj T parts K)(a:dj≠d)(b:d∉ts)(c:∀p,p∈parts->d∉tm p.2)(e:∀t,(F t).uses d=false) :
  kJ TE N F dj T parts (Fq d ts v F K):=by
 unfold kJ at h |-;split at h
 case h_2=>exact h.elim
 rename_i size bytes zero flds k;cases f:BT TE flds with
 | false=>grind
 | true=>
  rw[f]at h;refine jC (xv b h c e) λl n h=>?_
  obtain⟨o,g,h,i⟩:=h;exact bu (gW (ts:=ts) h a ja) λq j=>Fq.trans g i j
variable{n:Nat}
theorem Hu(h:gg TE N (eff none d v F) dj T n parts K)(a:dj≠d)(c:d∉ts)(f:∀p,p∈parts->d∉tm p.2)(g:∀t,(F t).uses d=false) :
  gg TE N F dj T n parts (Fq d ts v F K):=by
 unfold gg at h |-;obtain⟨e,i,h,b⟩:=iv h;refine b _ ?_;cases j:Nat.ble (n*i.size) 16777216 with
 | false=>grind
 | true=>
  rw[j]at h;simp only[cond_true]at h |-;cases n with
  | zero=>
   cases parts with
   | nil=>exact gW h a ja
   | cons=>exact h.elim
  | succ n=>
   simp only[dq]at h |-;refine jC (xv c h f g) λq r h=>?_
   obtain⟨u,k,h,l⟩:=h;rw[pN]at h |-;exact bu (gW (ts:=ts) h a ja) λw o=>Fq.trans k l o
theorem M8(h:iV N (eff none d v F) dj (.tmp t) K)(a:dj≠d)(c:d∉ts)(l:t∈ts)(g:∀t,(F t).uses d=false):iV N F dj (.tmp t) (Fq d ts v F K):=by
 have b:t≠d:=ψ
 have std:bA (eff none d v F) (.tmp t) (λf=>bS N (eff none d v F) dj f K)->bA F (.tmp t) (λf=>bS N F dj f (Fq d ts v F K)):=λh=>
  Ed (p:=λF K=>bA F (.tmp t) K) (jT h) a (λn o=>by grind [tm]) c g
 simp only[iV]at h |-;rw[cj b]at h;split at h
 ·rename_i i xs q
  cases j:bj xs with
  | true=>grind [gW]
  | false=>
   rw[j]at h;simp only[cond_false]at h |-;rw[ny b]at h;exact bu (gW (ts:=ts) h a ja) λr k=>Fq.trans (F1:=updH F t (.tup i) _) (λe=>by grind [yb]) bX.updH k
 all_goals exact std h
variable{x:Operand}
theorem RD{b:Operand}(h:E4 TE N (eff none d v F) dj T x b K)(c:dj≠d)(f:d∉tm x)(g:d∉tm b)(j:∀t,(F t).uses d=false):E4 TE N F dj T x b (Fq d ts v F K):=by
 unfold E4 at h |-;obtain⟨e,A,h,a⟩:=iv h;refine a _ ?_;obtain⟨n,k,i⟩:=nN h;refine i F (m8 g j) _ ?_;refine fj (pU (ts:=ts) k f j) λB C D h=>?_
 obtain⟨E,l,h,o⟩:=h;split at h
 case h_2=>exact h.elim
 obtain⟨m,y,p,q,r,u,w,h⟩:=h.out;exact .mk_ ⟨m,y,p,q,r,u,w,_,rfl,bu (gW (ts:=ts) h c ja) λG i=>Fq.trans l o i⟩
theorem LA(h:kI N (eff none d v F) dj x K)(a:dj≠d)(j:d∉ts)(k:∀t,t∈tm x->t∈ts)(o:∀t,(F t).uses d=false):kI N F dj x (Fq d ts v F K):=by
 have l:∀y,(∀t,t∈tm y->t∈ts)->bA (eff none d v F) y (λn=>bS N (eff none d v F) dj n K)->bA F y (λn=>bS N F dj n (Fq d ts v F K)):=λy q h=>Ed (p:=λF K=>bA F y K) (jT h) a q j o
 have A:∀y,(∀t,t∈tm y->t∈ts)->gz (eff none d v F) y (λb e i=>bS N b dj (.H (lQ e) i) K)->gz F y (λb e i=>bS N b dj (.H (lQ e) i) (Fq d ts v F K)):=λy q h=>
  fj (pU (ts:=ts) h ψ o) λb e i h=>by
   obtain⟨B,r,h,u⟩:=h;exact bu (gW (ts:=ts) h a ja) λC w=>Fq.trans r u w
 cases x with
 | tmp t=>
  grind [cj,tm,kI]
 | const c=>exact l (.const c) k h
 | global g=>exact l (.global g) k h
 | func f=>exact l (.func f) k h
theorem Dl(a:t≠d):kill (eff none d v F) t=eff none d (PR t v) (kill F t):=by grind [mG,lw,cj,qp]
theorem RU(h:DT N (eff none d v F) dj x K)(a:dj≠d)(c:d∉ts)(j:∀t,t∈tm x->t∈ts)(l:∀t,(F t).uses d=false):DT N F dj x (Fq d ts v F K):=by
 have f:E5 N (eff none d v F) dj x=E5 N F dj x:=by
  cases x with
  | tmp t=>
   grind [cj,tm,E5]
  | _=>rfl
 unfold DT at h |-;cases b:ND N dj x with
 | true=>
  rw[b]at h;simp only[cond_true]at h |-;exact gW (ts:=ts) h a ja
 | false=>
 rw[b]at h;simp only[cond_false]at h |-;unfold J9 at h |-;rw[f]at h;cases i:E5 N F dj x with
 | none=>grind [LA]
 | some p=>
  rw[i]at h;simp only at h |-;obtain⟨rfl,n⟩:=B8 i;have g:p.1≠d:=λe=>c (e ▸ j p.1 (by simp[tm]))
  rw[Dl g]at h;exact bu (gW (ts:=ts) h a ja) λo k=>Fq.trans (F1:=kill F p.1) (λe=>by grind [lw]) bX.kill k
theorem Ka(h:qI (eff none d v F) x cs K)(l:d∉tm x)(n:∀t,(F t).uses d=false):qI F x cs (Fq d ts v F K):=by
 have fin:∀{t:Nat}{k:Kd}{cs:List C},t≠d->K (updH (eff none d v F) t k cs)->Fq d ts v F K (updH F t k cs):=fun {t k cs} a h=>by
  rw[ny a]at h;exact⟨_,λe=>by rw[yb a,e],h,bX.updH⟩
 have zI:∀{t:Nat}{k:Kd}{cs:List C},t≠d->K (updN (eff none d v F) t k cs)->Fq d ts v F K (updN F t k cs):=fun {t k cs} a h=>by
  rw[JQ a]at h;exact⟨_,λe=>by rw[FK a,e],h,bX.updN⟩
 have finP:∀{t:Nat}{k:Kd}{cs:List C},t≠d->K (QL (eff none d v F) t k cs)->Fq d ts v F K (QL F t k cs):=fun {t k cs} a h=>by
  cases k with
  | box=>exact fin a h
  | _=>exact zI a h
 cases x with
 | tmp t=>
  have a:t≠d:=λe=>l (by simp[tm,e])
  simp only[qI]at h |-;rw[cj a]at h;cases c:F t with
  | H k o=>
   grind [dq]
  | ref f p g=>
   rw[c]at h;have i:f≠d:=λe=>by have:=n t;rw[c,e]at this;simp[AV.uses]at this
   cases g with
   | cons s g=>
    simp only at h |-;rw[cj i]at h;cases b:F f with
    | H k o=>
     rw[b]at h;obtain⟨r,j,q,u,w,y⟩:=Pu.out h;exact Pu.mk q u w rfl (finP i y)
    | _=>grind
   | nil=>
    grind [cj,dq]
  | _=>grind
 | _=>exact h.elim
theorem MK(h:mD TE (eff none d v F) T x y K)(b:d∉ts)(n:d∉tm x)(j:d∉tm y)(c:∀t,(F t).uses d=false):mD TE F T x y (Fq d ts v F K):=by
 unfold mD at h |-;split at h
 ·rename_i i r
  obtain⟨u,k,a,e⟩:=cx h;refine e F (m8 j c) _ ?_;cases o:Nat.beq k.length i.size with
  | false=>grind
  | true=>
   rw[o]at a;simp only[cond_true]at a |-;cases p:bj k with
   | true=>grind [Ka]
   | false=>
    rw[p]at a;simp only[cond_false]at a |-;refine fj (pU (ts:=ts) a j c) λw q f h=>?_
    obtain⟨A,a,h,l⟩:=h;cases g:Nat.beq f.length i.size with
    | false=>grind
    | true=>rw[g]at h;exact AB (Ka (ts:=ts) h n (l.clean b c)) λB e=>Fq.trans a l e
 exact h.elim
def RC(a:d∉tm y):nq (eff none d v F) y=nq F y:=by
 cases y with
 | tmp t=>exact cj λe=>a (by simp[tm,e])
 | _=>rfl
theorem RP{K:Bool->(Nat->AV)->List (List C)->Prop}(h:Ew (eff none d v F) y K)(b:d∉tm y)(c:∀t,(F t).uses d=false):Ew F y λe F1 rows=>∃v1,(v=F d->v1=F1 d)/\K e (eff none d v1 F1) rows/\bX ts F F1:=by
 have a:=RC (F:=F) (v:=v) b;unfold Ew at h |-;rw[a]at h;split at h
 ·refine fj (pU (ts:=ts) h b c) λF1 f g h=>?_
  obtain⟨v1,i,h,j⟩:=h
  grind
 grind [cx,m8,bX.refl]
theorem Qf{K:(Nat->AV)->List (List C)->Prop}(h:B0 (eff none d v F) y K)(b:d∉tm y)(c:∀t,(F t).uses d=false):B0 F y λF1 rows=>∃v1,(v=F d->v1=F1 d)/\K (eff none d v1 F1) rows/\bX ts F F1:=by
 obtain⟨e,xs,a,f⟩:=cx h;refine f F (m8 b c) _ ?_;split at a
 ·grind [bX.refl]
 ·refine fj (pU (ts:=ts) a b c) λF1 e g h=>?_
  obtain⟨v1,a,h,i⟩:=h
  grind
 exact a.elim
theorem PZ(h:AU TE N (eff none d v F) dj T x y K)(b:dj≠d)(c:d∉ts)(j:d∉tm x)(k:d∉tm y)(f:∀t,(F t).uses d=false):AU TE N F dj T x y (Fq d ts v F K):=by
 obtain⟨e,B,h,a⟩:=iv h;refine a _ (G8 (RP (ts:=ts) h k f) λC D E h=>?_);obtain⟨G,l,h,g⟩:=h;refine B4 (Qf (ts:=ts) h j (g.clean c f)) λH i h=>?_
 obtain⟨J,n,h,o⟩:=h;obtain⟨p,q,r,u,w,h⟩:=Ap.out h;refine CV p q r u w rfl (bu (gW (ts:=ts) h b ja) λL A=>?_);exact Fq.trans l g (Fq.trans n o A)
theorem MH{f:Oper}(B:f.guard=none)(g:R6 f.op=true)(k:f.dst≠some d)(u:d∉f.looksAt ops)(w:∀t,(F t).uses d=false)(h:iX P TE N ops f K (eff none d v F)) :
  iX P TE N ops f (Fq d (f.looksAt ops) v F K) F:=by
 unfold iX fN at h |-;rw[B]at h |-;simp only at h |-;have j:∀t,t∈dz f.op->t∈f.looksAt ops:=λt l=>i6 f t l
 have pur:∀b,b≠d->dm P TE (eff none d v F) f.op (λq=>bS N (eff none d v F) b q K)->dm P TE F f.op λq=>bS N F b q (Fq d (f.looksAt ops) v F K):=λb k h=>
  Ed (p:=λF K=>dm P TE F f.op K) (kq h) k j u w
 have dne:∀b,f.dst=some b->b≠d:=ψ
 have tmI:∀x,x∈f.op.operands.toList->∀t,t∈tm x->t∈f.looksAt ops:=λx C t l=>j t (List.mem_flatMap.2 ⟨x,C,l⟩)
 cases e:f.op with
 | store T x y=>
  rw[e]at h tmI;simp only[Bd]at h |-;cases a:f.dst with
  | some b=>rw[a]at h;simp only[kx]at h;exact h.elim
  | none=>
   grind [MK,Go.Op.operands]
 | move x=>
  rw[e]at h tmI;cases a:f.dst with
  | none=>rw[a]at h;exact h.elim
  | some b=>
   rw[a]at h;cases x with
   | tmp t=>
    simp only[Bd,kx]at h |-;exact M8 h (dne b a) u (tmI (.tmp t) (by simp[Op.operands]) t (by simp[tm])) w
   | _=>rw[e]at g;cases g
 | assign x=>
  rw[e]at h tmI
  grind [RU,Bd,kx,Go.Op.operands]
 | build T D=>
  rw[e]at h tmI
  grind [Lz,Bd,kx,Go.Op.operands]
 | buildSlice T n D=>
  rw[e]at h tmI
  grind [Hu,Bd,kx,Go.Op.operands]
 | extract x i=>rw[e]at h pur;cases a:f.dst with|none=>rw[a]at h;exact h.elim|some b=>rw[a]at h;exact pur b (dne b a) h
 | load T x=>rw[e]at h pur;cases a:f.dst with|none=>rw[a]at h;exact h.elim|some b=>rw[a]at h;exact pur b (dne b a) h
 | fieldAddr T x i=>rw[e]at h pur;cases a:f.dst with|none=>rw[a]at h;exact h.elim|some b=>rw[a]at h;exact pur b (dne b a) h
 | field T x i=>rw[e]at h pur;cases a:f.dst with|none=>rw[a]at h;exact h.elim|some b=>rw[a]at h;exact pur b (dne b a) h
 | binOp o T x y L=>rw[e]at h pur;cases a:f.dst with|none=>rw[a]at h;exact h.elim|some b=>rw[a]at h;exact pur b (dne b a) h
 | unOp o T x=>rw[e]at h pur;cases a:f.dst with|none=>rw[a]at h;exact h.elim|some b=>rw[a]at h;exact pur b (dne b a) h
 | call c=>
  rw[e]at g h tmI;cases E:qR c with
  | none=>grind [R6]
  | some p=>
   have r:=wO E;subst r;cases a:f.dst with
   | none=>rw[a]at h;exact h.elim
   | some b=>
    grind [PZ,Bd,kx,Go.Op.operands,Go.Call.operands]
 | slice T x G A H=>
  rw[e]at g h tmI pur;cases G with
  | some _=>cases g
  | none=>
   cases A with
   | none=>cases g
   | some A=>
    cases H with
    | some _=>cases g
    | none=>
     cases a:f.dst with
     | none=>rw[a]at h;exact h.elim
     | some b=>
      rw[a]at h;simp only[Bd,kx]at h |-;cases J:Un N b with
      | false=>simp_all
      | true=>
       grind [RD,Go.Op.operands]
 | _=>rw[e]at g;cases g
theorem RK{a:Oper}(c:a.guard=none)(f:R6 a.op=true)(b:a.dst≠some d)(g:d∉a.looksAt ops)(i:∀t,(F t).uses d=false)(h:iX P TE N ops a K F) :
  iX P TE N ops a (λF1=>K F1/\bX (a.looksAt ops) F F1) F:=by
 refine jY (MH (d:=d) (v:=F d) c f b g i (by rw[PE];exact h)) λF1 j=>?_
 obtain⟨k,e,l,u⟩:=j
 grind [PE]
theorem bX.setH{ts:List Nat}{t:Nat}{k:Kd}{cs:List C} : bX ts F (setH F t (.H k cs)):=λs e a=>by
 unfold Ab.setH at a;cases b:Nat.beq s t with
 | true=>rw[b]at a;cases a
 | false=>grind
variable{rcs:List C}
theorem J5(h:bS N F d (.H k rcs) K):bS N F d (.H k rcs) λF1=>K F1/\bX ts F F1:=by
 unfold bS at h |-;cases a:(N.free d&&!(AV.H k rcs).uses d) with
 | false=>grind
 | true=>rw[a]at h;exact⟨h,bX.put λe b=>by cases b⟩
theorem ug{off:Nat}{st:cG}{K:(Nat->AV)->List C->Prop}(h:lendAt F t off st n K):lendAt F t off st n λF1 cs=>K F1 cs/\bX ts F F1:=by
 unfold lendAt at h |-;split at h
 all_goals grind [dq,bX.updH]
def lD{ts:List Nat} : ∀{xs:List (Operand × Nat)}{K:(Nat->AV)->List (MA × rx)->Prop}{F:Nat->AV},lendP xs K F->lendP xs (λF1 l=>K F1 l/\bX ts F F1) F
 | [],K,F,h=>⟨h,bX.refl _ _⟩
 | (x,0)::xs,K,F,h=>lD (xs:=xs) h
 | (x,1)::xs,K,F,h=>by
  simp only[lendP]at h |-;split at h
  case h_2=>exact h.elim
  split at h
  ·exact fp (ug (ts:=ts) h) λF1 c h=>cw (lD (ts:=ts) h.1) λb l a=>⟨a.1,h.2.trans a.2⟩
  ·exact fp (ug (ts:=ts) h) λF1 c h=>cw (lD (ts:=ts) h.1) λb l a=>⟨a.1,h.2.trans a.2⟩
  ·exact fp (ug (ts:=ts) h) λF1 c h=>cw (lD (ts:=ts) h.1) λb l a=>⟨a.1,h.2.trans a.2⟩
  exact h.elim
 | (x,n+2)::xs,K,F,h=>by
  simp only[lendP]at h |-;split at h
  case h_2=>exact h.elim
  split at h
  ·split at h
   ·exact cw (lD (ts:=ts) h) λb l a=>⟨a.1,bX.kill.trans a.2⟩
   exact h.elim
  ·exact cw (lD (ts:=ts) h) λb l a=>⟨a.1,bX.kill.trans a.2⟩
  exact h.elim
theorem lN{ts:List Nat}{K:(Nat->AV)->Prop} : ∀{l:List (MA × rx)}{B:List MA}{F:Nat->AV},gZ l B K F->gZ l B (λF1=>K F1/\bX ts F F1) F
 | [],[],F,h=>⟨h,bX.refl _ _⟩
 | [],_::_,F,h=>h.elim
 | (m,.no)::l,[],F,h=>h.elim
 | (m,.at_ t off st)::l,[],F,h=>h.elim
 | (m,.box t)::l,[],F,h=>h.elim
 | (m,.no)::l,.val _ _::B,F,h=>lN (l:=l) (B:=B) h
 | (m,.no)::l,.mut _ _::B,F,h=>lN (l:=l) (B:=B) h
 | (m,.no)::l,.ptr _::B,F,h=>lN (l:=l) (B:=B) h
 | (m,.at_ t off st)::l,.val _ _::B,F,h=>h.elim
 | (m,.at_ t off st)::l,.ptr _::B,F,h=>h.elim
 | (m,.box t)::l,.val _ _::B,F,h=>h.elim
 | (m,.box t)::l,.mut _ _::B,F,h=>h.elim
 | (m,.at_ t off st)::l,.mut ag out::B,F,h=>by
  simp only[gZ]at h |-;split at h
  case h_2=>exact h.elim
  split at h
  ·rename_i k c _ _
   cases d:Nat.ble (off+out.length) c.length with
   | false=>grind
   | true=>
    rw[d]at h;simp only[cond_true,dq]at h |-;exact dt (λb a=>⟨a.1,bX.updH.trans a.2⟩) (lN (ts:=ts) h)
  obtain⟨r,j,e,f,g,i⟩:=Pu.out h;exact Pu.mk e f g rfl (dt (λb a=>⟨a.1,bX.updH.trans a.2⟩) (lN (ts:=ts) i))
 | (m,.box t)::l,.ptr out::B,F,h=>by
  simp only[gZ]at h |-;split at h
  ·exact dt (λb a=>⟨a.1,bX.setH.trans a.2⟩) (lN (ts:=ts) h)
  exact h.elim
variable{modes:List Nat}{args:List Operand}{f:Nat}
theorem NL{d:Option Nat}(h:lz P N F d f args modes K):lz P N F d f args modes λF1=>K F1/\bX ts F F1:=by
 unfold lz at h |-;refine cw (lD (ts:=ts) h) λn l h=>?_
 obtain⟨h,c⟩:=h;cases e:(vE l&&Nat.beq args.length modes.length) with
 | false=>grind
 | true=>
  rw[e]at h;refine jy h λb A h=>?_
  obtain⟨o,B,k,rcs,g,a,i⟩:=ch.out h;refine CL g a (dt (λF'' h=>?_) (lN (ts:=ts) i));obtain⟨h,j⟩:=h;cases d with
  | none=>grind [bX.trans]
  | some d=>exact bu (J5 (ts:=ts) h) λp a=>⟨a.1,(c.trans j).trans a.2⟩
theorem Rb{d:Option Nat}{c a b:Nat}{B:List MA}(h:wJ N F d t cs c a e b K k rcs B):wJ N F d t cs c a e b (λF1=>K F1/\bX ts F F1) k rcs B:=by
 unfold wJ at h |-;split at h
 case h_2=>exact h.elim
 rename_i g i;cases j:(Nat.beq g.length a&&Nat.beq i.length b) with
 | false=>grind
 | true=>
  rw[j]at h;simp only[cond_true,dq]at h |-;cases d with
  | none=>exact⟨h,bX.kill.trans bX.setH⟩
  | some d=>exact bu (J5 (ts:=ts) h) λl f=>⟨f.1,(bX.kill.trans bX.setH).trans f.2⟩
theorem Na{d:Option Nat}{a b:Nat}(h:k6 P N F d f args a b K):k6 P N F d f args a b λF1=>K F1/\bX ts F F1:=by
 unfold k6 at h |-;split at h
 case h_2=>exact h.elim
 refine lg h λt e h=>lg h λg c h=>?_
 split at h
 case h_2=>exact h.elim
 rename_i i p;cases j:(Nat.beq g t&&Nat.ble (e+a) c&&Nat.ble (c+b) i.length) with
 | false=>grind
 | true=>
  rw[j]at h;simp only[cond_true,dq]at h |-;obtain⟨q,B,k,rcs,l,n,o⟩:=ch.out h;exact CL l n (Rb o)
def Pa{d:Option Nat}(h:ky P N F d f args modes K):ky P N F d f args modes λF1=>K F1/\bX ts F F1:=by
 unfold ky at h |-;split
 ·rename_i p a;rw[a]at h;exact Na h
 rename_i a;rw[a]at h;exact NL h
variable{s:Nat}
theorem RM{dj:Option Nat}{a:Nat->AV}(u:bX ts F a):bX ts F (rv1 F dj s a):=by
 unfold rv1;split
 case h_2=>exact u
 rename_i t c f;cases g:(dne dj s&&dne dj t) with
 | false=>exact u
 | true=>
  simp only[cond_true];split
  case h_2=>exact u
  split
  case h_2=>exact u
  intro q e b;by_cases d:q=s
  ·grind [pZ]
  rw[f9 _ _ d]at b;exact u q e b
theorem HF{ts:List Nat}{dj:Option Nat} : ∀{l:List Nat}{a:Nat->AV},bX ts F a->bX ts F (rvE F dj l a)
 | [],_,u=>u
 | _::l,_,u=>HF (l:=l) (RM u)
theorem QD{a:Oper}(k:a.guard=none)(i:oT a.op=true)(h:iX P TE N ops a K F):iX P TE N ops a (λF1=>K F1/\bX (a.looksAt ops) F F1) F:=by
 have pur:∀d,a.dst=some d->dm P TE F a.op (λg=>bS N F d g K)->dm P TE F a.op λg=>bS N F d g λF1=>K F1/\bX (a.looksAt ops) F F1:=λd l h=>by
  have n:gH P TE N ops a K F:=by grind [gH,fN]
  obtain⟨y,g,j,o⟩:=wR n;have b:=j.dst;rw[l]at b;simp only[C1]at b;subst b;have A:=j.at_ F (Cc _ _) (λF1=>K F1/\bX (a.looksAt ops) F F1) ⟨o,bX.put λe q=>(j.from_ e q).imp id ψ⟩
  grind [gH,fN]
 unfold iX fN at h |-;rw[k]at h |-;simp only at h |-;cases f:a.op with
 | call c=>
  rw[f]at h i;have r:qR c=none:=by grind [oT,qR]
  have pl:kr P TE N a K F->kr P TE N a (λF1=>K F1/\bX (a.looksAt ops) F F1) F:=λh=>by grind [kr,kx]
  cases t:Bd N F (.call c) with
  | some p=>
   rw[t]at h;simp only at h |-;have lt:tp P N F a.dst p.1 p.2.1 p.2.2 K->tp P N F a.dst p.1 p.2.1 p.2.2 λF1=>K F1/\bX (a.looksAt ops) F F1:=λh=>rX (Pa (ts:=a.looksAt ops) h) λF1 ⟨h,u⟩=>by grind [n7,HF]
   cases w:Np N (.call c) with
   | false=>grind
   | true=>
    rw[w]at h;rcases h with h|h
    ·exact .pl (pl h)
    exact .lt (lt h)
  | none=>
   grind [kr]
 | _=>rw[f]at i;cases i
theorem Q2{a:Oper}(c:a.guard=none)(e:(R6 a.op || oT a.op)=true)(b:a.dst≠some d)(f:d∉a.looksAt ops)(g:∀t,(F t).uses d=false)(h:iX P TE N ops a K F) :
  iX P TE N ops a (λF1=>K F1/\bX (a.looksAt ops) F F1) F:=by grind [RK,QD]
def Gq(d:Nat)(ts:List Nat)(F:Nat->AV)(K:(Nat->AV)->Prop)(F1:Nat->AV):Prop:=∃a,K (eff none d a F1)/\bX ts F F1
def Gq.trans{a:Nat->AV}(b:bX ts F F1)(h:Gq d ts F1 K a):Gq d ts F K a:=by
 obtain⟨c,e,f⟩:=h;exact⟨c,e,b.trans f⟩
theorem De(a:t≠d):setH (eff none d v F) t av=eff none d v (setH F t av):=by grind [mG,f9,cj,setH]
theorem uE{off:Nat}{st:cG}{K:(Nat->AV)->List C->Prop}(h:lendAt (eff none d v F) t off st n K)(a:t≠d):lendAt F t off st n λF1 cs=>∃v1,K (eff none d v1 F1) cs/\bX ts F F1:=by
 unfold lendAt at h |-;rw[cj a]at h;split at h
 case h_2=>exact h.elim
 split at h
 ·grind [dq,ny,bX.updH]
 obtain⟨r,j,b,c,e,f⟩:=Lq.out h;refine .mk_ ?_
 grind [ny,bX.updH]
theorem mQ{ts:List Nat}{d:Nat}(a:d∉ts):∀{xs:List (Operand × Nat)}{K:(Nat->AV)->List (MA × rx)->Prop}{F:Nat->AV}{v:AV},lendP xs K (eff none d v F)->(∀x,x∈xs->d∉tm x.1)->(∀t,(F t).uses d=false)->
  lendP xs (λF1 l=>(∃v1,K (eff none d v1 F1) l/\bX ts F F1)/\∀q,q∈l->d∉q.2.slot) F
 | [],K,F,v,h,_,_=>⟨⟨v,h,bX.refl _ _⟩,ψ⟩
 | (x,0)::xs,K,F,v,h,w,c=>by
  simp only[lendP]at h |-;refine cw (mQ a h ψ c) λF1 l h=>⟨h.1,λq b=>?_⟩
  rcases List.mem_cons.1 b with rfl|b
  ·exact λu=>by cases u
  exact h.2 q b
 | (x,1)::xs,K,F,v,h,w,c=>by
  simp only[lendP]at h |-;split at h
  case h_2=>exact h.elim
  rename_i s;have j:s≠d:=λe=>w _ I2 (by simp[tm,e])
  rw[cj j]at h;have y:∀{t:Nat}{F1:Nat->AV}{l:List (MA × rx)}{m:MA}{f:Nat}{A:cG}{K2:(Nat->AV)->List (MA × rx)->Prop},t≠d->((∃v1,K2 (eff none d v1 F1) ((m,.at_ t f A)::l)/\bX ts F F1)/\∀q,q∈l->d∉q.2.slot)->(∃v1,K2 (eff none d v1 F1) ((m,.at_ t f A)::l)/\bX ts F F1)/\∀q,q∈(m,rx.at_ t f A)::l->d∉q.2.slot:=λg h=>⟨h.1,λq b=>by
    rcases List.mem_cons.1 b with rfl|b
    · exact λu=>g (V1.1 u).symm
    exact h.2 q b⟩
  split at h
  ·exact fp (uE (ts:=ts) h j) λF1 k h=>by
    obtain⟨v1,h,i⟩:=h;exact cw (mQ a h ψ (i.clean a c)) λB l h=>by
     obtain⟨⟨o,h,p⟩,r⟩:=h;exact y (K2:=K) j ⟨⟨o,h,i.trans p⟩,r⟩
  ·exact fp (uE (ts:=ts) h j) λF1 k h=>by
    obtain⟨v1,h,i⟩:=h;exact cw (mQ a h ψ (i.clean a c)) λB l h=>by
     obtain⟨⟨o,h,p⟩,r⟩:=h;exact y (K2:=K) j ⟨⟨o,h,i.trans p⟩,r⟩
  ·rename_i t f A G D
   have g:t≠d:=λe=>by have:=c s;rw[D,e]at this;simp[AV.uses]at this
   exact fp (uE (ts:=ts) h g) λF1 k h=>by
    obtain⟨v1,h,i⟩:=h;exact cw (mQ a h ψ (i.clean a c)) λB l h=>by
     obtain⟨⟨o,h,p⟩,r⟩:=h;exact y (K2:=K) g ⟨⟨o,h,i.trans p⟩,r⟩
  exact h.elim
 | (x,n+2)::xs,K,F,v,h,w,c=>by
  simp only[lendP]at h |-;split at h
  case h_2=>exact h.elim
  rename_i s;have j:s≠d:=λe=>w _ I2 (by simp[tm,e])
  rw[cj j]at h;have y:∀{t:Nat}{k:List C},t≠d->lendP xs (λE l=>K E ((.ptr k,.box t)::l)) (kill (eff none d v F) t)->lendP xs (λF1 l=>(∃v1,K (eff none d v1 F1) ((.ptr k,.box t)::l)/\bX ts F F1)/\∀q,q∈(MA.ptr k,rx.box t)::l->d∉q.2.slot) (kill F t):=fun {t k} g h=>by
   rw[Dl g]at h;refine cw (mQ a h ψ ((bX.kill (ts:=ts)).clean a c)) λB l h=>?_
   obtain⟨⟨o,h,p⟩,r⟩:=h;refine⟨⟨o,h,bX.kill.trans p⟩,λq b=>?_⟩;rcases List.mem_cons.1 b with rfl|b
   ·exact λu=>g (V1.1 u).symm
   exact r q b
  split at h
  ·rename_i t D
   have g:t≠d:=λe=>by have:=c s;rw[D,e]at this;simp[AV.uses]at this
   rw[cj g]at h;split at h
   all_goals simp_all
  all_goals simp_all
theorem tF{d:Nat}{v:AV}(a:∀t,(F t).uses d=false):∀{l:List (MA × rx)}{xs:List Operand}{K:Bool->List MA->Prop},valsP (eff none d v F) l xs K->(∀x,x∈xs->d∉tm x)->valsP F l xs K
 | [],[],K,h,_=>h
 | (m,.no)::l,x::xs,K,h,b=>by
  obtain⟨f,g,c,e⟩:=cx h;exact e F (m8 ψ a) _ (tF a c ψ)
 | (m,.at_ t off st)::l,x::xs,K,h,b=>tF (l:=l) (xs:=xs) a h ψ
 | (m,.box t)::l,x::xs,K,h,b=>tF (l:=l) (xs:=xs) a h ψ
 | [],_::_,K,h,_=>h.elim
 | (m,.no)::l,[],K,h,_=>h.elim
 | (m,.at_ t off st)::l,[],K,h,_=>h.elim
 | (m,.box t)::l,[],K,h,_=>h.elim
theorem lM{ts:List Nat}{d:Nat}{K:(Nat->AV)->Prop} : ∀{l:List (MA × rx)}{B:List MA}{F:Nat->AV}{v:AV},gZ l B K (eff none d v F)->(∀q,q∈l->d∉q.2.slot)->gZ l B (Gq d ts F K) F
 | [],[],F,v,h,_=>⟨v,h,bX.refl _ _⟩
 | [],_::_,F,v,h,_=>h.elim
 | (m,.no)::l,[],F,v,h,_=>h.elim
 | (m,.at_ t off st)::l,[],F,v,h,_=>h.elim
 | (m,.box t)::l,[],F,v,h,_=>h.elim
 | (m,.no)::l,.val _ _::B,F,v,h,b=>lM (l:=l) (B:=B) h ψ
 | (m,.no)::l,.mut _ _::B,F,v,h,b=>lM (l:=l) (B:=B) h ψ
 | (m,.no)::l,.ptr _::B,F,v,h,b=>lM (l:=l) (B:=B) h ψ
 | (m,.at_ t off st)::l,.val _ _::B,F,v,h,_=>h.elim
 | (m,.at_ t off st)::l,.ptr _::B,F,v,h,_=>h.elim
 | (m,.box t)::l,.val _ _::B,F,v,h,_=>h.elim
 | (m,.box t)::l,.mut _ _::B,F,v,h,_=>h.elim
 | (m,.at_ t off st)::l,.mut ag out::B,F,v,h,b=>by
  have c:t≠d:=λe=>b _ I2 (by simp[rx.slot,e])
  have a:∀q,q∈l->d∉q.2.slot:=ψ
  simp only[gZ]at h |-;rw[cj c]at h;split at h
  case h_2=>exact h.elim
  split at h
  ·rename_i k n _ _
   cases o:Nat.ble (off+out.length) n.length with
   | false=>grind
   | true=>
    rw[o]at h;simp only[cond_true,dq]at h |-;rw[ny c]at h;exact dt (λg f=>Gq.trans bX.updH f) (lM (ts:=ts) h a)
  obtain⟨r,j,p,u,w,i⟩:=Pu.out h;rw[ny c]at i;exact Pu.mk p u w rfl (dt (λg f=>Gq.trans bX.updH f) (lM (ts:=ts) i a))
 | (m,.box t)::l,.ptr out::B,F,v,h,b=>by
  have c:t≠d:=λe=>b _ I2 (by simp[rx.slot,e])
  have a:∀q,q∈l->d∉q.2.slot:=ψ
  simp only[gZ]at h |-;rw[cj c]at h;split at h
  ·rw[De c]at h
   exact dt (λg f=>Gq.trans bX.setH f) (lM (ts:=ts) h a)
  exact h.elim
theorem Nr{dj:Option Nat}(h:lz P N (eff none d v F) dj f args modes K)(n:dj≠some d)(a:d∉ts)(g:∀x,x∈args->d∉tm x)(i:∀t,(F t).uses d=false) :
  lz P N F dj f args modes (Gq d ts F K):=by
 unfold lz at h |-;refine cw (mQ a h (λx o=>g _ (List.of_mem_zip o).1) i) λE l h=>?_
 obtain⟨⟨G,h,c⟩,p⟩:=h;cases q:(vE l&&Nat.beq args.length modes.length) with
 | false=>grind
 | true=>
  rw[q]at h;refine jy (tF (c.clean a i) h g) λb A h=>?_
  obtain⟨H,B,k,rcs,r,e,u⟩:=ch.out h;refine CL r e (dt (λF'' h=>?_) (lM (ts:=ts) u p));obtain⟨w,h,j⟩:=h;cases dj with
  | none=>exact⟨w,h,c.trans j⟩
  | some dj=>
   refine bu (gW (ts:=ts) h ψ ja) λJ e=>?_
   obtain⟨y,-,C,D⟩:=e;exact⟨y,C,(c.trans j).trans D⟩
theorem Re{dj:Option Nat}{c a b:Nat}{B:List MA}(f:t≠d)(g:dj≠some d)(h:wJ N (eff none d v F) dj t cs c a e b K k rcs B):wJ N F dj t cs c a e b (Gq d ts F K) k rcs B:=by
 unfold wJ at h |-;split at h
 case h_2=>exact h.elim
 rename_i i j;cases l:(Nat.beq i.length a&&Nat.beq j.length b) with
 | false=>grind
 | true=>
  rw[l]at h;simp only[cond_true,dq]at h |-;rw[Dl f,De f]at h;cases dj with
  | none=>exact⟨_,h,bX.kill.trans bX.setH⟩
  | some dj=>
   refine bu (gW (ts:=ts) h ψ ja) λr n=>?_
   obtain⟨o,-,p,q⟩:=n;exact⟨o,p,(bX.kill.trans bX.setH).trans q⟩
theorem JA{K:Nat->Nat->Prop}(b:d∉tm x)(c:∀t,(F t).uses d=false)(h:zp (eff none d v F) x K):zp F x λt o=>t≠d/\K t o:=by
 obtain⟨s,t,f,rfl,a,i⟩:=sM h;have g:s≠d:=λe=>b (by simp[tm,e])
 rw[cj g]at a;have j:t≠d:=λe=>by have:=c s;rw[a,e]at this;simp[AV.uses]at this
 grind [zp]
theorem M2{dj:Option Nat}{a b:Nat}(h:k6 P N (eff none d v F) dj f args a b K)(g:dj≠some d)(c:∀x,x∈args->d∉tm x)(e:∀t,(F t).uses d=false) :
  k6 P N F dj f args a b (Gq d ts F K):=by
 unfold k6 at h |-;split at h
 case h_2=>exact h.elim
 refine lg (JA (c _ (by simp)) e h) λt j h=>?_
 obtain⟨i,h⟩:=h;refine lg (JA (c _ (by simp)) e h) λk l h=>?_
 replace h:=h.2;rw[cj i]at h;split at h
 all_goals grind [dq,ch.out,CL,Re]
theorem Pe{dj:Option Nat}(h:ky P N (eff none d v F) dj f args modes K)(a:dj≠some d)(b:d∉ts)(c:∀x,x∈args->d∉tm x)(e:∀t,(F t).uses d=false) :
  ky P N F dj f args modes (Gq d ts F K):=by grind [M2,Nr,ky]
theorem Ql{dj:Option Nat}{q:Nat}(c:q≠s):rv1 F dj s F1 q=F1 q:=by
 unfold rv1;cases F s with
 | ref t a b=>
  cases b with
  | cons=>rfl
  | nil=>
   simp only;cases(dne dj s&&dne dj t) with
   | false=>rfl
   | true=>
    simp only[cond_true];cases F1 t with
    | H k d=>
     cases k with
     | box=>
      simp only;cases F1 s with
      | dead=>grind [f9]
      | _=>rfl
     | _=>rfl
    | _=>rfl
 | _=>rfl
theorem Tx{dj:Option Nat}{v1:AV}(c:∀t,(F t).uses d=false):∃a,rv1 (eff none d v F) dj s (eff none d v1 F1)=eff none d a (rv1 F dj s F1):=by
 by_cases b:s=d
 ·subst b
  have f:∃a,rv1 (eff none s v F) dj s (eff none s v1 F1)=eff none s a F1:=by
   unfold rv1;rw[mG];have set:∀x:AV,setH (eff none s v1 F1) s x=eff none s x F1:=λx=>by grind [pZ,mG,f9,cj]
   grind
  obtain⟨a,g⟩:=f;refine⟨a,g.trans ?_⟩
  grind [mG,cj,Ql]
 refine⟨v1,?_⟩;unfold rv1;rw[cj b];cases h:F s with
 | ref t i j=>
  cases j with
  | cons=>rfl
  | nil=>
   have k:t≠d:=λe=>by have:=c s;rw[h,e]at this;simp[AV.uses]at this
   grind [cj,De]
 | _=>rfl
def NI{d:Nat}{dj:Option Nat}{v:AV}(a:∀t,(F t).uses d=false):∀{l:List Nat}{v1:AV}{F1:Nat->AV},∃b,rvE (eff none d v F) dj l (eff none d v1 F1)=eff none d b (rvE F dj l F1)
 | [],v1,_=>⟨v1,rfl⟩
 | s::l,v1,F1=>by
  simp only[rvE];obtain⟨b,e⟩:=Tx (dj:=dj) (v:=v) (v1:=v1) (s:=s) (F1:=F1) a;rw[e];exact NI a
theorem QK{a:Oper}(B:a.guard=none)(k:oT a.op=true)(g:a.dst≠some d)(w:d∉a.looksAt ops)(n:∀t,(F t).uses d=false)(h:iX P TE N ops a K (eff none d v F)) :
  iX P TE N ops a (Gq d (a.looksAt ops) F K) F:=by
 have f:∀t,t∈dz a.op->t∈a.looksAt ops:=λt o=>i6 a t o
 have tmI:∀x,x∈a.op.operands.toList->∀t,t∈tm x->t∈a.looksAt ops:=λx y t o=>f t (List.mem_flatMap.2 ⟨x,y,o⟩)
 have pur:∀dj,dj≠d->dm P TE (eff none d v F) a.op (λj=>bS N (eff none d v F) dj j K)->dm P TE F a.op λj=>bS N F dj j (Fq d (a.looksAt ops) v F K):=λdj g h=>
  Ed (p:=λF K=>dm P TE F a.op K) (kq h) g f w n
 unfold iX fN at h |-;rw[B]at h |-;simp only at h |-;cases b:a.op with
 | call c=>
  rw[b]at h k tmI;have q:qR c=none:=by grind [oT,qR]
  have r:Bd N (eff none d v F) (.call c)=Bd N F (.call c):=by grind [oT,Bd]
  rw[r]at h;have pl:kr P TE N a K (eff none d v F)->kr P TE N a (Gq d (a.looksAt ops) F K) F:=λh=>by
   unfold kr at h |-;rw[b]at h |-;cases C:a.dst with
   | none=>grind
   | some dj=>
    rw[C]at h;simp only[kx,q]at h |-;have A:=pur dj ψ;rw[b]at A;obtain⟨j,D,-,E⟩:=kq (A h);exact E F (Cc _ _) _ (bu D λQ G=>by
      obtain⟨v1,-,H,u⟩:=G;exact⟨v1,H,u⟩)
  cases J:Bd N F (.call c) with
  | some p=>
   rw[J]at h;simp only at h |-;have i:∀x,x∈p.2.1->d∉tm x:=λx y L=>by grind [oT,Bd,Go.Op.operands,Go.Call.operands]
   have lt:tp P N (eff none d v F) a.dst p.1 p.2.1 p.2.2 K->tp P N F a.dst p.1 p.2.1 p.2.2 (Gq d (a.looksAt ops) F K):=λh=>rX (Pe (ts:=a.looksAt ops) h g w i n) λF1 h=>by
    obtain⟨v1,h,u⟩:=h;rw[n7]at h |-;obtain⟨M,e⟩:=NI (dj:=a.dst) (v:=v) (l:=Um N.mo) (v1:=v1) (F1:=F1) n;rw[e]at h;exact⟨M,h,HF u⟩
   cases O:Np N (.call c) with
   | false=>grind
   | true=>
    rw[O]at h;rcases h with h|h
    ·exact .pl (pl h)
    exact .lt (lt h)
  | none=>
   grind [kr]
 | _=>rw[b]at k;cases k
theorem QY{a:Oper}(e:a.guard=none)(b:(R6 a.op || oT a.op)=true)(c:a.dst≠some d)(f:d∉a.looksAt ops)(g:∀t,(F t).uses d=false)(h:iX P TE N ops a K (eff none d v F)) :
  iX P TE N ops a (Gq d (a.looksAt ops) F K) F:=by
 rw[C7]at b;rcases b with b|b
 ·refine jY (MH e b c f g h) λl i=>?_
  obtain⟨j,-,k,u⟩:=i;exact⟨j,k,u⟩
 grind [QK]
structure mq(ops:Array Oper)(ds:List Nat)(F:Nat->AV)(listed:Array Bool):Prop where
 dst:∀(j:Nat)(o:Oper)(d:Nat),q8 ds o=true->ops[j]? = some o->listed.getD j true=false->o.dst=some d->∀t,(F t).uses d=false
 mv:∀(j:Nat)(o:Oper)(T:Option Nat)(s:Nat),q8 ds o=true->ops[j]? = some o->listed.getD j true=false->o.guard=none->nS o.op=some (T,s)->jq ops o s=true->∀t,(F t).uses s=false
variable{j:Nat}
theorem mq.put{o:Option Nat}(h:mq ops ds F listed)(p:∀b a g,q8 ds a=true->b≠j->ops[b]? = some a->listed.getD b true=false->a.dst=some g->av.uses g=false)(q:∀b a T s,q8 ds a=true->b≠j->ops[b]? = some a->listed.getD b true=false->a.guard=none->nS a.op=some (T,s)->jq ops a s=true->av.uses s=false) :
  mq ops ds (eff o d av F) (listed.setIfInBounds j true):=by
 refine⟨λb a g i c e k t=>?_,λb a T s i c e r l n t=>?_⟩
 ·have f:=iI e
  rw[getD_set_ne true (Ne.symm f)]at e;exact ko ψ (h.dst b a g i c e k t)
 have f:=iI e;rw[getD_set_ne true (Ne.symm f)]at e;exact ko ψ (h.mv b a T s i c e r l n t)
theorem yG{o:Oper}(h:TZ o=true):o.guard=none:=by grind [TZ]
theorem PF(h:(!ts.any (Nat.beq d))=true):d∉ts:=λa=>by grind [Nat.beq_refl]
theorem Nl{a b:Oper}{c:Bool}(h:TF ops a b c=true)(f:b.dst=some d):a.guard=none/\(R6 a.op || oT a.op)=true/\a.dst≠some d/\d∉a.looksAt ops/\b.guard=none/\d∉b.looksAt ops/\(c=true\/∀T s,nS b.op=some (T,s)->jq ops b s=false):=by
 unfold TF at h;rw[f]at h;simp only[I0]at h;obtain⟨⟨⟨⟨⟨⟨g,i⟩,n⟩,j⟩,k⟩,l⟩,o⟩:=h;refine⟨yG g,i,λe=>?_,PF j,yG k,PF l,?_⟩
 ·simp_all
 grind
def Ng(h:wh ops j i=true):oK ops j i:=sP j _ (λ_ a=>.one (yA a)) i h
theorem JH{o:Oper}(h:q8 ds o=true):∃d,o.dst=some d/\ds.any (Nat.beq d)=true:=by grind [q8]
structure Rv(ops:Array Oper)(ds:List Nat)(nm:Nat->Bool):Prop where
 back:∀(j:Nat)(oj:Oper),ops[j]? = some oj->∀e∈oj.after,Region.binds .any e=true->e.on<j
 apart:∀(i j:Nat)(oi oj:Oper),q8 ds oi=true->q8 ds oj=true->i≠j->ops[i]? = some oi->ops[j]? = some oj->de oj i=true\/de oi j=true\/oi.apart ops oj=true
 look:∀(i j:Nat)(oi oj:Oper)(d:Nat),q8 ds oi=true->i≠j->ops[i]? = some oi->ops[j]? = some oj->oi.dst=some d->d∈oj.looksAt ops->de oj i=true
 differ:∀(i j:Nat)(oi oj:Oper)(d:Nat),q8 ds oi=true->q8 ds oj=true->i≠j->ops[i]? = some oi->ops[j]? = some oj->oi.dst=some d->oj.dst≠some d
 nf:∀(i j:Nat)(oi oj:Oper),q8 ds oi=true->q8 ds oj=false->i≠j->ops[i]? = some oi->ops[j]? = some oj->wh ops j i=true\/wh ops i j=true\/TF ops oj oi (nm i)=true
 mvs:∀(j:Nat)(oj:Oper)(T:Option Nat)(s:Nat),q8 ds oj=true->ops[j]? = some oj->nS oj.op=some (T,s)->jq ops oj s=true->ds.any (Nat.beq s)=true
theorem p9{d:Oper}(a:Rv ops ds nm)(b:DC ops listed)(c:ops[j]? = some d)(f:∀e∈d.after,Region.binds .any e=true->listed.getD e.on false=true)(g:wh ops j i=true):listed.getD i false=true:=
 n8 b a.back (Ng g) (t4.1 c).1 λk h=>by grind [bz,cu]
theorem unl{k:Nat}(h1:listed.getD k true=false)(a:listed.getD k false=true):False:=ψ
theorem hB.trans{a:Nat->AV}(h1:hB F F1 ts)(c:hB F1 a ts):hB F a ts:=λt b=>by
 obtain⟨d,e⟩:=h1 t b;obtain⟨f,g⟩:=c t b
 grind
theorem mq.us{g:Oper}(n:Rv ops ds nm)(h:mq ops ds F listed)(o:ops[j]? = some g)(r:∀e∈g.after,Region.binds .any e=true->listed.getD e.on false=true)(u:bX (g.looksAt ops) F F1):mq ops ds F1 (listed.setIfInBounds j true):=by
 refine⟨λi k t l b c d=>u.clean (λf=>?_) (h.dst i k t l b ?_ d),λi k T s l b c w p q=>u.clean (λf=>?_) (h.mv i k T s l b ?_ w p q)⟩
 ·have a:=iI c
  rw[getD_set_ne true (Ne.symm a)]at c;have:=n.look i j k g t l a b o d f
  grind [cu]
 ·have a:=iI c
  rwa [getD_set_ne true (Ne.symm a)]at c
 ·grind [iI,gj,db]
 have a:=iI c
 rwa [getD_set_ne true (Ne.symm a)]at c
theorem Tu{p:Nat}{b:Oper}(a:ops[p]? = some b)(j:d∉b.looksAt ops)(k:∀t,(F1 t).uses d=false)(e:b.dst≠some d)(h:Tg P TE ops p (eff none d v F1)):Tg P TE ops p F1:=by
 obtain⟨f,g,i,c⟩:=h;rw[bz a]at g i c;refine⟨f,by grind [bz],?_,?_⟩
 ·grind [bz,wy,m8]
 rw[bz a];obtain⟨l,n,-,o⟩:=kq c
 grind [cj,m8,i6]
theorem Hj(W:Rv ops ds nm){b:Oper}(D:ops[i]? = some b)(w:q8 ds b=true) :
  ∀(fuel:Nat)(listed:Array Bool)(F:Nat->AV)(l:Option Nat)(av:AV),i∈Region.ready .any ops listed->mq ops ds F listed->DC ops listed->Yl P TE N ops b F l d av->(nm i=true->l=none)->Fk P TE N ops ds K fuel (listed.setIfInBounds i true) (eff l d av F)->Fk P TE N ops ds K (fuel+1) listed F:=by
 have self:∀(listed:Array Bool)(F:Nat->AV)(l:Option Nat)(av:AV),i∈Region.ready .any ops listed->mq ops ds F listed->Yl P TE N ops b F l d av->∀X:(Nat->AV)->Prop,X (eff l d av F)->ly P TE N ops b X F:=λlisted F l av hr a c X hK=>by
  have f:=(mem_ready.1 hr).1;refine c.at_ F (Cc _ _) (a.dst i b d w D f c.dst) (λs hs=>?_) X hK;obtain⟨B,⟨T,h2⟩,h3⟩:=c.mvl s hs;exact a.mv i b T s w D f B h2 h3
 intro fuel
 induction fuel with
 | zero=>
  intro listed F l av hr a E c hnm H;refine⟨ψ,λj hj=>?_⟩;by_cases n:j=i
  ·grind [vH]
  have:=ready_mono hj n;rw[H.1]at this;cases this
 | succ fuel ih=>
  intro listed F l av hr a E c hnm H;refine⟨ψ,λj hj=>?_⟩;by_cases n:j=i
  ·grind [vH]
  have B:=H.2 j (ready_mono hj n);obtain⟨R,g,q,hall⟩:=mem_ready.1 hj;obtain⟨f,oi',C,halli⟩:=mem_ready.1 hr;rw[D]at C;simp only[C1]at C;subst C;have noedge:∀k ok,ops[k]? = some ok->listed.getD k true=false->de g k=false:=λk ok hk hkun=>by grind [cu]
  have noedge':∀k ok,ops[k]? = some ok->listed.getD k true=false->de b k=false:=λk ok hk hkun=>by grind [cu]
  have cd:∀t,(F t).uses d=false:=a.dst i b d w D f c.dst
  unfold vH at B |-;rw[q]at B |-;simp only at B |-;by_cases G:q8 ds g=true
  case neg=>
   rw[CB G]at B |-;have hji1:wh ops j i=false:=by grind [p9]
   have hij1:wh ops i j=false:=by grind [p9]
   have hfb:TF ops g b (nm i)=true:=by grind [Rv.nf]
   obtain⟨J,r,A,g4,g5,g6,g7⟩:=Nl hfb c.dst;have hmv:l=none:=by
    cases l with
    | none=>rfl
    | some s=>
     obtain⟨-,⟨T,q1⟩,q2⟩:=c.mvl s rfl
     grind
   subst hmv;refine jY (QY J r A g4 cd B) λF1 hF1=>?_
   obtain⟨v,⟨S,hrun⟩,u⟩:=hF1;have cd1:∀t,(F1 t).uses d=false:=u.clean g4 cd
   have hisz:i<listed.size:=ψ
   have hrd:Tg P TE ops i (eff none d v F1):=S i (by simp[hisz]) (by grind [bz]) hji1;refine⟨λp hp1 L hp3=>?_,ih (listed.setIfInBounds j true) F1 none v (ready_mono hr (Ne.symm n)) (a.us W q hall u) (E.put hj) ?_ (λ_=>rfl) (by grind [Array.setIfInBounds_comm])⟩
   ·have hpi:p≠i:=ψ
    have hpl:p<ops.size:=by
     rcases Nat.lt_or_ge p ops.size with h|h
     ·exact h
     rw[show du ops p=default by simp[du,S7,Array.getElem?_eq_none h]]at L;cases L
    have h0:ops[p]? = some ops[p]:=ψ
    have U:=L;rw[bz h0]at U;refine Tu h0 (λhlk=>?_) cd1 (W.differ i p b _ d w U (Ne.symm hpi) D h0 c.dst) (S p (getD_set_true hp1) L hp3);have:=W.look i p b _ d w (Ne.symm hpi) D h0 c.dst hlk;exact unl f (E p _ h0 hp1 i this)
   obtain⟨dp,q1,q2,q3⟩:=hrd;rw[bz D]at q1 q2 q3;have hdp:dp=d:=by grind [Yl.dst]
   subst hdp;rw[mG]at q3;obtain⟨M,e1,e2,e3⟩:=kq q3;subst e1;have agr1:hB (eff none dp M F1) F1 (b.looksAt ops):=m8 g6 cd1;have fromv:eC F1 (b.looksAt ops) M:=λe he=>by
    rcases e2 e he with h|⟨t,Y,h⟩
    all_goals grind [i6,cj]
   have Z:M.uses dp=false:=by
    cases hu:M.uses dp with
    | false=>rfl
    | true=>
     rcases fromv dp hu with h|⟨t,_,h⟩
     all_goals grind
   refine⟨c.dst,c.lt,Z,fromv,ψ,λF' hA O _ X hK=>?_⟩;have agr2:=agr1.trans hA;unfold ly;rw[wy agr2,q2];simp only;unfold gH fN
   grind [hB.mono,i6,Yl.lt,Ef,bS]
  rw[CD G]at B |-;have hap:b.apart ops g=true:=by grind [Rv.apart]
  obtain⟨ap1,ap2,ap3⟩:=Oper.apart_spec hap;have hdl:d∉g.looksAt ops:=ap1 d c.dst;have cdj':∀o,g.dst=some o->∀t,(F t).uses o=false:=λo hdj=>a.dst j g o G q R hdj
  have cmv:∀s,l=some s->(∀t,(F t).uses s=false)/\s∉g.looksAt ops/\s∈b.looksAt ops:=λs hs=>by
   obtain⟨J,⟨T,r⟩,A⟩:=c.mvl s hs;exact⟨a.mv i b T s w D f J r A,λhl=>n ((gj A).2 i j b g D q (db r) hl).symm,db r⟩
  have cmvj:∀T s,g.guard=none->nS g.op=some (T,s)->jq ops g s=true->(∀t,(F t).uses s=false)/\s∉b.looksAt ops/\s∈g.looksAt ops:=λT s J r A=>
   ⟨a.mv j g T s G q R J r A,λhl=>n ((gj A).2 i j b g D q hl (db r)).symm,db r⟩
  have avno:∀e,e∉b.looksAt ops->(∀t,(F t).uses e=false)->av.uses e=false:=λe B h2=>by
   cases hu:av.uses e with
   | false=>rfl
   | true=>
    rcases c.from_ e hu with h|⟨t,_,h⟩
    all_goals grind
  obtain⟨mvj,o,avj,y,hKj⟩:=qg B (λo hdj t=>ko ψ (cdj' o hdj t)) (λT s J r A t=>by grind [ko]);have hdne:d≠o:=λe=>ap2 d c.dst (by rw[y.dst,e])
  have hdjl:o∉b.looksAt ops:=ap3 o y.dst;have cdj:∀t,(F t).uses o=false:=cdj' o y.dst
  have cmj:∀s,mvj=some s->(∀t,(F t).uses s=false)/\s∉b.looksAt ops/\s∈g.looksAt ops:=λs hs=>by
   obtain⟨J,⟨T,r⟩,A⟩:=y.mvl s hs
   grind
  have lookj:∀t,t∈g.looksAt ops->eff l d av F t=F t:=λt Y=>by grind [eff]
  have looki:∀t,t∈b.looksAt ops->eff mvj o avj F t=F t:=λt Y=>by grind [eff]
  have avjno:∀e,e∉g.looksAt ops->(∀t,(F t).uses e=false)->avj.uses e=false:=λe B h2=>by
   cases hu:avj.uses e with
   | false=>rfl
   | true=>
    rcases y.from_ e hu with h|⟨t,Y,h⟩
    all_goals grind
  have agrj:hB (eff l d av F) F (g.looksAt ops):=λt Y=>by grind [eff]
  refine y.at_ F agrj cdj ψ _ (ih (listed.setIfInBounds j true) (eff mvj o avj F) l av (ready_mono hr (Ne.symm n)) (a.put (λj' o' d' hm' V Q hl' O=>?_) (λj' o' T s hm' V Q hl' J r A=>?_)) (E.put hj) ?_ hnm ?_)
  ·refine avjno d' (λh=>?_) (a.dst j' o' d' hm' Q hl' O)
   grind [Rv.look]
  ·exact avjno s (λh=>V ((gj A).2 j' j o' g Q q (db r) h)) (a.mv j' o' T s hm' Q hl' J r A)
  ·refine⟨c.dst,c.lt,c.self,λe he=>?_,c.mvl,λF' hA O hs' X hK=>c.at_ F' (λt Y=>?_) O hs' X hK⟩
   ·rcases c.from_ e he with h|⟨t,Y,h⟩
    all_goals grind
   obtain⟨a1,a2⟩:=hA t Y
   grind [eff]
  rw[Array.setIfInBounds_comm _ _ n];have:eff l d av (eff mvj o avj F)=eff mvj o avj (eff l d av F):=by grind [eff]
  grind
theorem By:∀{b:List Nat}{X:Prop}{F:Nat->AV},NU P TE ops b X F->X/\∀p,p∈b->Tg P TE ops p F
 | [],X,F,h=>⟨h,ψ⟩
 | p::l,X,F,h=>by
  simp only[NU]at h;unfold TH at h;cases c:(du ops p).dst with
  | none=>grind
  | some d=>
   rw[c]at h;simp only at h;cases f:JT F (du ops p) with
   | some q=>grind
   | none=>
    rw[f]at h;simp only at h;obtain⟨g,i,-,-⟩:=kq h;obtain⟨e,k,j⟩:=(show g=F d/\X/\∀p,p∈l->Tg P TE ops p F from⟨i.out.1,By i.out.2⟩)
    refine⟨k,λn a=>?_⟩;rcases List.mem_cons.1 a with rfl|a
    ·exact⟨d,c,f,j7 h λg h=>h.out.1⟩
    grind
variable{l:List (Nat × List Nat)}
theorem tN : wW l i=true↔∃p,p∈l/\p.1=i:=by grind [W2,Nat.beq_refl,wW]
theorem qf{k:Nat × List Nat} : wW (k::l) i=(Nat.beq k.1 i || wW l i):=rfl
theorem D6(b:Rv ops ds nm){K:(Nat->AV)->Prop} : ∀(l:List (Nat × List Nat))(listed:Array Bool)(F:Nat->AV),EF ops ds l=true->listed.size=ops.size->(∀j,j<ops.size->listed.getD j true = !wW l j)->mq ops ds F listed->DC ops listed->
  Li P TE N ops ds nm l K F->Fk P TE N ops ds K l.length listed F
 | [],listed,F,_,hs,E,_,_,c=>by
  refine⟨?_,c⟩;apply List.eq_nil_iff_forall_not_mem.2;intro j R;obtain⟨S,o,ho,-⟩:=mem_ready.1 R;have G:=(t4.1 ho).1;rw[E j G]at S;cases S
 | k::l,listed,F,A,hs,E,a,H,c=>by
  simp only[EF,I0]at A;obtain⟨⟨⟨⟨q1,q2⟩,q3⟩,Z⟩,q5⟩:=A;have hk:k.1<ops.size:=by simp_all
  have r:ops[k.1]? = some ops[k.1]:=ψ
  have hrf:∀i,i<ops.size->listed.getD i true=true->listed.getD i false=true:=ψ
  have hready:k.1∈Region.ready .any ops listed:=mem_ready.2 ⟨by grind [qf,Nat.beq_refl],_,r,λe he hb=>by
    have G:=b.back k.1 _ r e he hb
    grind [bz,qf]⟩
  have B:∀j,j<ops.size->(listed.setIfInBounds k.1 true).getD j true = !wW l j:=λj R=>by
   by_cases w:j=k.1
   ·simp_all
   rw[getD_set_ne true (Ne.symm w),E j R,qf,show Nat.beq k.1 j=false by rw[<-C6,Nat.beq_eq];exact Ne.symm w];rfl
  show Fk P TE N ops ds K (l.length+1) listed F;simp only[Li]at c;rw[bz r]at c Z;have U:listed.getD k.1 true=false:=(mem_ready.1 hready).1;cases f:q8 ds ops[k.1] with
  | true=>
   rw[f]at c;simp only[cond_true]at c;obtain⟨mv,d,av,hy,c,hnm⟩:=LH c (λd hd=>a.dst k.1 _ d f r U hd) (λT s g1 g2 g3=>a.mv k.1 _ T s f r U g1 g2 g3);have C:∀e∈ops[k.1].after,Region.binds .any e=true->listed.getD e.on false=true:=by grind [Go.mem_ready]
   refine Hj b r f l.length listed F mv av hready a H hy hnm (D6 b l _ _ q5 (by simpa using hs) B (a.put (λO Q V g D n hl'' J=>?_) (λO Q T s g D n hl'' g1 g2 g3=>?_)) (H.put hready) c)
   ·cases hu:av.uses V with
    | false=>rfl
    | true=>
     rcases hy.from_ V hu with h|⟨t,_,h⟩
     ·have:=b.look O k.1 Q _ V g D n r J h
      grind [cu]
     rw[a.dst O Q V g n hl'' J t]at h;cases h
   cases hu:av.uses s with
   | false=>rfl
   | true=>
    rcases hy.from_ s hu with h|⟨t,_,h⟩
    ·grind [gj,db]
    rw[a.mv O Q T s g n hl'' g1 g2 g3 t]at h;cases h
  | false=>
   rw[f]at c Z;simp only[cond_false]at c;simp only[Bool.false_or,I0]at Z;obtain⟨⟨r1,r2⟩,r3⟩:=Z;refine⟨ψ,λj R=>?_⟩;obtain⟨hjun,oj,y,C⟩:=mem_ready.1 R;have hjlt:=(t4.1 y).1;have w:j=k.1:=by grind [tN,p9]
   subst w;rw[r]at y;simp only[C1]at y;subst y;unfold vH;rw[r];simp only[f,CB (show ¬false=true by decide)];have post:∀u,NU P TE ops k.2 (Li P TE N ops ds nm l K u) u->mq ops ds u (listed.setIfInBounds k.1 true)->(∀p,listed.getD p false=true->q8 ds (du ops p)=true->wh ops k.1 p=false->Tg P TE ops p u)/\Fk P TE N ops ds K l.length (listed.setIfInBounds k.1 true) u:=λu L W=>by
    obtain⟨X,hrd⟩:=By L;refine⟨λp hp1 hp2 hp3=>hrd p ?_,D6 b l _ _ q5 (by simpa using hs) B W (H.put hready) X⟩;have hpl:p<ops.size:=ψ
    grind [gF,qf,W2]
   cases hlater:l.any (λj=>q8 ds (du ops j.1)) with
   | false=>
    refine jY c λu L=>post u L ⟨λO Q V g n hl'' J=>?_,λO Q T s g n hl''=>?_⟩
    all_goals grind [tN,bz]
   | true=>
    rw[hlater]at r3;simp only[Bool.not_true,Bool.false_or,I0]at r3;obtain⟨x,hx1,q⟩:=I4.1 hlater;have Y:listed.getD x.1 true=false/\x.1<ops.size:=by
     have G:x.1<ops.size:=by
      rcases Nat.lt_or_ge x.1 ops.size with h|h
      ·exact h
      rw[show du ops x.1=default by simp[du,S7,Array.getElem?_eq_none h]]at q;cases q
     grind [tN]
    have M:ops[x.1]? = some ops[x.1]:=ψ
    rw[bz M]at q;obtain⟨d,hd,hdd⟩:=JH q;have hxk:x.1≠k.1:=ψ
    refine jY (Q2 (d:=d) (yG r3.1) r3.2 (λe=>?_) (λhlk=>?_) (a.dst x.1 _ d q M Y.1 hd) c) λu S=>post u S.1 (a.us b r C S.2)
    ·grind [q8]
    have:=b.look x.1 k.1 _ _ d q hxk M r hd hlk
    grind [cu]
theorem Dg{sch:List (Nat × List Nat)}(h:BI ops ds sch=true):Rv ops ds (Uk sch)/\EF ops ds sch=true/\sch.length=ops.size/\∀j,j<ops.size->wW sch j=true:=by
 unfold BI at h;simp only[I0]at h;obtain⟨⟨p,k⟩,l⟩:=h;have C:=λj (o:j<ops.size)=>gF p o
 have r:∀(i j:Nat)(c b:Oper),i≠j->ops[i]? = some c->ops[j]? = some b->Bl ops ds (Uk sch) i j=true:=λi j c b a f g=>by grind [gF,Nat.beq_eq]
 refine⟨⟨λj b o e t u=>?_,λi j c b n q a f g=>?_,λi j c b d n a f g w D=>?_,λi j c b d n q a f g w t=>?_,λi j c b n q a f g=>?_,λj b T s n o y A=>?_⟩,l,W2 k,λj o=>?_⟩
 ·grind [bz,Nat.blt_eq]
 ·grind [bz,Bl]
 ·have:=r i j c b a f g
  unfold Bl at this;rw[bz f,bz g,n]at this;have B:ue ops i j=true:=by grind [bz,Nat.beq_refl,ue]
  grind
 ·grind [bz,Nat.beq_refl,Bl]
 all_goals grind [bz,Bl]
theorem uK{l:List Nat} : Dw l j=true↔j∈l:=by grind [W2,Nat.beq_refl,Dw]
def G3{p:Nat->Prop} : ∀{l:List Nat}{i:Nat},Ux p i l->∀j,j∈i::l->p j
 | [],i,h,j,a=>by rw[V1.1 a];exact h
 | k::l,i,h,j,a=>by
  rcases List.mem_cons.1 a with rfl|a
  ·exact h.1
  exact G3 h.2 j a
theorem F9{l:List Nat}{K:Prop}{p:Nat->Prop}(h:Uw l K p):(l=[]->K)/\∀j∈l,p j:=by
 cases l with
 | nil=>exact⟨λ_=>h,ψ⟩
 | cons i l=>exact⟨ψ,G3 h⟩
theorem rn{done:List Nat}(h:listed.size=ops.size)(b:∀j,j<ops.size->listed.getD j true=Dw done j)(l:∀k∈done,k<ops.size) : j∈Region.ready .any ops listed↔j∈MM ops done:=by
 have c:∀i,listed.getD i false=Dw done i:=λi=>by grind [uK]
 rw[mem_ready];unfold MM;rw[Z4,List.mem_range,I0];constructor
 ·grind [bz]
 rintro⟨a,n,d⟩
 refine⟨ψ,ops[j],I7 a,λe f g=>?_⟩;have:=O4.1 d e (by rw[bz (I7 a)];simpa using f)
 grind
theorem Ru{K:(Nat->AV)->Prop} : ∀(n:Nat)(done:List Nat)(listed:Array Bool)(F:Nat->AV),listed.size=ops.size->(∀j,j<ops.size->listed.getD j true=Dw done j)->(∀k∈done,k<ops.size)->Tj P TE N ops K n done F->Fk P TE N ops [] K n listed F
 | 0,done,listed,F,c,a,f,h=>by
  obtain⟨g,l⟩:=F9 h;have o:MM ops done=[]:=List.eq_nil_iff_forall_not_mem.2 λj b=>l j b
  exact⟨List.eq_nil_iff_forall_not_mem.2 λj b=>(by grind [rn]),g o⟩
 | n+1,done,listed,F,c,a,f,h=>by
  obtain⟨g,l⟩:=F9 h;refine⟨λo=>g (List.eq_nil_iff_forall_not_mem.2 λj b=>(by rw[<-rn c a f,o]at b;cases b)),λi t=>?_⟩;have d:=(rn c a f).1 t;have q:=l i d;have u:i<ops.size:=List.mem_range.1 (Z4.1 d).1;have r:ops[i]? = some ops[i]:=ψ
  unfold vH;rw[r];simp only;rw[bz r]at q;have w:q8 [] ops[i]=false:=by grind [q8]
  rw[CB (by rw[w];decide)];refine jY q λy A=>⟨λp _ B=>?_,Ru n (i::done) _ y (by simpa using c) (λj b=>?_) (λk C=>?_) A⟩
  ·grind [q8]
  ·by_cases e:j=i
   ·subst e
    rw[show Dw (j::done) j=true from uK.2 ψ];simp[c,b]
   rw[getD_set_ne true (Ne.symm e),a j b]
   grind [uK]
  grind
theorem y1(g:∀t i,TE t=some i->hO P t i)(y:P.follows .mixedOrders=true){id:Nat}{tb:List (Nat × Nat × List Nat)}(b:ou tb id ops=true)(c:DD P TE N tb id ops K F)(A:St w0 M S0 N F a w)(B:∀F' C D,K F'->St w0 M S0 N F' C D->Q .normal C D):(Code.region id ops true).wp P Q a w:=by
 unfold ou at b;unfold DD at c;cases q:xp tb id with
 | none=>grind
 | some p=>
  obtain⟨m,L⟩:=p;rw[q]at b c;simp only at b c;cases k:Nat.ble 65536 m with
  | true=>
   rw[k]at c;refine wp_region_any y ?_;have f:St w0 M S0 N F a {w with drawn:=w.drawn+1}:=by
    obtain⟨S,φ,h⟩:=A;exact⟨S,φ,h.more (w1:={w with drawn:=w.drawn+1}) (λ_ _ h=>h) ψ ⟨rfl,rfl,rfl,W3 _,λ_ _ _=>rfl,λ_ _ _ _=>rfl,λ_ _ _ _=>rfl⟩⟩
   refine rr g (ds:=[]) B ops.size (Array.replicate ops.size false) _ a _ ?_ f;exact Ru ops.size [] _ F (by simp) (λj n=>by simp[n,Dw]) ψ c
  | false=>
  rw[k]at b c;simp only[cond_false]at b c;cases r:Nat.ble 256 m with
  | false=>
   grind [Ei]
  | true=>
   rw[r]at b c;simp only[cond_true,JN]at b c;generalize L.take (m - 256)=ds at b c;generalize dec (L.drop (m - 256))=sch at b c;obtain⟨E,l,e,G⟩:=Dg b;refine wp_region_any y ?_;have f:St w0 M S0 N (Ab.clr ds F) a {w with drawn:=w.drawn+1}:=by
    have O:=A.clr ds;obtain⟨S,φ,h⟩:=O;exact⟨S,φ,h.more (w1:={w with drawn:=w.drawn+1}) (λ_ _ h=>h) ψ ⟨rfl,rfl,rfl,W3 _,λ_ _ _=>rfl,λ_ _ _ _=>rfl,λ_ _ _ _=>rfl⟩⟩
   refine rr g (ds:=ds) B ops.size (Array.replicate ops.size false) _ a _ ?_ f;have u:∀d,ds.any (Nat.beq d)=true->∀t,(Ab.clr ds F t).uses d=false:=λd R t=>by
    rw[BE];cases X:ds.any (λd=>(F t).uses d) with
    | true=>rfl
    | false=>
     simp_all
   rw[<-e];refine D6 E sch _ _ l (by simp[e]) (λj n=>by simp_all) ⟨λj o d H J _ R t=>?_,λj o T s H J _ _ U V t=>u s (E.mvs j o T s H J U V) t⟩ (λj Y n Z=>by
     have W:=(t4.1 n).1
     simp_all) c
   grind [JH]
end
def kC:List (Option Nat)->Kd
 | [ag]=>lQ ag
 | a=>.tup a
def rM:ResultVar->Nat
 | .tmp t=>t
 | .cell t _=>t
def ES(tmps:Array Value):ResultVar->Sem Value
 | .tmp t=>pure (tmps.getD t undef)
 | .cell a t=>do loadVar t (<-asAddr (tmps.getD a undef))
def resOne(TE:Nat->Option TI)(F:Nat->AV)(r:ResultVar)(K:Option Nat->List C->Prop):Prop:=
 match r with
 | .tmp t=>(match F t with
   | .H .one cs=>K none cs
   | .H .agg cs=>K (some cs.length) cs
   | _=>False)
 | .cell t T=>match TE T with
  | some i=>bif i.agg || Nat.beq i.size 1 then(match F t with
    | .H .box cs=>bif Nat.beq cs.length i.size then K (q9 i) cs else False
    | _=>False) else False
  | none=>False
def resA(TE:Nat->Option TI)(F:Nat->AV):List ResultVar->List Nat->(List (Option Nat)->List C->Prop)->Prop
 | [],_,K=>K [] []
 | r::rs,seen,K=>bif seen.any (Nat.beq (rM r)) then False else resOne TE F r λb c=>resA TE F rs (rM r::seen) λd a=>K (b::d) (c++a)
def U2:RA->AV
 | .val a cs=>.H (lQ a) cs
 | .ptr cs=>.iref cs 0
 | .fn Ok=>.fv Ok
def wj:Nat->List RA->List (Nat × AV)
 | _,[]=>[]
 | i,A::As=>(i,U2 A)::wj (i+1) As
inductive Mp:C->C->Prop
 |rfl_ (c:C):Mp c c
 |z_:Mp .z (.s .own [])
 |own_ (rows rows':List (List C)) (hl:rows.length=rows'.length) (hk:∀(i:Nat)(r r':List C),rows[i]? = some r->rows'[i]? = some r'->r.length=r'.length)
   (hr:∀(i j:Nat)(r r':List C)(c c':C),rows[i]? = some r->rows'[i]? = some r'->r[j]? = some c->r'[j]? = some c'->Mp c c'):Mp (.s .own rows) (.s .own rows')
def N0(cs a:List C):Prop:=cs.length=a.length/\∀(j:Nat)(c b:C),cs[j]? = some c->a[j]? = some b->Mp c b
def N0.nil:N0 [] []:=⟨rfl,λj c a h=>by simp at h⟩
variable{cs a:List C}
theorem N0.cons{c b:C}(h:Mp c b)(d:N0 cs a):N0 (c::cs) (b::a):=by
 refine⟨by simp[d.1],λj y e f g=>?_⟩;cases j with
 | zero=>grind
 | succ j=>exact d.2 j y e (by simpa using f) (by simpa using g)
def Mp.rep{r k:List C}(h:N0 r k):Mp (.s .own (List.replicate n r)) (.s .own (List.replicate n k)):=by
 refine .own_ _ _ (by simp) (λi a b d e=>?_) (λi j a b c p d e l o=>?_)
 ·have f:=List.mem_replicate.1 (O2 d)
  have g:=List.mem_replicate.1 (O2 e);rw[f.2,g.2];exact h.1
 have f:=List.mem_replicate.1 (O2 d);have g:=List.mem_replicate.1 (O2 e);rw[f.2]at l;rw[g.2]at o;exact h.2 j c p l o
theorem QR{w:World}{S Y:am}{c:C}{v:Value}(h:dM w S Y c v):∀t,Mp c t->dM w S Y t v:=by
 induction h with
 | z F a=>
  intro t j;cases j with
  | rfl_=>exact .z _ _
  | z_=>exact .nil _ _ _ trivial
 | nil F o a K=>
  intro t j;cases j with
  | rfl_=>exact .nil _ _ _ K
  | own_ d e E=>obtain rfl:e=[]:=I8 (by simpa using E.symm);exact .nil _ _ _ trivial
 | own F o g k n y d u f K J L p A D R T j G X=>
  intro t M;cases M with
  | rfl_=>exact .own _ o g k n y d u f K J L p A D R T j G
  | own_ d e E Z U=>
   have V:∀(i:Nat)(W:List C),e[i]? = some W->∃r,d[i]? = some r:=ψ
   refine .own _ .own g k n y e u f trivial (E.symm.trans J) (λW hr'=>?_) p A D R T j ψ
   all_goals grind [List.mem_iff_getElem?]
 | v F x N=>intro t j;cases j;exact .v _ _ N
 | x F u N=>intro t j;cases j;exact .x _ _ N
 | V F g O k n y d u J L p hS G X=>intro t j;cases j;exact .V _ g O k n y d u J L p hS G
 | m F b l es q D P he Q B=>intro t j;cases j;exact .m _ b l es q D P he Q B
 | it F r b since c0 l seen q cur left D U P B G Q E H=>intro t j;cases j;exact .it _ r b since c0 l seen q cur left D U P B G Q E H
def WK(cs a:List C):Prop:=P9 cs a\/N0 cs a
inductive jX(k k':Kd)(cs cs':List C):Prop
 |mk_ (h:k=k'/\WK cs cs')
def nk:∀(cs:List C),P9 cs cs
 | []=>trivial
 | c::cs=>by
  refine⟨?_,nk cs⟩;cases c with
  | s o a=>cases o<;>rfl
  | x=>trivial
  | _=>rfl
variable{k:Kd}
def jX.mk{b:Kd}(h1:k=b)(c:cs=a):jX k b cs a:=by refine .mk_ ?_;exact⟨h1,.inl (c ▸ nk cs)⟩
def jX.wk{b:Kd}(h1:k=b)(c:P9 cs a):jX k b cs a:=.mk_ ⟨h1,.inl c⟩
def jX.dk{b:Kd}(h1:k=b)(c:N0 cs a):jX k b cs a:=.mk_ ⟨h1,.inr c⟩
def jX.out{b:Kd}(h:jX k b cs a):k=b/\WK cs a:=by obtain⟨h⟩:=h;exact h
theorem WK.len(h:WK cs a):cs.length=a.length:=h.elim (λh=>(si h).1) (λh=>h.1)
theorem WK.row{w:World}{S Y:am}{c:List C}{u:Nat->Value}(a:WK cs c)(h:cR w S Y cs u):cR w S Y c u:=by
 rcases a with a|a
 ·exact Dc a h
 obtain⟨f,k,l,n⟩:=h;refine⟨f,λj i b=>?_,λj b=>l j (by rw[a.1];exact b),λj o b e=>n j o (by rw[a.1];exact b) (by rw[a.1];exact e)⟩;have g:=(Z2.1 b).1;have d:cs[j]? = some (cs[j]'(by rw[a.1];exact g)):=ψ
 exact QR (k j _ d) i (a.2 j _ i d b)
def QT(TE:Nat->Option TI)(c:List ResultVar)(k:Kd)(rcs:List C):Exit->(Nat->AV)->Prop:=λe F=>
 match e with
 | .normal=>resA TE F c [] λa b=>jX (kC a) k b rcs
 | .ret=>resA TE F c [] λa b=>jX (kC a) k b rcs
 | _=>False
def Ro(F:Nat->AV)(t:Nat)(rcs:List C):Prop:=
 match F t with
 | .H .box cs=>jX .box .box cs rcs
 | .ref a 0 []=>(match F a with
   | .H .box cs=>jX .box .box cs rcs
   | _=>False)
 | _=>False
def TD(t:Nat)(rcs:List C):Exit->(Nat->AV)->Prop:=λe F=>
 match e with
 | .normal=>Ro F t rcs
 | .ret=>Ro F t rcs
 | _=>False
section
variable{P:Program}{w0 w w1:World}{M S0 S:am}{N:fm}{φ:Nat->am}{F:Nat->AV}{a:Act}{TE:Nat->Option TI}
theorem bg.resOne(h:bg w0 M S0 N S φ F a w)(n:∀t i,TE t=some i->hO P t i){r:ResultVar}{K:Option Nat->List C->Prop}(b:resOne TE F r K) :
  ∃ag cs v,K ag cs/\bB w S (φ (rM r)) ag cs v/\(ES a.tmps r).run P w=.ok v w:=by
 cases r with
 | tmp t=>
  have e:=h.slot t;simp only[Ab.resOne]at b;cases p:F t with
  | H k cs=>
   rw[p]at b e;obtain⟨E,Y,G,j,H,A,l⟩:=e;cases k with
   | one=>exact⟨none,cs,tvs a t,b,⟨A,_,rfl,l.mono (λ_ _ h=>h) j⟩,rfl⟩
   | agg=>
    obtain⟨arr,q,u⟩:=A;refine⟨some cs.length,cs,tvs a t,b,⟨rfl,co w .agg (tvs a t),?_,l.mono (λ_ _ h=>h) j⟩,rfl⟩;rw[q];have:=ql arr;rw[u]at this;exact this
   | _=>exact b.elim
  | _=>grind
 | cell t T=>
  have e:=h.slot t;simp only[Ab.resOne]at b;split at b
  case h_2=>exact b.elim
  rename_i i J;have L:=n _ _ J;cases B:(i.agg || Nat.beq i.size 1) with
  | false=>grind
  | true=>
   rw[B]at b;simp only[cond_true]at b;cases p:F t with
   | H k cs=>
    rw[p]at b e;cases k with
    | box=>
     simp only at b;cases D:Nat.beq cs.length i.size with
     | false=>grind
     | true=>
      rw[D]at b;have O:=W2 D;obtain⟨E,Y,G,j,H,⟨g,o,q,Q⟩,l⟩:=e;have c:∀d,d<i.size->cel w g (o+d)=some (co w .box (tvs a t) d):=λd R=>by grind [co]
      have f:=wL (w:=w) L B c;refine⟨_,cs,_,b,⟨by grind [pw],_,rfl,l.mono (λ_ _ h=>h) j⟩,?_⟩;have y:a.tmps.getD t undef=.pointer (some ⟨g,o,none⟩):=q;simp only[ES,y,asAddr];exact f
    | _=>exact b.elim
   | _=>grind
def Hz{ag:Option Nat}{cs:List C}{v:Value}{Y:am}(h:bB w S Y ag cs v):∃u,v.cells.toList=(List.range cs.length).map u/\cR w S Y cs u/\v=mkv ag u:=by
 obtain⟨a,u,rfl,b⟩:=h;refine⟨u,?_,b,rfl⟩;rw[qk (λe=>by subst e;exact b.one (by simp at a;omega)),a]
theorem HB{d e:am}{cs a:List C}{u g:Nat->Value}(h:cR w S d cs u)(h':cR w S e a g)(p:∀b o,d b o->¬e b o) :
  cR w S (λb o=>d b o\/e b o) (cs++a) (λj=>if j<cs.length then u j else g (j - cs.length)):=by
 obtain⟨f,q,r,t⟩:=h;obtain⟨i,k,l,n⟩:=h';refine⟨λj=>if j<cs.length then f j else i (j - cs.length),λj c y=>?_,ψ,ψ⟩
 all_goals grind
theorem bg.resA(h:bg w0 M S0 N S φ F a w)(e:∀t i,TE t=some i->hO P t i):∀{p:List ResultVar}{seen:List Nat}{K:List (Option Nat)->List C->Prop},resA TE F p seen K->
  ∃sh cs vs u,K sh cs/\(p.mapM (ES a.tmps)).run P w=.ok vs w/\xo sh vs/\sh.length=p.length/\yC sh=cs.length/\
   (vs.flatMap λv=>v.cells.toList)=(List.range cs.length).map u/\(∀ag,sh=[ag]->∃v,vs=[v]/\bB w S (λb o=>∃t,t∉seen/\φ t b o) ag cs v)/\cR w S (λb o=>∃t,t∉seen/\φ t b o) cs u
 | [],seen,K,c=>⟨[],[],[],λ_=>undef,c,rfl,trivial,rfl,rfl,rfl,ψ,cR.nil _ _ _ _⟩
 | r::p,seen,K,c=>by
  simp only[Ab.resA]at c;cases d:seen.any (Nat.beq (rM r)) with
  | true=>grind
  | false=>
   rw[d]at c;simp only[cond_false]at c;have L:rM r∉seen:=λY=>by grind [Nat.beq_refl]
   obtain⟨ag,cs,v,c,q,G⟩:=h.resOne e c;obtain⟨sh,f,vs,O,Q,y,A,B,R,hcells,-,g⟩:=bg.resA h e c;obtain⟨u,D,H,k⟩:=Hz q;have T:∀b o,φ (rM r) b o->¬∃t,t∉rM r::seen/\φ t b o:=λb o U ⟨t,Z,E⟩=>h.dis _ _ ψ b o U E
   refine⟨ag::sh,cs++f,v::vs,λj=>if j<cs.length then u j else O (j - cs.length),Q,?_,?_,by simp[B],?_,?_,?_,?_⟩
   ·simp_all
   ·obtain⟨V,-⟩:=q
    cases ag with
    | none=>
     refine⟨?_,A⟩;rw[k];have J:(u 0).oneCell'=true:=H.one (by simp at V;omega);show(u 0).cells = #[u 0];cases W:u 0<;>first|(rw[W]at J;cases J;done)|rfl
    | some n=>exact⟨⟨_,by rw[k];rfl,by simp⟩,A⟩
   ·rw[rp,Y3,R,q.1]
   ·simp only[V7,D,hcells,Y3]
    apply List.ext_getElem?
    grind
   ·intro X l
    simp only[List.cons.injEq]at l;obtain⟨rfl,rfl⟩:=l;cases vs with
    | cons _ _=>exact A.elim
    | nil=>
     have:f=[]:=I8 (by simp_all);subst this;exact⟨v,rfl,by rw[List.append_nil];exact q.mono (λ_ _ h=>h) ψ⟩
   exact(HB H g T).mono (λ_ _ h=>h) ψ
theorem tQ:∀{A:List RA}{vs:List Value}(i:Nat),zg w S A vs->∀t,(lay (wj i A) t=.dead)\/(∃a v,i<=t/\vs[t - i]? = some v/\lay (wj i A) t=U2 a/\nD w S a v)
 | [],_,i,_,t=>.inl rfl
 | a::A,[],i,h,t=>h.elim
 | a::A,v::vs,i,h,t=>by
  simp only[wj,lay];cases b:Nat.beq t i with
  | true=>
   have:=W2 b;subst this;exact .inr ⟨a,v,W3 _,by simp,rfl,h.1⟩
  | false=>
   have c:t≠i:=λe=>by simp_all
   rcases tQ (i+1) h.2 t with d|⟨f,g,d,j,k⟩
   all_goals grind
theorem nD.slot{A:RA}{v:Value}(h:nD w S A v){tv:Nat->Value} : cQ w S F tv NO (U2 A) v:=by
 cases A with
 | val f a=>exact bB.slot h
 | ptr a=>obtain⟨g,b,u,c,d,e⟩:=h;exact⟨g,b,u,by rw[c,Nat.add_zero],d,e⟩
 | fn Ok=>exact h
def DA:∀{A:List RA}{vs:List Value},zg w S A vs->A.length=vs.length
 | [],[],_=>rfl
 | _::_,_::_,h=>by simp[DA h.2]
 | [],_::_,h=>h.elim
 | _::_,[],h=>h.elim
variable{ck:Nat->Array Oper->Bool}{rcs: List C}{D: Nat -> Array Oper -> ((Nat -> AV) -> Prop) -> (Nat -> AV) -> Prop}
theorem L2{f : Nat}{d : Func}{c : Code}{sh : Bool}{A : List RA}{k : Kd}(K : ∀t i, TE t = some i -> hO P t i)(hf : P.funcs[f]? = some d)(hn : (d.name == "runtime.NumGoroutine") = false)(p:d.body=some c)(hD:yp P N ck D)(hc:gr ck c=true)(hN:A.length+(d.ntmps - A.length)=N.n)(hkp:N.kp=[])(U:sh=true\/ij rcs)(hp:aw P TE N D c (QT TE d.results.toList k rcs) (lay (wj 0 A))):ay P f sh A k rcs:=by
 refine⟨⟨d,hf,hn,by rw[p];rfl⟩,λw S r hS hA=>?_⟩;have hlen:=DA hA;refine calls_of_wp hf p ?_;have V:St w NO S N (lay (wj 0 A)) {tmps:=r.toArray++Array.replicate (d.ntmps - r.toArray.size) undef,defers:=[]} w:=by
  refine⟨S,λ_=>NO,λt=>?_,λ_ _ _ _ _ h=>h.elim,λ_ _ _ h=>h.elim,λ_ _ _ h=>h.elim,λ_ _ h=>h,ψ,Ca _ _,by simp;omega,rfl,ψ⟩;rcases tQ 0 hA t with y|⟨A0,v,-,B,G,h4⟩
  ·rw[y];trivial
  rw[G];have hv:tvs {tmps:=r.toArray++Array.replicate (d.ntmps - r.toArray.size) undef,defers:=[]} t=v:=by
   have hlt:=(Z2.1 B).1;simp only[tvs,S7]
   grind
  grind [nD.slot]
 refine iN K hD c hc _ _ _ _ w hp V λe F' J g W Z=>?_
 obtain⟨S',φ',h⟩:=Z;have fin:resA TE F' d.results.toList [] (λsh L=>jX (kC sh) k L rcs)->J.defers=[]/\∃v,(results d J.tmps).run P g=.ok v g/\(∃v',Ending.returned v=.returned v'/\bx NO w g/\∃X S1:am,(∀b o,X b o->b<g.heap.size/\w.heap.size<=b)/\
     (∀b o,S1 b o->(sh=true/\S b o)\/(b<g.heap.size/\w.heap.size<=b))/\(∀b o,X b o->¬S1 b o)/\fL g NO k rcs.length v'/\cR g S1 X rcs (co g k v')):=by
  intro hr;obtain⟨shs,L,a,u,M,hrun,q,hln,R,hcells,l,O⟩:=h.resA K hr;obtain⟨rfl,hwk⟩:=M.out;refine⟨h.defers,?_⟩;have H:(results d J.tmps).run P g=.ok (if h:a.toArray.size=1 then a.toArray[0] else .tuple a.toArray) g:=by
   have e:results d J.tmps=(do let r <-d.results.mapM (ES J.tmps);pure (if h:r.size=1 then r[0] else .tuple r)):=by
    unfold results
    congr 1
   rw[e,<-Array.toArray_toList (xs:=d.results),List.mapM_toArray]
   simp_all
  refine⟨_,H,_,rfl,h.old,λb o=>∃t,φ' t b o,λb o=>(sh=true/\S' b o)\/(S' b o/\w.heap.size<=b),λb o ⟨t,p⟩=>⟨(h.ex t b o p).1,(h.ex t b o p).2.resolve_right (λh=>h)⟩,λb o p=>?_,λb o ⟨t,p⟩ hb'=>h.disS t b o p ψ,?_⟩
  ·rcases p with⟨y,B⟩|⟨y,B⟩
   ·rcases(h.sup b o B).2 with G|G|G
    ·grind
    ·exact .inr ⟨(h.sup b o B).1,G⟩
    exact G.elim
   exact .inr ⟨(h.sup b o y).1,B⟩
  have Q:fL g NO (kC shs) L.length (if h:a.toArray.size=1 then a.toArray[0] else .tuple a.toArray)/\cR g S' (λb o=>∃t,φ' t b o) L (co g (kC shs) (if h:a.toArray.size=1 then a.toArray[0] else .tuple a.toArray)):=by
   have E:∀b o,(∃t,t∉([]:List Nat)/\φ' t b o)->∃t,φ' t b o:=ψ
   match shs,q,l,R with
   | [],q,_,R=>
    cases a with
    | cons _ _=>exact q.elim
    | nil=>
     have:L=[]:=ψ
     subst this;exact⟨⟨_,rfl,trivial,rfl⟩,cR.nil _ _ _ _⟩
   | [T],_,l,_=>
    obtain⟨v,rfl,hv⟩:=l T rfl;have:=(hv.mono (λ_ _ h=>h) E).slot (F:=F') (tv:=tvs J);obtain⟨X1,Y,y,B,G,h4,h5⟩:=this;refine⟨?_,h5.mono (λ_ _ h=>h) B⟩;cases T<;>exact h4
   | T::ag2::sh,q,_,R=>
    have hsz:¬a.toArray.size=1:=by
     match a,q with
     | [],q=>simp
     | [v],q=>cases T<;>cases ag2<;>exact q.2.elim
     | _::_::_,_=>simp
    rw[dif_neg hsz];refine⟨⟨_,rfl,q,R⟩,(O.mono (λ_ _ h=>h) E).congr λj hj=>?_⟩;simp only[co,kC,ng,hcells];simp[List.getD,hj]
  replace Q:=CM Q.1 (hwk.row Q.2);refine⟨by grind [WK.len],?_⟩;rcases U with y|y
  ·exact Q.2.mono ψ (λ_ _ h=>h)
  exact(Q.2.fresh y).mono (λ_ _ h=>h.elim) (λ_ _ h=>h)
 cases e with
 | normal=>exact fin W
 | ret=>exact fin W
 | _=>exact W.elim
theorem KM{f t : Nat}{j : Func}{c : Code}{A : List RA}(K : ∀t i, TE t = some i -> hO P t i)(hf : P.funcs[f]? = some j)(hn : (j.name == "runtime.NumGoroutine") = false)(a:j.body=some c)(hD:yp P N ck D)(hc:gr ck c=true)(hN:A.length+(j.ntmps - A.length)=N.n)(hkp:N.kp=[])(hr:j.results = #[.tmp t])(hp:aw P TE N D c (TD t rcs) (lay (wj 0 A))):ru P f true A .box rcs:=by
 refine⟨⟨j,hf,hn,by rw[a];rfl⟩,λw S F hS hA=>?_⟩;have hlen:=DA hA;refine calls_of_wp hf a ?_;have L:St w NO S N (lay (wj 0 A)) {tmps:=F.toArray++Array.replicate (j.ntmps - F.toArray.size) undef,defers:=[]} w:=by
  refine⟨S,λ_=>NO,λt=>?_,λ_ _ _ _ _ h=>h.elim,λ_ _ _ h=>h.elim,λ_ _ _ h=>h.elim,λ_ _ h=>h,ψ,Ca _ _,by simp;omega,rfl,ψ⟩;rcases tQ 0 hA t with G|⟨A0,v,-,H,J,h4⟩
  ·rw[G];trivial
  rw[J];have hv:tvs {tmps:=F.toArray++Array.replicate (j.ntmps - F.toArray.size) undef,defers:=[]} t=v:=by
   have hlt:=(Z2.1 H).1;simp only[tvs,S7]
   grind
  grind [nD.slot]
 refine iN K hD c hc _ _ _ _ w hp L λe F' q k M O=>?_
 obtain⟨S',φ',h⟩:=O;have fin:Ro F' t rcs->q.defers=[]/\∃v,(results j q.tmps).run P k=.ok v k/\(∃Q,Ending.returned v=.returned Q/\bx NO w k/\∃X R:am,(∀b o,X b o->b<k.heap.size/\w.heap.size<=b)/\
     (∀b o,R b o->(true=true/\S b o)\/(b<k.heap.size/\w.heap.size<=b))/\(∀b o,X b o->¬R b o)/\∃r Y:am,(∀b o,r b o->X b o)/\(∀b o,Y b o->X b o)/\(∀b o,r b o->¬Y b o)/\fL k r .box rcs.length Q/\cR k R Y rcs (co k .box Q)):=by
  intro l;have core:∃(d:Nat)(u:List C),tvs q t=tvs q d/\F' d=.H .box u/\jX .box .box u rcs:=by
   unfold Ro at l;split at l
   ·grind
   ·rename_i d T
    split at l
    case h_2=>exact l.elim
    rename_i u y;refine⟨d,u,?_,y,l⟩;have B:=h.slot t;rw[T]at B;obtain⟨k0,cs0,r0,j0,g0,o0,U,-,e3,e4⟩:=B;have E:=h.slot d;rw[y]at E;rw[y]at U;simp only[AV.H.injEq]at U;obtain⟨rfl,rfl⟩:=U;obtain⟨r,Y,G,H,J,⟨g,o,hv,-⟩,h5⟩:=E
    grind [plc,oR]
   exact l.elim
  obtain⟨d,u,V,y,l⟩:=core;have W:=l.out.2;have E:=h.slot d;rw[y]at E;obtain⟨r,Y,G,H,J,h4,h5⟩:=E;refine⟨h.defers,tvs q d,?_,tvs q d,rfl,h.old,φ' d,λb o=>S' b o/\(S b o\/w.heap.size<=b),λb o a=>⟨(h.ex d b o a).1,(h.ex d b o a).2.resolve_right (λh=>h)⟩,λb o a=>?_,λb o a Z=>h.disS d b o a Z.1,r,Y,G,H,J,?_,?_⟩
  ·rw[<-V];simp[results,hr,tvs]
  ·rcases a.2 with p|p
   ·grind
   exact .inr ⟨(h.sup b o a.1).1,p⟩
  ·grind [WK.len]
  exact(W.row h5).mono (λb o a=>⟨a,by
    rcases(h.sup b o a).2 with p|p|p
    · exact .inl p
    · exact .inr p
    exact p.elim⟩) (λ_ _ h=>h)
 cases e with
 | normal=>exact fin M
 | ret=>exact fin M
 | _=>exact M.elim
end
def DF(P:Program)(TE:Nat->Option TI)(N:fm)(tb:List (Nat × Nat × List Nat))(id:Nat)(ops:Array Oper)(K:(Nat->AV)->Prop)(F:Nat->AV):Prop:=
 match xp tb (id+1048576) with
 | some (t,offs)=>t6 t offs (DD P TE N tb id ops K) F
 | none=>DD P TE N tb id ops K F
variable{P:Program}
def rj{TE:Nat->Option TI}(a:∀t i,TE t=some i->hO P t i)(e:P.follows .mixedOrders=true)(N:fm)(tb:List (Nat × Nat × List Nat)):yp P N (ou tb) (DF P TE N tb):=
 λ_ _ b _ _ _ _ _ _ _ _ c f g=>by
  unfold DF at c;split at c
  ·obtain⟨j,h,d⟩:=wS c f
   exact y1 a e b h d g
  exact y1 a e b c f g
def JG:List (Nat × TI)->Nat->Option TI
 | [],_=>none
 | p::l,t=>bif Nat.beq t p.1 then some p.2 else JG l t
def Tk(P:Program):List (Nat × TI)->Prop
 | []=>True
 | p::l=>hO P p.1 p.2/\Tk P l
def Fj{P:Program} : ∀{l:List (Nat × TI)},Tk P l->∀t i,JG l t=some i->hO P t i
 | [],_,t,i,h=>by cases h
 | p::l,b,t,i,h=>by
  simp only[JG]at h;cases a:Nat.beq t p.1 with
  | true=>
   rw[a]at h;simp only[cond_true,C1]at h;have:=W2 a;subst this h;exact b.1
  | false=>rw[a]at h;exact Fj b.2 t i h
def Ur:TypeDesc->Prop
 | .struct _=>False
 | .array _ _=>False
 | _=>True
variable{t:Nat}
def DI{i:TI}{d:TypeDesc}(h:P.underlying t=some d)(k:i.kind=.sc d:=by rfl)(a:(P.info? t).map (λx=>(x.zero.map (·.cells.toList),x.size,x.bytes))=some (some (i.zero.map cval),i.size,i.bytes):=by kernel_rfl)(z:ku i.zero:=by repeat' first|exact trivial|refine CM rfl ?_)(n:Ur d:=by trivial):hO P t i:=⟨a,z,by rw[k];refine⟨h,?_⟩;revert n;cases d<;>exact id⟩
def uy{e:Nat}{i:TI}(h:P.underlying t=some (.slice e))(k:i.kind=.sl e:=by rfl)(a:(P.info? t).map (λx=>(x.zero.map (·.cells.toList),x.size,x.bytes))=some (some (i.zero.map cval),i.size,i.bytes):=by kernel_rfl)(z:ku i.zero:=by repeat' first|exact trivial|refine CM rfl ?_):hO P t i:=⟨a,z,by rw[k];exact h⟩
def fB{i:TI}{fs}(h:P.underlying t=some (.struct fs))(k:i.kind=.st (fs.toList.map (λf=>(f.offset,f.type))):=by rfl)(a:(P.info? t).map (λx=>(x.zero.map (·.cells.toList),x.size,x.bytes))=some (some (i.zero.map cval),i.size,i.bytes):=by kernel_rfl)(z:ku i.zero:=by repeat' first|exact trivial|refine CM rfl ?_):hO P t i:=⟨a,z,by rw[k];exact⟨_,h,rfl⟩⟩
def U7{e:Nat}{i:TI}{v:Value}(h:P.underlying t=some (.map 3 e))(d:P.underlying 3=some (.int .i64))(k:i.kind=.mp 3 e v:=by rfl)(a:(P.info? t).map (λx=>(x.zero.map (·.cells.toList),x.size,x.bytes))=some (some (i.zero.map cval),i.size,i.bytes):=by kernel_rfl)(z:ku i.zero:=by repeat' first|exact trivial|refine CM rfl ?_)(b:(P.info? e).bind (·.zero)=some v:=by kernel_rfl)(c:v.oneCell'=true:=by rfl):hO P t i:=⟨a,z,by rw[k];exact⟨h,d,b,c⟩⟩
def ti3:TI:=⟨1,8,[.v (.int .i64 0)],.sc (.int .i64)⟩
def ti4:TI:=⟨1,1,[.v (.bool false)],.sc .bool⟩
def ti2:TI:=⟨1,8,[.v (.int .i64 0)],.sc (.int .i64)⟩
def ti5:TI:=⟨1,1,[.v (.int .u8 0)],.sc (.int .u8)⟩
def ti6:TI:=⟨1,1,[.v (.int .u8 0)],.sc (.int .u8)⟩
def ti7:TI:=⟨4,24,[.v (.int .i64 0),.v (.int .i64 0),.v (.bool false),.v (.int .u8 0)],.st [(0,2),(1,3),(2,4),(3,6)]⟩
def ti8:TI:=⟨4,24,[.v (.int .i64 0),.v (.int .i64 0),.v (.bool false),.v (.int .u8 0)],.st [(0,2),(1,3),(2,4),(3,6)]⟩
def ti9:TI:=⟨1,16,[.v (.string ⟨#[]⟩)],.sc .string⟩
def ti10:TI:=⟨1,16,[.v (.string ⟨#[]⟩)],.sc .string⟩
def ti11:TI:=⟨1,16,[.v (.string ⟨#[]⟩)],.sc .string⟩
def ti12:TI:=⟨1,8,[.v (.int .u64 0)],.sc (.int .u64)⟩
def ti13:TI:=⟨2,24,[.v (.string ⟨#[]⟩),.v (.int .u64 0)],.st [(0,9),(1,12)]⟩
def ti14:TI:=⟨2,24,[.v (.string ⟨#[]⟩),.v (.int .u64 0)],.st [(0,9),(1,12)]⟩
def ti21:TI:=⟨1,4,[.v (.int .i32 0)],.sc (.int .i32)⟩
def ti22:TI:=⟨1,24,[.z],.sl 5⟩
def ti24:TI:=⟨1,24,[.z],.sl 33⟩
def ti25:TI:=⟨1,24,[.z],.sl 4⟩
def ti26:TI:=⟨2,48,[.z,.z],.st [(0,24),(1,25)]⟩
def ti27:TI:=⟨2,48,[.z,.z],.st [(0,24),(1,25)]⟩
def ti28:TI:=⟨1,24,[.z],.sl 82⟩
def ti29:TI:=⟨1,24,[.z],.st [(0,28)]⟩
def ti30:TI:=⟨1,24,[.z],.st [(0,28)]⟩
def ti31:TI:=⟨3,72,[.z,.z,.z],.st [(0,27),(2,30)]⟩
def ti32:TI:=⟨3,72,[.z,.z,.z],.st [(0,27),(2,30)]⟩
def ti33:TI:=⟨1,24,[.z],.sl 3⟩
def ti34:TI:=⟨5,104,[.z,.z,.z,.v (.int .i64 0),.z],.st [(0,32),(3,3),(4,33)]⟩
def ti35:TI:=⟨5,104,[.z,.z,.z,.v (.int .i64 0),.z],.st [(0,32),(3,3),(4,33)]⟩
def ti36:TI:=⟨1,24,[.z],.sl 180⟩
def ti37:TI:=⟨1,24,[.z],.sl 267⟩
def ti38:TI:=⟨1,24,[.z],.sl 175⟩
def ti39:TI:=⟨1,24,[.z],.sl 74⟩
def ti40:TI:=⟨1,24,[.z],.sl 158⟩
def ti41:TI:=⟨1,24,[.z],.sl 192⟩
def ti42:TI:=⟨2,48,[.z,.z],.st [(0,41),(1,24)]⟩
def ti43:TI:=⟨2,48,[.z,.z],.st [(0,41),(1,24)]⟩
def ti44:TI:=⟨1,24,[.z],.sl 190⟩
def ti45:TI:=⟨2,32,[.v (.int .i64 0),.z],.st [(0,3),(1,44)]⟩
def ti46:TI:=⟨2,32,[.v (.int .i64 0),.z],.st [(0,3),(1,44)]⟩
def ti47:TI:=⟨3,40,[.v (.int .i64 0),.v (.int .i64 0),.z],.st [(0,3),(1,3),(2,33)]⟩
def ti48:TI:=⟨3,40,[.v (.int .i64 0),.v (.int .i64 0),.z],.st [(0,3),(1,3),(2,33)]⟩
def ti49:TI:=⟨5,56,[.v (.int .i64 0),.v (.int .i64 0),.z,.v (.int .i64 0),.v (.int .i64 0)],.st [(0,48),(3,3),(4,3)]⟩
def ti50:TI:=⟨5,56,[.v (.int .i64 0),.v (.int .i64 0),.z,.v (.int .i64 0),.v (.int .i64 0)],.st [(0,48),(3,3),(4,3)]⟩
def ti51:TI:=⟨24,400,[.z,.z,.z,.v (.int .i64 0),.z,.z,.z,.z,.z,.z,.z,.z,.v (.int .i64 0),.z,.v (.int .i64 0),.v (.int .i64 0),.v (.int .i64 0),.v (.int .i64 0),.v (.bool false),.v (.int .i64 0),.v (.int .i64 0),.z,.v (.int .i64 0),.v (.int .i64 0)],.st [(0,35),(5,36),(6,37),(7,38),(8,39),(9,40),(10,43),(12,46),(14,3),(15,3),(16,3),(17,3),(18,4),(19,50)]⟩
def ti52:TI:=⟨24,400,[.z,.z,.z,.v (.int .i64 0),.z,.z,.z,.z,.z,.z,.z,.z,.v (.int .i64 0),.z,.v (.int .i64 0),.v (.int .i64 0),.v (.int .i64 0),.v (.int .i64 0),.v (.bool false),.v (.int .i64 0),.v (.int .i64 0),.z,.v (.int .i64 0),.v (.int .i64 0)],.st [(0,35),(5,36),(6,37),(7,38),(8,39),(9,40),(10,43),(12,46),(14,3),(15,3),(16,3),(17,3),(18,4),(19,50)]⟩
def ti53:TI:=⟨1,24,[.z],.sl 325⟩
def ti54:TI:=⟨2,32,[.v (.int .i64 0),.z],.st [(0,3),(1,53)]⟩
def ti55:TI:=⟨2,32,[.v (.int .i64 0),.z],.st [(0,3),(1,53)]⟩
def ti56:TI:=⟨26,432,[.z,.z,.z,.v (.int .i64 0),.z,.z,.z,.z,.z,.z,.z,.z,.v (.int .i64 0),.z,.v (.int .i64 0),.v (.int .i64 0),.v (.int .i64 0),.v (.int .i64 0),.v (.bool false),.v (.int .i64 0),.v (.int .i64 0),.z,.v (.int .i64 0),.v (.int .i64 0),.v (.int .i64 0),.z],.st [(0,52),(24,55)]⟩
def ti57:TI:=⟨26,432,[.z,.z,.z,.v (.int .i64 0),.z,.z,.z,.z,.z,.z,.z,.z,.v (.int .i64 0),.z,.v (.int .i64 0),.v (.int .i64 0),.v (.int .i64 0),.v (.int .i64 0),.v (.bool false),.v (.int .i64 0),.v (.int .i64 0),.z,.v (.int .i64 0),.v (.int .i64 0),.v (.int .i64 0),.z],.st [(0,52),(24,55)]⟩
def ti73:TI:=⟨4,32,[.v (.int .i64 0),.v (.int .i64 0),.v (.int .i64 0),.v (.int .i64 0)],.st [(0,3),(1,3),(2,3),(3,3)]⟩
def ti74:TI:=⟨4,32,[.v (.int .i64 0),.v (.int .i64 0),.v (.int .i64 0),.v (.int .i64 0)],.st [(0,3),(1,3),(2,3),(3,3)]⟩
def ti77:TI:=⟨1,24,[.z],.sl 168⟩
def ti81:TI:=⟨2,16,[.v (.int .i64 0),.v (.int .i64 0)],.st [(0,3),(1,3)]⟩
def ti82:TI:=⟨2,16,[.v (.int .i64 0),.v (.int .i64 0)],.st [(0,3),(1,3)]⟩
def ti86:TI:=⟨5,56,[.v (.int .i64 0),.v (.int .i64 0),.v (.int .i64 0),.v (.int .i64 0),.z],.st [(0,3),(1,3),(2,3),(3,3),(4,33)]⟩
def ti87:TI:=⟨5,56,[.v (.int .i64 0),.v (.int .i64 0),.v (.int .i64 0),.v (.int .i64 0),.z],.st [(0,3),(1,3),(2,3),(3,3),(4,33)]⟩
def ti88:TI:=⟨1,24,[.z],.sl 199⟩
def ti97:TI:=⟨2,48,[.z,.z],.st [(0,24),(1,25)]⟩
def ti98:TI:=⟨1,24,[.z],.sl 515⟩
def ti99:TI:=⟨1,24,[.z],.st [(0,98)]⟩
def ti100:TI:=⟨1,24,[.z],.st [(0,98)]⟩
def ti101:TI:=⟨3,72,[.z,.z,.z],.st [(0,97),(2,100)]⟩
def ti102:TI:=⟨3,72,[.z,.z,.z],.st [(0,97),(2,100)]⟩
def ti103:TI:=⟨5,104,[.z,.z,.z,.v (.int .i64 0),.z],.st [(0,102),(3,3),(4,33)]⟩
def ti104:TI:=⟨5,104,[.z,.z,.z,.v (.int .i64 0),.z],.st [(0,102),(3,3),(4,33)]⟩
def ti105:TI:=⟨1,24,[.z],.sl 343⟩
def ti106:TI:=⟨1,24,[.z],.sl 345⟩
def ti107:TI:=⟨1,24,[.z],.sl 347⟩
def ti108:TI:=⟨1,24,[.z],.sl 349⟩
def ti109:TI:=⟨1,24,[.z],.sl 336⟩
def ti110:TI:=⟨1,24,[.z],.sl 436⟩
def ti111:TI:=⟨2,48,[.z,.z],.st [(0,110),(1,24)]⟩
def ti112:TI:=⟨2,48,[.z,.z],.st [(0,110),(1,24)]⟩
def ti113:TI:=⟨1,24,[.z],.sl 441⟩
def ti114:TI:=⟨2,32,[.v (.int .i64 0),.z],.st [(0,3),(1,113)]⟩
def ti115:TI:=⟨2,32,[.v (.int .i64 0),.z],.st [(0,3),(1,113)]⟩
def ti116:TI:=⟨3,40,[.v (.int .i64 0),.v (.int .i64 0),.z],.st [(0,3),(1,3),(2,33)]⟩
def ti117:TI:=⟨5,56,[.v (.int .i64 0),.v (.int .i64 0),.z,.v (.int .i64 0),.v (.int .i64 0)],.st [(0,116),(3,3),(4,3)]⟩
def ti118:TI:=⟨5,56,[.v (.int .i64 0),.v (.int .i64 0),.z,.v (.int .i64 0),.v (.int .i64 0)],.st [(0,116),(3,3),(4,3)]⟩
def ti119:TI:=⟨24,400,[.z,.z,.z,.v (.int .i64 0),.z,.z,.z,.z,.z,.z,.z,.z,.v (.int .i64 0),.z,.v (.int .i64 0),.v (.int .i64 0),.v (.int .i64 0),.v (.int .i64 0),.v (.bool false),.v (.int .i64 0),.v (.int .i64 0),.z,.v (.int .i64 0),.v (.int .i64 0)],.st [(0,104),(5,105),(6,106),(7,107),(8,108),(9,109),(10,112),(12,115),(14,3),(15,3),(16,3),(17,3),(18,4),(19,118)]⟩
def ti120:TI:=⟨24,400,[.z,.z,.z,.v (.int .i64 0),.z,.z,.z,.z,.z,.z,.z,.z,.v (.int .i64 0),.z,.v (.int .i64 0),.v (.int .i64 0),.v (.int .i64 0),.v (.int .i64 0),.v (.bool false),.v (.int .i64 0),.v (.int .i64 0),.z,.v (.int .i64 0),.v (.int .i64 0)],.st [(0,104),(5,105),(6,106),(7,107),(8,108),(9,109),(10,112),(12,115),(14,3),(15,3),(16,3),(17,3),(18,4),(19,118)]⟩
def ti126:TI:=⟨5,56,[.v (.int .i64 0),.v (.int .i64 0),.v (.int .i64 0),.v (.int .i64 0),.z],.st [(0,3),(1,3),(2,3),(3,3),(4,33)]⟩
def ti127:TI:=⟨1,24,[.z],.sl 254⟩
def ti157:TI:=⟨1,24,[.z],.st [(0,24)]⟩
def ti158:TI:=⟨1,24,[.z],.st [(0,24)]⟩
def ti167:TI:=⟨3,24,[.v (.int .i64 0),.v (.int .i64 0),.v (.int .i64 0)],.st [(0,3),(1,3),(2,3)]⟩
def ti168:TI:=⟨3,24,[.v (.int .i64 0),.v (.int .i64 0),.v (.int .i64 0)],.st [(0,3),(1,3),(2,3)]⟩
def ti174:TI:=⟨3,24,[.v (.int .i64 0),.v (.int .i64 0),.v (.int .i64 0)],.st [(0,3),(1,3),(2,3)]⟩
def ti175:TI:=⟨3,24,[.v (.int .i64 0),.v (.int .i64 0),.v (.int .i64 0)],.st [(0,3),(1,3),(2,3)]⟩
def ti179:TI:=⟨2,16,[.v (.int .i64 0),.v (.int .i64 0)],.st [(0,3),(1,3)]⟩
def ti180:TI:=⟨2,16,[.v (.int .i64 0),.v (.int .i64 0)],.st [(0,3),(1,3)]⟩
def ti185:TI:=⟨2,16,[.v (.int .i64 0),.v (.int .i64 0)],.st [(0,3),(1,3)]⟩
def ti186:TI:=⟨2,16,[.v (.int .i64 0),.v (.int .i64 0)],.st [(0,3),(1,3)]⟩
def ti189:TI:=⟨3,24,[.v (.int .i64 0),.v (.int .i64 0),.v (.int .i64 0)],.st [(0,3),(1,3),(2,3)]⟩
def ti190:TI:=⟨3,24,[.v (.int .i64 0),.v (.int .i64 0),.v (.int .i64 0)],.st [(0,3),(1,3),(2,3)]⟩
def ti192:TI:=⟨1,24,[.z],.sl 186⟩
def ti198:TI:=⟨5,40,[.v (.int .i64 0),.v (.int .i64 0),.v (.int .i64 0),.v (.int .i64 0),.v (.int .i64 0)],.st [(0,3),(1,3),(2,3),(3,3),(4,3)]⟩
def ti199:TI:=⟨5,40,[.v (.int .i64 0),.v (.int .i64 0),.v (.int .i64 0),.v (.int .i64 0),.v (.int .i64 0)],.st [(0,3),(1,3),(2,3),(3,3),(4,3)]⟩
def ti210:TI:=⟨8,64,[.v (.int .i64 0),.v (.int .i64 0),.v (.int .i64 0),.v (.int .i64 0),.v (.int .i64 0),.v (.int .i64 0),.v (.int .i64 0),.v (.int .i64 0)],.st [(0,3),(1,3),(2,3),(3,3),(4,3),(5,3),(6,3),(7,3)]⟩
def ti211:TI:=⟨8,64,[.v (.int .i64 0),.v (.int .i64 0),.v (.int .i64 0),.v (.int .i64 0),.v (.int .i64 0),.v (.int .i64 0),.v (.int .i64 0),.v (.int .i64 0)],.st [(0,3),(1,3),(2,3),(3,3),(4,3),(5,3),(6,3),(7,3)]⟩
def ti254:TI:=⟨5,40,[.v (.int .i64 0),.v (.int .i64 0),.v (.int .i64 0),.v (.int .i64 0),.v (.int .i64 0)],.st [(0,3),(1,3),(2,3),(3,3),(4,3)]⟩
def ti256:TI:=⟨3,40,[.z,.v (.int .i64 0),.v (.int .i64 0)],.st [(0,22),(1,3),(2,3)]⟩
def ti257:TI:=⟨3,40,[.z,.v (.int .i64 0),.v (.int .i64 0)],.st [(0,22),(1,3),(2,3)]⟩
def ti266:TI:=⟨3,24,[.v (.int .i64 0),.v (.int .i64 0),.v (.int .i64 0)],.st [(0,3),(1,3),(2,3)]⟩
def ti267:TI:=⟨3,24,[.v (.int .i64 0),.v (.int .i64 0),.v (.int .i64 0)],.st [(0,3),(1,3),(2,3)]⟩
def ti281:TI:=⟨1,8,[.v (.map none)],.mp 3 4 (.bool false)⟩
def ti289:TI:=⟨4,32,[.v (.int .i64 0),.v (.int .i64 0),.v (.int .i64 0),.v (.int .i64 0)],.st [(0,3),(1,3),(2,3),(3,3)]⟩
def ti290:TI:=⟨4,32,[.v (.int .i64 0),.v (.int .i64 0),.v (.int .i64 0),.v (.int .i64 0)],.st [(0,3),(1,3),(2,3),(3,3)]⟩
def ti292:TI:=⟨1,8,[.v (.map none)],.mp 3 3 (.int .i64 0)⟩
def ti304:TI:=⟨1,8,[.v (.int .u64 0)],.sc (.int .u64)⟩
def ti324:TI:=⟨2,32,[.v (.int .i64 0),.z],.st [(0,3),(1,33)]⟩
def ti325:TI:=⟨2,32,[.v (.int .i64 0),.z],.st [(0,3),(1,33)]⟩
def ti336:TI:=⟨1,24,[.z],.st [(0,24)]⟩
def ti343:TI:=⟨2,16,[.v (.int .i64 0),.v (.int .i64 0)],.st [(0,3),(1,3)]⟩
def ti345:TI:=⟨3,24,[.v (.int .i64 0),.v (.int .i64 0),.v (.int .i64 0)],.st [(0,3),(1,3),(2,3)]⟩
def ti347:TI:=⟨3,24,[.v (.int .i64 0),.v (.int .i64 0),.v (.int .i64 0)],.st [(0,3),(1,3),(2,3)]⟩
def ti349:TI:=⟨4,32,[.v (.int .i64 0),.v (.int .i64 0),.v (.int .i64 0),.v (.int .i64 0)],.st [(0,3),(1,3),(2,3),(3,3)]⟩
def ti398:TI:=⟨1,24,[.z],.sl 404⟩
def ti403:TI:=⟨2,16,[.v (.int .i64 0),.v (.int .i64 0)],.st [(0,3),(1,3)]⟩
def ti404:TI:=⟨2,16,[.v (.int .i64 0),.v (.int .i64 0)],.st [(0,3),(1,3)]⟩
def ti408:TI:=⟨1,8,[.v (.int .i64 0)],.sc (.int .i64)⟩
def ti415:TI:=⟨1,4,[.v (.int .u32 0)],.sc (.int .u32)⟩
def ti417:TI:=⟨1,8,[.v (.int .u64 0)],.sc (.int .u64)⟩
def ti436:TI:=⟨1,24,[.z],.sl 491⟩
def ti441:TI:=⟨3,24,[.v (.int .i64 0),.v (.int .i64 0),.v (.int .i64 0)],.st [(0,3),(1,3),(2,3)]⟩
def ti470:TI:=⟨1,8,[.v (.int .u64 0)],.sc (.int .u64)⟩
def ti491:TI:=⟨2,16,[.v (.int .i64 0),.v (.int .i64 0)],.st [(0,3),(1,3)]⟩
def ti515:TI:=⟨2,16,[.v (.int .i64 0),.v (.int .i64 0)],.st [(0,3),(1,3)]⟩
def ti528:TI:=⟨0,0,[],.st [(0,527)]⟩
def ti529:TI:=⟨0,0,[],.st [(0,527)]⟩
def ti531:TI:=⟨1,1,[.v (.int .u8 0)],.sc (.int .u8)⟩
def ti532:TI:=⟨1,1,[.v (.int .u8 0)],.sc (.int .u8)⟩
def ti535:TI:=⟨1,4,[.v (.int .i32 0)],.sc (.int .i32)⟩
def ti536:TI:=⟨1,4,[.v (.int .i32 0)],.sc (.int .i32)⟩
def tab:List (Nat × TI):=[(3,ti3),(4,ti4),(2,ti2),(5,ti5),(6,ti6),(7,ti7),(8,ti8),(9,ti9),(10,ti10),(11,ti11),(12,ti12),(13,ti13),(14,ti14),(21,ti21),(22,ti22),(24,ti24),(25,ti25),(26,ti26),(27,ti27),(28,ti28),(29,ti29),(30,ti30),(31,ti31),(32,ti32),(33,ti33),(34,ti34),(35,ti35),(36,ti36),(37,ti37),(38,ti38),(39,ti39),(40,ti40),(41,ti41),(42,ti42),(43,ti43),(44,ti44),(45,ti45),(46,ti46),(47,ti47),(48,ti48),(49,ti49),(50,ti50),(51,ti51),(52,ti52),(53,ti53),(54,ti54),(55,ti55),(56,ti56),(57,ti57),(73,ti73),(74,ti74),(77,ti77),(81,ti81),(82,ti82),(86,ti86),(87,ti87),(88,ti88),(97,ti97),(98,ti98),(99,ti99),(100,ti100),(101,ti101),(102,ti102),(103,ti103),(104,ti104),(105,ti105),(106,ti106),(107,ti107),(108,ti108),(109,ti109),(110,ti110),(111,ti111),(112,ti112),(113,ti113),(114,ti114),(115,ti115),(116,ti116),(117,ti117),(118,ti118),(119,ti119),(120,ti120),(126,ti126),(127,ti127),(157,ti157),(158,ti158),(167,ti167),(168,ti168),(174,ti174),(175,ti175),(179,ti179),(180,ti180),(185,ti185),(186,ti186),(189,ti189),(190,ti190),(192,ti192),(198,ti198),(199,ti199),(210,ti210),(211,ti211),(254,ti254),(256,ti256),(257,ti257),(266,ti266),(267,ti267),(281,ti281),(289,ti289),(290,ti290),(292,ti292),(304,ti304),(324,ti324),(325,ti325),(336,ti336),(343,ti343),(345,ti345),(347,ti347),(349,ti349),(398,ti398),(403,ti403),(404,ti404),(408,ti408),(415,ti415),(417,ti417),(436,ti436),(441,ti441),(470,ti470),(491,ti491),(515,ti515),(528,ti528),(529,ti529),(531,ti531),(532,ti532),(535,ti535),(536,ti536)]
abbrev zzA:=ay Tryz.prog
abbrev zzB:=aP Tryz.prog
def Ti:Tk Tryz.prog tab:=⟨DI Tryz.underlying3,DI Tryz.underlying4,DI Tryz.underlying2,DI Tryz.underlying5,DI Tryz.underlying6,fB Tryz.underlying7,fB Tryz.underlying8,DI Tryz.underlying9,DI Tryz.underlying10,DI Tryz.underlying11,DI Tryz.underlying12,fB Tryz.underlying13,fB Tryz.underlying14,DI Tryz.underlying21,uy Tryz.underlying22,uy Tryz.underlying24,uy Tryz.underlying25,fB Tryz.underlying26,fB Tryz.underlying27,uy Tryz.underlying28,fB Tryz.underlying29,fB Tryz.underlying30,fB Tryz.underlying31,fB Tryz.underlying32,uy Tryz.underlying33,fB Tryz.underlying34,fB Tryz.underlying35,uy Tryz.underlying36,uy Tryz.underlying37,uy Tryz.underlying38,uy Tryz.underlying39,uy Tryz.underlying40,uy Tryz.underlying41,fB Tryz.underlying42,fB Tryz.underlying43,uy Tryz.underlying44,fB Tryz.underlying45,fB Tryz.underlying46,fB Tryz.underlying47,fB Tryz.underlying48,fB Tryz.underlying49,fB Tryz.underlying50,fB Tryz.underlying51,fB Tryz.underlying52,uy Tryz.underlying53,fB Tryz.underlying54,fB Tryz.underlying55,fB Tryz.underlying56,fB Tryz.underlying57,fB Tryz.underlying73,fB Tryz.underlying74,uy Tryz.underlying77,fB Tryz.underlying81,fB Tryz.underlying82,fB Tryz.underlying86,fB Tryz.underlying87,uy Tryz.underlying88,fB Tryz.underlying97,uy Tryz.underlying98,fB Tryz.underlying99,fB Tryz.underlying100,fB Tryz.underlying101,fB Tryz.underlying102,fB Tryz.underlying103,fB Tryz.underlying104,uy Tryz.underlying105,uy Tryz.underlying106,uy Tryz.underlying107,uy Tryz.underlying108,uy Tryz.underlying109,uy Tryz.underlying110,fB Tryz.underlying111,fB Tryz.underlying112,uy Tryz.underlying113,fB Tryz.underlying114,fB Tryz.underlying115,fB Tryz.underlying116,fB Tryz.underlying117,fB Tryz.underlying118,fB Tryz.underlying119,fB Tryz.underlying120,fB Tryz.underlying126,uy Tryz.underlying127,fB Tryz.underlying157,fB Tryz.underlying158,fB Tryz.underlying167,fB Tryz.underlying168,fB Tryz.underlying174,fB Tryz.underlying175,fB Tryz.underlying179,fB Tryz.underlying180,fB Tryz.underlying185,fB Tryz.underlying186,fB Tryz.underlying189,fB Tryz.underlying190,uy Tryz.underlying192,fB Tryz.underlying198,fB Tryz.underlying199,fB Tryz.underlying210,fB Tryz.underlying211,fB Tryz.underlying254,fB Tryz.underlying256,fB Tryz.underlying257,fB Tryz.underlying266,fB Tryz.underlying267,U7 Tryz.underlying281 Tryz.underlying3,fB Tryz.underlying289,fB Tryz.underlying290,U7 Tryz.underlying292 Tryz.underlying3,DI Tryz.underlying304,fB Tryz.underlying324,fB Tryz.underlying325,fB Tryz.underlying336,fB Tryz.underlying343,fB Tryz.underlying345,fB Tryz.underlying347,fB Tryz.underlying349,uy Tryz.underlying398,fB Tryz.underlying403,fB Tryz.underlying404,DI Tryz.underlying408,DI Tryz.underlying415,DI Tryz.underlying417,uy Tryz.underlying436,fB Tryz.underlying441,DI Tryz.underlying470,fB Tryz.underlying491,fB Tryz.underlying515,fB Tryz.underlying528,fB Tryz.underlying529,DI Tryz.underlying531,DI Tryz.underlying532,DI Tryz.underlying535,DI Tryz.underlying536,trivial⟩
def TE:Nat->Option TI:=JG tab
def qN:∀t i,TE t=some i->hO Tryz.prog t i:=Fj Ti
def Tr:C->Value->C
 | .s .own rows,v=>.s (.tag v) rows
 | c,_=>c
def Ah(u:Nat->Value):Nat->List C->List C
 | _,[]=>[]
 | j,c::cs=>Tr c (u j)::Ah u (j+1) cs
def yS(u:Nat->Nat->Value):Nat->List MA->List (Nat × AV)
 | _,[]=>[]
 | i,.val a cs::A=>(i,.H (lQ a) cs)::yS u (i+1) A
 | i,.mut a cs::A=>(i,.H (lQ a) (Ah (u i) 0 cs))::yS u (i+1) A
 | i,.ptr cs::A=>(i,.H .box cs)::yS u (i+1) A
def KD(p:Nat->Value):Nat->List MA->List (Nat × Value)
 | _,[]=>[]
 | i,.ptr _::A=>(i,p i)::KD p (i+1) A
 | i,_::A=>KD p (i+1) A
def ED:Nat->List MA->List (Nat × Nat)->List (Option Nat)
 | i,.val _ _::A,_::pl=>none::ED (i+1) A pl
 | i,.mut _ _::A,p::pl=>some p.1::ED (i+1) A pl
 | i,.ptr _::A,_::pl=>some i::ED (i+1) A pl
 | _,_,_=>[]
def Jc:List (Option Nat)->Bool
 | []=>true
 | none::l=>Jc l
 | some t::l=>l.all (λx=>match x with|some a=>!Nat.beq t a|none=>true)&&Jc l
def sles:List (Option Nat)->List Nat
 | []=>[]
 | none::l=>sles l
 | some t::l=>t::sles l
def U0(v:Value)(c y o:C):Prop:=
 match c with
 | .s .own _=>(match y with|.s (.tag v') rows=>v'=v/\o=.s .own rows|_=>False)
 | .s (.tag _) _=>False
 | .m _=>False
 | .it _ _=>False
 | c=>o=c
def R0(u:Nat->Value):Nat->List C->List C->List C->Prop
 | _,[],_,o=>o=[]
 | j,c::cs,y::xs,o::os=>U0 (u j) c y o/\R0 u (j+1) cs xs os
 | _,_,_,_=>False
def iF(u:Nat->Nat->Value)(F:Nat->AV):Nat->List MA->List (Nat × Nat)->List MA->Prop
 | _,[],_,[]=>True
 | i,.val _ _::A,_::pl,.val _ _::B=>iF u F (i+1) A pl B
 | i,.mut ag cs::A,p::pl,.mut a out::B=>(a=ag/\match F p.1 with|.H _ xs=>R0 (u i) 0 cs (xs.drop p.2) out|_=>False)/\iF u F (i+1) A pl B
 | i,.ptr _::A,_::pl,.ptr out::B=>(match F i with|.H .box xs=>xs=out|_=>False)/\iF u F (i+1) A pl B
 | _,_,_,_=>False
inductive aW(k k':Kd)(cs cs':List C)(Q:Prop):Prop
 |mk_ (h:k=k'/\cs=cs'/\Q)
theorem aW.mk{b:Kd}{Q:Prop}(h1:k=b)(c:cs=a)(d:Q):aW k b cs a Q:=by refine .mk_ ?_;grind
def CH:type_of% @aW.mk:=@aW.mk
def aW.out{b:Kd}{Q:Prop}(h:aW k b cs a Q):k=b/\cs=a/\Q:=by obtain⟨h⟩:=h;exact h
def RB(TE:Nat->Option TI)(d:List ResultVar)(k:Kd)(rcs:List C)(u:Nat->Nat->Value)(A B:List MA)(a:List (Nat × Nat)):Exit->(Nat->AV)->Prop:=λe F=>
 match e with
 | .normal=>resA TE F d (sles (ED 0 A a)) λb c=>aW (kC b) k c rcs (iF u F 0 A a B)
 | .ret=>resA TE F d (sles (ED 0 A a)) λb c=>aW (kC b) k c rcs (iF u F 0 A a B)
 | _=>False
section
variable{P:Program}{w0 w w1:World}{M S0 S:am}{N:fm}{φ:Nat->am}{F:Nat->AV}{a:Act}{TE:Nat->Option TI}
theorem dM.tag{Y:am}{c:C}{v:Value}(h:dM w S Y c v):dM w S Y (Tr c v) v:=by
 cases h with
 | nil _ o a B=>cases o with
  | own=>exact .nil _ _ _ rfl
  | _=>exact .nil _ _ _ B
 | own _ o g k n l e u f B D E i p t K L M y=>cases o with
  | own=>exact .own _ _ g k n l e u f rfl D E i p t K L M y
  | V=>exact B.elim
  | tag z=>exact .own _ _ g k n l e u f B D E i p t K L M y
 | v _ x F=>exact .v _ _ F
 | x _ u F=>exact .x _ _ F
 | z _ a=>exact .z _ _
 | V _ g G k n l e u D E i N y=>exact .V _ g G k n l e u D E i N y
 | m _ b d O j t H P J q=>exact .m _ b d O j t H P J q
 | it _ r b since Q d seen j cur left t R H q y J T A=>exact .it _ r b since Q d seen j cur left t R H q y J T A
def dM.untag{Y:am}{z v:Value}{rows:List (List C)}(h:dM w S Y (.s (.tag z) rows) v):v=z/\dM w S Y (.s .own rows) v:=by
 cases h with
 | nil _ o a d=>exact⟨Eq.symm d,.nil _ _ _ trivial⟩
 | own _ o g k n e rows u f d i j b c l p q r t=>exact⟨Eq.symm d,.own _ _ g k n e rows u f trivial i j b c l p q r t⟩
theorem oU(u:Nat->Value):∀(j:Nat)(cs:List C),(Ah u j cs).length=cs.length
 | _,[]=>rfl
 | j,c::cs=>by simp[Ah,oU u (j+1) cs]
theorem Gv(u:Nat->Value):∀(a:Nat)(cs:List C)(j:Nat),(Ah u a cs)[j]? = (cs[j]?).map λc=>Tr c (u (a+j))
 | _,[],j=>by simp[Ah]
 | a,c::cs,0=>by simp[Ah]
 | a,c::cs,j+1=>by simp only[Ah,List.getElem?_cons_succ];rw[Gv u (a+1) cs j,show a+1+j=a+(j+1) by omega]
variable{u:Nat->Value}
theorem cR.tag{Y:am}{cs:List C}(h:cR w S Y cs u):cR w S Y (Ah u 0 cs) u:=by
 obtain⟨f,i,b,d⟩:=h;refine⟨f,λj c a=>?_,λj a=>b j (by grind [oU]),λj e a g=>d j e (by grind [oU]) (by grind [oU])⟩
 grind [Gv,dM.tag]
def celF(v:Value)(j:Nat):Value:=v.cells.toList.getD j undef
def bB.celF{Y:am}{ag:Option Nat}{cs:List C}{v:Value}(h:bB w S Y ag cs v):cs.length=ag.getD 1/\v=mkv ag (celF v)/\cR w S Y cs (celF v):=by
 obtain⟨b,u,c,d⟩:=h;have g:=qk (ag:=ag) (u:=u) (λe=>by subst e;exact d.one (by simp at b;omega));have f:∀j,j<ag.getD 1->Ab.celF v j=u j:=λj a=>by
  unfold Ab.celF;rw[c,g];simp[List.getD,a]
 exact⟨b,c.trans (jA λj a=>(f j a).symm),d.congr λj a=>f j ω⟩
def Rz(u:Nat->Nat->Value)(i:Nat):MA->AV
 | .val a cs=>.H (lQ a) cs
 | .mut a cs=>.H (lQ a) (Ah (u i) 0 cs)
 | .ptr cs=>.H .box cs
theorem Br{u:Nat->Nat->Value} : ∀{A:List MA}{vs:List Value}{V:Nat->am}(i:Nat),Mq w S V A vs->∀t,(lay (yS u i A) t=.dead)\/(∃m v,i<=t/\vs[t - i]? = some v/\A[t - i]? = some m/\lay (yS u i A) t=Rz u t m/\qx w S (V (t - i)) m v)
 | [],_,_,i,_,t=>.inl rfl
 | m::A,[],_,i,h,t=>h.elim
 | m::A,v::vs,V,i,h,t=>by
  have b:lay (yS u i (m::A)) t=bif Nat.beq t i then Rz u i m else lay (yS u (i+1) A) t:=by cases m<;>rfl
  rw[b];cases c:Nat.beq t i with
  | true=>
   have:=W2 c;subst this;exact .inr ⟨m,v,W3 _,by simp,by simp,rfl,by rw[Nat.sub_self];exact h.1⟩
  | false=>
   have d:t≠i:=λe=>by simp_all
   rcases Br (i+1) h.2 t with a|⟨f,g,a,j,k,l,n⟩
   ·exact .inl a
   grind
def K9:∀{A:List MA}{vs:List Value}{V:Nat->am},Mq w S V A vs->A.length=vs.length
 | [],[],_,_=>rfl
 | _::_,_::_,_,h=>by simp[K9 h.2]
 | [],_::_,_,h=>h.elim
 | _::_,[],_,h=>h.elim
theorem KF{p:Nat->Value} : ∀{A:List MA}{i:Nat}{q:Nat × Value},q∈KD p i A->i<=q.1/\q.1<i+A.length/\q.2=p q.1
 | [],_,_,h=>by simp[KD]at h
 | m::A,i,q,h=>by
  have a:q∈KD p (i+1) A->i<=q.1/\q.1<i+(m::A).length/\q.2=p q.1:=λh=>by
   obtain⟨b,c,d⟩:=KF h
   grind
  cases m with
  | ptr e=>
   rcases List.mem_cons.1 h with rfl|h
   all_goals grind
  | val=>exact a h
  | «mut»=>exact a h
theorem J1{p:Nat->Value} : ∀{A:List MA}{i n:Nat}{cs:List C},A[n]? = some (.ptr cs)->(i+n,p (i+n))∈KD p i A
 | [],_,n,_,h=>by simp at h
 | m::A,i,0,cs,h=>by grind [KD]
 | m::A,i,n+1,cs,h=>by
  have a:=J1 (p:=p) (i:=i+1) (show A[n]? = some (.ptr cs) by simpa using h);rw[show i+1+n=i+(n+1) by omega]at a;cases m with
  | ptr cs=>exact Z5 _ a
  | val=>exact a
  | «mut»=>exact a
def Tl(φ:Nat->am):Option (Option Nat)->am
 | some (some t)=>φ t
 | _=>NO
theorem D3{u:Nat->Value} : ∀{b:Nat}{cs xs a:List C},R0 u b cs xs a->cs.length=a.length/\∀(j:Nat)(c o:C),cs[j]? = some c->a[j]? = some o->∃y,(ed c=true->xs[j]? = some y)/\U0 (u (b+j)) c y o
 | _,[],xs,a,h=>by grind [R0]
 | _,_::_,[],_,h=>by grind [R0]
 | _,_::_,_::_,[],h=>by grind [R0]
 | b,d::cs,e::xs,f::a,h=>by
  simp only[R0]at h;obtain⟨g,i⟩:=D3 h.2
  grind
theorem Nc{S' Y r:am}{E:Nat->Value}{cs xs t:List C}{off:Nat}(g:bq S w w1)(l:∀b o,S b o->S' b o)(h:cR w S Y cs u)(h':cR w1 S' r xs E)(F:R0 u 0 cs (xs.drop off) t):cR w1 S' r t u:=by
 obtain⟨f,G,O,P⟩:=h;obtain⟨A,n,H,J⟩:=h';obtain⟨Q,K⟩:=D3 F;refine⟨λj b o=>off+j<xs.length/\A (off+j) b o,λj c B=>?_,ψ,ψ⟩;have L:=(Z2.1 B).1;have i:cs[j]? = some cs[j]:=ψ
 obtain⟨y,k,a⟩:=K j _ c i B;rw[X7]at a;have d:=G j _ i;generalize cs[j]=p at i a d k;have keep:ed p=false->c=p->dM w1 S' (λb o=>off+j<xs.length/\A (off+j) b o) c (u j):=λM e=>by
  subst e;exact((d.bare (F':=NO) M).keep g (λ_ _ h=>h.elim)).mono l (λ_ _ h=>h.elim)
 cases p with
 | v R=>exact keep rfl a
 | x=>exact keep rfl a
 | z=>exact keep rfl a
 | m T=>exact a.elim
 | it=>exact a.elim
 | s o D=>
  cases o with
  | V=>exact keep rfl a
  | tag z=>exact a.elim
  | own=>
   have k:=k rfl;rw[List.getElem?_drop]at k;have N:=(Z2.1 k).1;simp only[U0]at a;split at a
   case h_2=>exact a.elim
   rename_i U q;obtain⟨rfl,rfl⟩:=a;obtain⟨V,W⟩:=(n _ _ k).untag
   simp_all
theorem bg.backs{C:World}{S':am}{u:Nat->Nat->Value}(h:bg w0 M S0 N S' φ F a C)(d:bq S w C)(f:∀b o,S b o->S' b o):∀{A:List MA}{g:List (Nat × Nat)}{B:List MA}{vs:List Value}{V:Nat->am}{i:Nat},Mq w S V A vs->
  (∀j v,vs[j]? = some v->u (i+j)=celF v)->(∀j v cs,vs[j]? = some v->A[j]? = some (.ptr cs)->tvs a (i+j)=v)->iF u F i A g B->DK C S' (λn=>Tl φ (ED i A g)[n]?) B vs
 | [],g,B,vs,V,i,l,r,t,c=>by
  cases vs with
  | cons _ _=>exact l.elim
  | nil=>cases B with
   | nil=>trivial
   | cons _ _=>grind [iF]
 | m::A,[],B,vs,V,i,l,r,t,c=>by grind [iF]
 | m::A,p::g,[],vs,V,i,l,r,t,c=>by grind [iF]
 | m::A,p::g,D::B,[],V,i,l,r,t,c=>l.elim
 | m::A,p::g,D::B,v::vs,V,i,l,r,t,c=>by
  have next:iF u F (i+1) A g B->DK C S' (λn=>Tl φ (ED (i+1) A g)[n]?) B vs:=λc=>
   bg.backs h d f l.2 (λj v T=>by rw[show i+1+j=i+(j+1) by omega];simp_all)
    (λj v cs T X=>by rw[show i+1+j=i+(j+1) by omega];simp_all) c
  cases m with
  | val U cs=>
   cases D with
   | val y W=>simp only[iF]at c;exact⟨trivial,next c⟩
   | ptr=>grind [iF]
   | «mut»=>grind [iF]
  | «mut» U cs=>
   cases D with
   | val=>grind [iF]
   | ptr=>grind [iF]
   | «mut» y out=>
    simp only[iF]at c;obtain⟨⟨rfl,e⟩,G⟩:=c;refine⟨?_,next G⟩;have E:=bB.celF (show bB w S (V 0) y cs v from l.1);have H:u i=celF v:=r 0 v (by simp);have q:=h.slot p.1;cases J:F p.1 with
    | H k xs=>
     rw[J]at e q;simp only at e;rw[H]at e;obtain⟨O,Y,P,K,Q,R,L⟩:=q;refine⟨by grind [D3],celF v,E.2.1,?_⟩;exact(Nc d f E.2.2 L e).mono (λ_ _ h=>h) (λb o c=>by simpa[ED,Tl] using K b o c)
    | _=>grind
  | ptr cs=>
   cases D with
   | val=>grind [iF]
   | «mut»=>grind [iF]
   | ptr out=>
    simp only[iF]at c;refine⟨?_,next c.2⟩;have E:tvs a i=v:=t 0 v cs (by simp) (by simp);have q:=h.slot i;cases J:F i with
    | H k xs=>
     cases k with
     | box=>
      rw[J]at c q;have:=c.1;simp only at this;subst this;rw[E]at q;obtain⟨O,Y,P,K,Q,R,L⟩:=q;exact⟨O,Y,λb o c=>by simpa[ED,Tl] using P b o c,λb o c=>by simpa[ED,Tl] using K b o c,Q,R,L⟩
     | _=>grind
    | _=>grind
theorem uO:∀{l:List (Option Nat)},Jc l=true->∀(i a t c:Nat),i≠a->l[i]? = some (some t)->l[a]? = some (some c)->t≠c
 | [],_,i,a,t,c,_,h,_=>by simp at h
 | none::l,b,i,a,t,c,f,h,d=>by
  cases i with
  | zero=>simp at h
  | succ i=>cases a with
   | zero=>simp at d
   | succ a=>exact uO (l:=l) b i a t c ω (by simpa using h) (by simpa using d)
 | some g::l,b,i,a,t,c,f,h,d=>by
  simp only[Jc,I0]at b;have k:∀(n s:Nat),l[n]? = some (some s)->g≠s:=λn s j e=>by
   have:=O4.1 b.1 _ (O2 j)
   simp_all
  cases i with
  | zero=>
   grind
  | succ i=>cases a with
   | zero=>grind
   | succ a=>exact uO b.2 i a t c ω (by simpa using h) (by simpa using d)
theorem xf:∀{l:List (Option Nat)}{i t:Nat},l[i]? = some (some t)->t∈sles l
 | [],i,t,h=>by simp at h
 | none::l,i,t,h=>by
  cases i with
  | zero=>simp at h
  | succ i=>exact xf (l:=l) (i:=i) (by simpa using h)
 | some a::l,i,t,h=>by
  cases i with
  | zero=>grind [sles]
  | succ i=>exact Z5 _ (xf (l:=l) (i:=i) (by simpa using h))
theorem yP{φ:Nat->am}{x:Option (Option Nat)}{b o:Nat}(h:Tl φ x b o):∃t,x=some (some t)/\φ t b o:=by
 match x,h with
 | some (some t),h=>exact⟨t,rfl,h⟩
 | some none,h=>exact h.elim
 | none,h=>exact h.elim
theorem Lx{f : Nat}{y : Func}{c : Code}{sh : Bool}{A B : List MA}{k : Kd}{rcs : List C}{mo : List (Nat × List Nat)}{n : Nat}(O : List (Nat × Nat))(hTE : ∀t i, TE t = some i -> hO P t i)(hf : P.funcs[f]? = some y)(hn : (y.name == "runtime.NumGoroutine") = false)(d:y.body=some c){ck:Nat->Array Oper->Bool}{D:fm->Nat->Array Oper->((Nat->AV)->Prop)->(Nat->AV)->Prop}(hD:∀N,yp P N ck (D N))(hc:gr ck c=true)(hN:A.length+(y.ntmps - A.length)=n)(hok:Jc (ED 0 A O)=true)(hsh:sh=true\/ij rcs)(hp:∀(u:Nat->Nat->Value)(p:Nat->Value),aw P TE ⟨n,KD p 0 A,mo⟩ (D ⟨n,KD p 0 A,mo⟩) c (RB TE y.results.toList k rcs u A B O) (lay (yS u 0 A))):aP P f sh A B k rcs:=by
 refine⟨⟨y,hf,hn,by rw[d];rfl⟩,λw S V E hS hV hVd hA=>?_⟩;have hlen:=K9 hA;refine calls_of_wp hf d ?_
 let u:Nat->Nat->Value:=λi=>celF (E.getD i undef)
 let p:Nat->Value:=λi=>E.getD i undef
 have htv:∀t v,E[t]? = some v->tvs {tmps:=E.toArray++Array.replicate (y.ntmps - E.toArray.size) undef,defers:=[]} t=v:=λt v r=>by
  have Q:=(Z2.1 r).1;simp only[tvs,S7]
  grind
 have hst:St w (λb o=>∃i,V i b o) S ⟨n,KD p 0 A,mo⟩ (lay (yS u 0 A)) {tmps:=E.toArray++Array.replicate (y.ntmps - E.toArray.size) undef,defers:=[]} w:=by
  refine⟨S,V,λt=>?_,hVd,ψ,ψ,λ_ _ h=>h,ψ,Ca _ _,by simp;omega,rfl,λq hq=>?_⟩
  ·rcases Br (u:=u) 0 hA t with J|⟨m,v,-,r,h2',K,U⟩
   ·rw[J];trivial
   rw[K];rw[Nat.sub_zero]at r U;rw[htv t v r];have hu:u t=celF v:=ψ
   cases m with
   | val M G=>exact(bB.mono (show bB w S NO M G v from U) (λ_ _ h=>h) (λ_ _ h=>h.elim)).slot
   | «mut» M G=>
    obtain⟨e1,e2,e3⟩:=bB.celF (show bB w S (V t) M G v from U);refine bB.slot ⟨by grind [oU],celF v,e2,?_⟩
    grind [cR.tag]
   | ptr G=>exact U
  obtain⟨-,J,r⟩:=KF hq
  grind
 refine iN hTE (hD _) c hc _ _ _ _ w (hp u p) hst λe F' W l he hs'=>?_
 obtain⟨S',φ',h⟩:=hs';have fin:resA TE F' y.results.toList (sles (ED 0 A O)) (λsh G=>aW (kC sh) k G rcs (iF u F' 0 A O B))->W.defers=[]/\∃v,(results y W.tmps).run P l=.ok v l/\(∃v',Ending.returned v=.returned v'/\bx (λb o=>∃i,V i b o) w l/\∃(X:am)(Z:Nat->am)(S1:am),
     (∀b o,X b o->(∃i,V i b o)\/(b<l.heap.size/\w.heap.size<=b))/\(∀i b o,Z i b o->(∃i,V i b o)\/(b<l.heap.size/\w.heap.size<=b))/\
     (∀b o,S1 b o->(sh=true/\S b o)\/(∃i,V i b o)\/(b<l.heap.size/\w.heap.size<=b))/\
     (∀i i',i≠i'->∀b o,Z i b o->¬Z i' b o)/\(∀i b o,X b o->¬Z i b o)/\(∀b o,X b o->¬S1 b o)/\(∀i b o,Z i b o->¬S1 b o)/\
     fL l NO k rcs.length v'/\cR l S1 X rcs (co l k v')/\DK l (λb o=>S b o\/S1 b o) Z B E):=by
  intro hr;obtain⟨shs,G,a,u',hfin,hrun,L,hln,hL,hcells,H,hrow⟩:=h.resA hTE hr;obtain⟨rfl,rfl,R⟩:=hfin.out;refine⟨h.defers,?_⟩;have T:(results y W.tmps).run P l=.ok (if h:a.toArray.size=1 then a.toArray[0] else .tuple a.toArray) l:=by
   have e:results y W.tmps=(do let E <-y.results.mapM (ES W.tmps);pure (if h:E.size=1 then E[0] else .tuple E)):=by
    unfold results
    congr 1
   rw[e,<-Array.toArray_toList (xs:=y.results),List.mapM_toArray]
   simp_all
  have hex:∀t b o,φ' t b o->(∃i,V i b o)\/(b<l.heap.size/\w.heap.size<=b):=λt b o d=>(h.ex t b o d).2.elim (λh'=>.inr ⟨(h.ex t b o d).1,h'⟩) .inl
  have hsameS:bq S w l:=λb o d=>by
   have Q:=hS b o d;exact⟨h.old.cel b o Q ψ,h.old.fro b o Q ψ⟩
  have hm:=h.backs (u:=u) hsameS h.sub hA ψ (λj v G hj hc=>by
    have:=h.par _ (J1 (p:=p) (i:=0) hc)
    grind) R
  refine⟨_,T,_,rfl,h.old,λb o=>∃t,t∉sles (ED 0 A O)/\φ' t b o,λi=>Tl φ' (ED 0 A O)[i]?,λb o=>(sh=true/\S' b o)\/(S' b o/\((∃i,V i b o)\/w.heap.size<=b)),ψ,λi b o d=>?_,λb o d=>?_,λi i' hne b o d g=>?_,λi b o ⟨t,ht,d⟩ g=>?_,λb o ⟨t,_,d⟩ g=>h.disS t b o d ψ,λi b o d g=>?_,?_⟩
  ·grind [yP]
  ·rcases d with⟨J,r⟩|⟨J,r⟩
   ·rcases(h.sup b o r).2 with K|K|K
    ·grind
    ·exact .inr (.inr ⟨(h.sup b o r).1,K⟩)
    grind
   rcases r with r|r
   ·grind
   exact .inr (.inr ⟨(h.sup b o J).1,r⟩)
  ·obtain⟨t,e1,d⟩:=yP d
   obtain⟨t',e2,g⟩:=yP g;exact h.dis t t' (uO hok i i' t t' hne e1 e2) b o d g
  ·obtain⟨t',e2,g⟩:=yP g
   exact h.dis t t' (λe=>ht (by grind [xf])) b o d g
  ·obtain⟨t,-,d⟩:=yP d
   exact h.disS t b o d ψ
  have hk:fL l NO (kC shs) G.length (if h:a.toArray.size=1 then a.toArray[0] else .tuple a.toArray)/\cR l S' (λb o=>∃t,t∉sles (ED 0 A O)/\φ' t b o) G (co l (kC shs) (if h:a.toArray.size=1 then a.toArray[0] else .tuple a.toArray)):=by
   match shs,L,H,hL with
   | [],L,_,hL=>
    cases a with
    | cons _ _=>exact L.elim
    | nil=>
     have:G=[]:=ψ
     subst this;exact⟨⟨_,rfl,trivial,rfl⟩,cR.nil _ _ _ _⟩
   | [M],_,H,_=>
    obtain⟨v,rfl,hv⟩:=H M rfl;have:=hv.slot (F:=F') (tv:=tvs W);obtain⟨X1,Y,J,r,K,U,h5⟩:=this;refine⟨?_,h5.mono (λ_ _ h=>h) r⟩;cases M<;>exact U
   | M::ag2::sh,L,_,hL=>
    have hsz:¬a.toArray.size=1:=by
     match a,L with
     | [],L=>simp
     | [v],L=>cases M<;>cases ag2<;>exact L.2.elim
     | _::_::_,_=>simp
    rw[dif_neg hsz];refine⟨⟨_,rfl,L,hL⟩,hrow.congr λj hj=>?_⟩;simp only[co,kC,ng,hcells];simp[List.getD,hj]
  refine⟨hk.1,?_,hm.mono λb o d=>?_⟩
  ·rcases hsh with J|J
   ·exact hk.2.mono ψ (λ_ _ h=>h)
   exact(hk.2.fresh J).mono (λ_ _ h=>h.elim) (λ_ _ h=>h)
  rcases(h.sup b o d).2 with K|K|K
  all_goals grind
 cases e with
 | normal=>exact fin he
 | ret=>exact fin he
 | _=>exact he.elim
end
abbrev I(z:Int):C:=.v (.int .i64 z)
abbrev B(b:Bool):C:=.v (.bool b)
def rI(_:dR)(z:Int):List C:=[I z]
def rB(_:dR)(b:Bool):List C:=[B b]
def pQ(z:Int):ij (rI .own z):=⟨trivial,trivial⟩
def E8(b:Bool):ij (rB .own b):=⟨trivial,trivial⟩
def np(z:Int):Prop:=-9223372036854775808<=z/\z<=9223372036854775807
def U6(_:Bool):Prop:=True
def rv : Tryz.prog.follows .mixedOrders=true:=by kernel_rfl
variable{tb: List (Nat × Nat × List Nat)}{rcs: List C}{A: List RA}{sh: Bool}{c: Code}{mo: List (Nat × List Nat)}{f: Nat}
def TA{a : Func}(d : Tryz.prog.funcs[f]? = some a)(e : (a.name == "runtime.NumGoroutine") = false)(g : a.body = some c)(h : gr (ou tb) c = true)(i:A.length+(a.ntmps - A.length)=n)(b:sh=true\/ij rcs)(j:aw Tryz.prog TE ⟨n,[],mo⟩ (DF Tryz.prog TE ⟨n,[],mo⟩ tb) c (QT TE a.results.toList k rcs) (lay (wj 0 A))):zzA f sh A k rcs:=
 L2 qN d e g (rj qN rv ⟨n,[],mo⟩ tb) h i rfl b j
def Ue{a : Func}{A B : List MA}(b : List (Nat × Nat))(g : Tryz.prog.funcs[f]? = some a)(h : (a.name == "runtime.NumGoroutine") = false)(i : a.body = some c)(j : gr (ou tb) c = true)(l:A.length+(a.ntmps - A.length)=n)(d:Jc (ED 0 A b)=true)(e:sh=true\/ij rcs)(o:∀(u:Nat->Nat->Value)(p:Nat->Value),aw Tryz.prog TE ⟨n,KD p 0 A,mo⟩ (DF Tryz.prog TE ⟨n,KD p 0 A,mo⟩ tb) c (RB TE a.results.toList k rcs u A B b) (lay (yS u 0 A))):zzB f sh A B k rcs:=
 Lx b qN g h i (λN=>rj qN rv N tb) j l d e o
def TM{a : Func}(b : Tryz.prog.funcs[f]? = some a)(d : (a.name == "runtime.NumGoroutine") = false)(e : a.body = some c)(g : gr (ou tb) c = true)(h:A.length+(a.ntmps - A.length)=n)(i:a.results = #[.tmp t])(j:aw Tryz.prog TE ⟨n,[],mo⟩ (DF Tryz.prog TE ⟨n,[],mo⟩ tb) c (TD t rcs) (lay (wj 0 A))):ru Tryz.prog f true A .box rcs:=
 KM qN b d e (rj qN rv ⟨n,[],mo⟩ tb) g h rfl i j
theorem fC{x:Int}(h1 : -9223372036854775808<=x)(a:x<=9223372036854775807):IntKind.i64.wrap x=x:=IntWalk.i64_in x ω
def N6:RA->RA->Prop
 | .val ag cs,.val ag' cs'=>ag=ag'/\cs=cs'
 | .ptr cs,.ptr cs'=>cs=cs'
 | A,a=>A=a
theorem N6.eq{A a:RA}(h:N6 A a):A=a:=by
 unfold N6 at h
 grind
def Aq:List RA->List RA->Prop
 | [],[]=>True
 | A::As,B::Bs=>N6 A B/\Aq As Bs
 | _,_=>False
theorem Aq.eq:∀{A a:List RA},Aq A a->A=a
 | [],[],_=>rfl
 | A::As,B::Bs,h=>by rw[N6.eq h.1,Aq.eq h.2]
 | [],_::_,h=>h.elim
 | _::_,[],h=>h.elim
theorem Cl.eq{b:Bool}{a:List RA}{K:AV->Prop}(h:ay P f false a k rcs)(c:Aq A a)(d:K (.H k rcs)):Cl P f b A K:=by grind [Aq.eq,C9]
def CK:type_of% @Cl.eq:=@Cl.eq
def zh{b:Nat}(h:n<=1048576)(a:b<=1000):n*b<=140737488355328:=I5 (Nat.mul_le_mul h a) (by decide)
variable{X Y:Prop}
theorem Bf.NB{a b:Bool}(h1:a≠b->X)(c:a=b->Y):Bf (a != b) X Y:=by grind [Bf.P]
theorem Rw.one{off k j:Nat}{K:List C->Nat->Prop}{o:dR}{rows:List (List C)}{r:List C}(h1:a[off]? = some (.s o rows))(c:rows[i]? = some r)(d:r.length=k)(b:K r j):Rw a off [(i,k,j)] K:=
 Rw.mk (r:=r) (j:=j) (by grind [cq]) b
def CG:type_of% @Rw.one:=@Rw.one
section
variable{α:Type}{A B:List α}
end
def aa{β:Type}{f:α->β}{l:List α}{k:Nat}{x:α}(h:l[k]? = some x):(l.map f)[k]? = some (f x):=by simp[h]
def aH(o:dR)(x:List Int):List C:=[.s o (x.map (rI o))]
def dA(x:List Int):dE (aH .own x)=aH .V x:=by simp[dE,aH,rI,dE]
theorem bO(x:List Int):ij (aH .own x):=⟨⟨.inl ψ,bh _ _ λy _=>pQ y⟩,trivial⟩
def jh(x:List Int):Prop:=x.length<=9223372036854775807/\∀y∈x,np y
def te(x:List Int):Prop:=x.length<=1048576
def jE(o:dR)(x:List (List Int)):List C:=[.s o (x.map (aH o))]
def T4(x:List (List Int)):dE (jE .own x)=jE .V x:=by simp[dE,jE,dA,<-bY,W6]
def Ds(x:List (List Int)):Prop:=x.length<=9223372036854775807/\∀y∈x,jh y
def zc(x:List (List Int)):Prop:=x.length<=1048576/\∀y∈x,te y
def wP(o:dR)(x:List Bool):List C:=[.s o (x.map (rB o))]
def Qe(x:List Bool):Prop:=x.length<=9223372036854775807/\∀y∈x,U6 y
def P6(x:List Bool):Prop:=x.length<=1048576
structure aX where
 T:List (List Int)
 a5:List Bool
deriving DecidableEq,Inhabited
def aX.enc(o:dR)(x:aX):List C:=[.s o (x.T.map (aH o)),.s o (x.a5.map (rB o))]
def aX.enc_fz(x:aX):dE (aX.enc .own x)=aX.enc .V x:=by simp[dE,aX.enc,rB,dA,<-bY,W6]
theorem aX.enc_fr(x:aX):ij (aX.enc .own x):=⟨⟨.inl ψ,bh _ _ λy _=>bO y⟩,⟨.inl ψ,bh _ _ λy _=>E8 y⟩,trivial⟩
def aX.wf(x:aX):Prop:=Ds x.T/\Qe x.a5
def aX.sml(x:aX):Prop:=zc x.T/\P6 x.a5
structure bm where
 e:Int
 j:Int
deriving DecidableEq,Inhabited
def bm.enc(o:dR)(x:bm):List C:=[I x.e,I x.j]
def bm.enc_fz(x:bm):dE (bm.enc .own x)=bm.enc .V x:=by simp[dE,bm.enc]
def bm.enc_fr(x:bm):ij (bm.enc .own x):=⟨trivial,trivial,trivial⟩
def bm.wf(x:bm):Prop:=np x.e/\np x.j
def bm.sml(_:bm):Prop:=True
def EW(o:dR)(x:List bm):List C:=[.s o (x.map (bm.enc o))]
def KN(x:List bm):Prop:=x.length<=9223372036854775807/\∀y∈x,bm.wf y
def Hi(x:List bm):Prop:=x.length<=1048576/\∀y∈x,bm.sml y
structure aL where
 K:List bm
deriving DecidableEq,Inhabited
def aL.enc(o:dR)(x:aL):List C:=[.s o (x.K.map (bm.enc o))]
def aL.enc_fz(x:aL):dE (aL.enc .own x)=aL.enc .V x:=by simp[dE,aL.enc,bm.enc_fz,<-bY,W6]
def Cb:type_of% @aL.enc_fz:=@aL.enc_fz
theorem aL.enc_fr(x:aL):ij (aL.enc .own x):=⟨⟨.inl ψ,bh _ _ λy _=>bm.enc_fr y⟩,trivial⟩
def aL.wf(x:aL):Prop:=KN x.K
def aL.sml(x:aL):Prop:=Hi x.K
structure aY where
 W:aX
 R:aL
deriving DecidableEq,Inhabited
def aY.enc(o:dR)(x:aY):List C:=[.s o (x.W.T.map (aH o)),.s o (x.W.a5.map (rB o)),.s o (x.R.K.map (bm.enc o))]
def aY.enc_fz(x:aY):dE (aY.enc .own x)=aY.enc .V x:=by simp[dE,aY.enc,bm.enc_fz,rB,dA,<-bY,W6]
theorem aY.enc_fr(x:aY):ij (aY.enc .own x):=⟨⟨.inl ψ,bh _ _ λy _=>bO y⟩,⟨.inl ψ,bh _ _ λy _=>E8 y⟩,⟨.inl ψ,bh _ _ λy _=>bm.enc_fr y⟩,trivial⟩
def aY.wf(x:aY):Prop:=aX.wf x.W/\aL.wf x.R
def aY.sml(x:aY):Prop:=aX.sml x.W/\aL.sml x.R
structure ah where
 F:aY
 Calls:Int
 a0:List Int
deriving DecidableEq,Inhabited
def ah.enc(o:dR)(x:ah):List C:=[.s o (x.F.W.T.map (aH o)),.s o (x.F.W.a5.map (rB o)),.s o (x.F.R.K.map (bm.enc o)),I x.Calls,.s o (x.a0.map (rI o))]
def ah.enc_fz(x:ah):dE (ah.enc .own x)=ah.enc .V x:=by simp[dE,ah.enc,bm.enc_fz,rB,rI,dA,<-bY,W6]
def CR:type_of% @ah.enc_fz:=@ah.enc_fz
theorem ah.enc_fr(x:ah):ij (ah.enc .own x):=⟨⟨.inl ψ,bh _ _ λy _=>bO y⟩,⟨.inl ψ,bh _ _ λy _=>E8 y⟩,⟨.inl ψ,bh _ _ λy _=>bm.enc_fr y⟩,trivial,⟨.inl ψ,bh _ _ λy _=>pQ y⟩,trivial⟩
def Cf:type_of% @ah.enc_fr:=@ah.enc_fr
def ah.wf(x:ah):Prop:=aY.wf x.F/\np x.Calls/\jh x.a0
def ah.sml(x:ah):Prop:=aY.sml x.F/\te x.a0
structure aB where
 At:Int
 a8:Int
deriving DecidableEq,Inhabited
def aB.enc(o:dR)(x:aB):List C:=[I x.At,I x.a8]
def aB.enc_fz(x:aB):dE (aB.enc .own x)=aB.enc .V x:=by simp[dE,aB.enc]
def aB.enc_fr(x:aB):ij (aB.enc .own x):=⟨trivial,trivial,trivial⟩
def aB.wf(x:aB):Prop:=np x.At/\np x.a8
def aB.sml(_:aB):Prop:=True
def bv(o:dR)(x:List aB):List C:=[.s o (x.map (aB.enc o))]
def dX(x:List aB):dE (bv .own x)=bv .V x:=by simp[dE,bv,aB.enc_fz,<-bY,W6]
theorem iG(x:List aB):ij (bv .own x):=⟨⟨.inl ψ,bh _ _ λy _=>aB.enc_fr y⟩,trivial⟩
def Ld(x:List aB):Prop:=x.length<=9223372036854775807/\∀y∈x,aB.wf y
def gG(x:List aB):Prop:=x.length<=1048576/\∀y∈x,aB.sml y
structure aA where
 Q:Int
 d:Int
 a9:Int
deriving DecidableEq,Inhabited
def aA.enc(o:dR)(x:aA):List C:=[I x.Q,I x.d,I x.a9]
def aA.enc_fz(x:aA):dE (aA.enc .own x)=aA.enc .V x:=by simp[dE,aA.enc]
def aA.enc_fr(x:aA):ij (aA.enc .own x):=⟨trivial,trivial,trivial,trivial⟩
def aA.wf(x:aA):Prop:=np x.Q/\np x.d/\np x.a9
def aA.sml(_:aA):Prop:=True
def cE(o:dR)(x:List aA):List C:=[.s o (x.map (aA.enc o))]
def wE(x:List aA):dE (cE .own x)=cE .V x:=by simp[dE,cE,aA.enc_fz,<-bY,W6]
theorem HJ(x:List aA):ij (cE .own x):=⟨⟨.inl ψ,bh _ _ λy _=>aA.enc_fr y⟩,trivial⟩
def NV(x:List aA):Prop:=x.length<=9223372036854775807/\∀y∈x,aA.wf y
def dB(x:List aA):Prop:=x.length<=1048576/\∀y∈x,aA.sml y
structure aC where
 Q:Int
 a2:Int
 q:Int
deriving DecidableEq,Inhabited
def aC.enc(o:dR)(x:aC):List C:=[I x.Q,I x.a2,I x.q]
def aC.enc_fz(x:aC):dE (aC.enc .own x)=aC.enc .V x:=by simp[dE,aC.enc]
def aC.enc_fr(x:aC):ij (aC.enc .own x):=⟨trivial,trivial,trivial,trivial⟩
def aC.wf(x:aC):Prop:=np x.Q/\np x.a2/\np x.q
def aC.sml(_:aC):Prop:=True
def cz(o:dR)(x:List aC):List C:=[.s o (x.map (aC.enc o))]
def GE(x:List aC):dE (cz .own x)=cz .V x:=by simp[dE,cz,aC.enc_fz,<-bY,W6]
def Ls(x:List aC):Prop:=x.length<=9223372036854775807/\∀y∈x,aC.wf y
def dP(x:List aC):Prop:=x.length<=1048576/\∀y∈x,aC.sml y
structure bo where
 Id:Int
 Addr:Int
 q:Int
 a4:Int
deriving DecidableEq,Inhabited
def bo.enc(o:dR)(x:bo):List C:=[I x.Id,I x.Addr,I x.q,I x.a4]
def bo.enc_fz(x:bo):dE (bo.enc .own x)=bo.enc .V x:=by simp[dE,bo.enc]
def bo.enc_fr(x:bo):ij (bo.enc .own x):=⟨trivial,trivial,trivial,trivial,trivial⟩
def bo.wf(x:bo):Prop:=np x.Id/\np x.Addr/\np x.q/\np x.a4
def bo.sml(_:bo):Prop:=True
def nA(o:dR)(x:List bo):List C:=[.s o (x.map (bo.enc o))]
def LW(x:List bo):dE (nA .own x)=nA .V x:=by simp[dE,nA,bo.enc_fz,<-bY,W6]
def Rr(x:List bo):Prop:=x.length<=9223372036854775807/\∀y∈x,bo.wf y
def MF(x:List bo):Prop:=x.length<=1048576/\∀y∈x,bo.sml y
structure aE where
 a:List (List Int)
deriving DecidableEq,Inhabited
def aE.enc(o:dR)(x:aE):List C:=[.s o (x.a.map (aH o))]
def aE.enc_fz(x:aE):dE (aE.enc .own x)=aE.enc .V x:=by simp[dE,aE.enc,dA,<-bY,W6]
def Ce:type_of% @aE.enc_fz:=@aE.enc_fz
theorem aE.enc_fr(x:aE):ij (aE.enc .own x):=⟨⟨.inl ψ,bh _ _ λy _=>bO y⟩,trivial⟩
def aE.wf(x:aE):Prop:=Ds x.a
def aE.sml(x:aE):Prop:=zc x.a
def pG(o:dR)(x:List aE):List C:=[.s o (x.map (aE.enc o))]
def LT(x:List aE):Prop:=x.length<=9223372036854775807/\∀y∈x,aE.wf y
def Jb(x:List aE):Prop:=x.length<=1048576/\∀y∈x,aE.sml y
structure dx where
 To:Int
 Addr:Int
deriving DecidableEq,Inhabited
def dx.enc(o:dR)(x:dx):List C:=[I x.To,I x.Addr]
def dx.enc_fz(x:dx):dE (dx.enc .own x)=dx.enc .V x:=by simp[dE,dx.enc]
def dx.enc_fr(x:dx):ij (dx.enc .own x):=⟨trivial,trivial,trivial⟩
def dx.wf(x:dx):Prop:=np x.To/\np x.Addr
def dx.sml(_:dx):Prop:=True
def cL(o:dR)(x:List dx):List C:=[.s o (x.map (dx.enc o))]
def nR(x:List dx):dE (cL .own x)=cL .V x:=by simp[dE,cL,dx.enc_fz,<-bY,W6]
theorem rR(x:List dx):ij (cL .own x):=⟨⟨.inl ψ,bh _ _ λy _=>dx.enc_fr y⟩,trivial⟩
def Py(x:List dx):Prop:=x.length<=9223372036854775807/\∀y∈x,dx.wf y
def Lt(x:List dx):Prop:=x.length<=1048576/\∀y∈x,dx.sml y
def y8(o:dR)(x:List (List dx)):List C:=[.s o (x.map (cL o))]
def Lw(x:List (List dx)):Prop:=x.length<=9223372036854775807/\∀y∈x,Py y
def GT(x:List (List dx)):Prop:=x.length<=1048576/\∀y∈x,Lt y
structure aM where
 U:List (List dx)
 y:List (List Int)
deriving DecidableEq,Inhabited
def aM.enc(o:dR)(x:aM):List C:=[.s o (x.U.map (cL o)),.s o (x.y.map (aH o))]
def aM.enc_fz(x:aM):dE (aM.enc .own x)=aM.enc .V x:=by simp[dE,aM.enc,nR,dA,<-bY,W6]
theorem aM.enc_fr(x:aM):ij (aM.enc .own x):=⟨⟨.inl ψ,bh _ _ λy _=>rR y⟩,⟨.inl ψ,bh _ _ λy _=>bO y⟩,trivial⟩
def aM.wf(x:aM):Prop:=Lw x.U/\Ds x.y
def aM.sml(x:aM):Prop:=GT x.U/\zc x.y
structure aR where
 Addr:Int
 d:Int
 b6:Int
deriving DecidableEq,Inhabited
def aR.enc(o:dR)(x:aR):List C:=[I x.Addr,I x.d,I x.b6]
def aR.enc_fz(x:aR):dE (aR.enc .own x)=aR.enc .V x:=by simp[dE,aR.enc]
def aR.enc_fr(x:aR):ij (aR.enc .own x):=⟨trivial,trivial,trivial,trivial⟩
def aR.wf(x:aR):Prop:=np x.Addr/\np x.d/\np x.b6
def aR.sml(_:aR):Prop:=True
def cY(o:dR)(x:List aR):List C:=[.s o (x.map (aR.enc o))]
def FC(x:List aR):dE (cY .own x)=cY .V x:=by simp[dE,cY,aR.enc_fz,<-bY,W6]
theorem vq(x:List aR):ij (cY .own x):=⟨⟨.inl ψ,bh _ _ λy _=>aR.enc_fr y⟩,trivial⟩
def KK(x:List aR):Prop:=x.length<=9223372036854775807/\∀y∈x,aR.wf y
def lC(x:List aR):Prop:=x.length<=1048576/\∀y∈x,aR.sml y
structure bQ where
 b7:Int
 a6:List aR
deriving DecidableEq,Inhabited
def bQ.enc(o:dR)(x:bQ):List C:=[I x.b7,.s o (x.a6.map (aR.enc o))]
def bQ.enc_fz(x:bQ):dE (bQ.enc .own x)=bQ.enc .V x:=by simp[dE,bQ.enc,aR.enc_fz,<-bY,W6]
theorem bQ.enc_fr(x:bQ):ij (bQ.enc .own x):=⟨trivial,⟨.inl ψ,bh _ _ λy _=>aR.enc_fr y⟩,trivial⟩
def bQ.wf(x:bQ):Prop:=np x.b7/\KK x.a6
def bQ.sml(x:bQ):Prop:=lC x.a6
structure cA where
 a3:Int
 a1:Int
 T:List Int
deriving DecidableEq,Inhabited
def cA.enc(o:dR)(x:cA):List C:=[I x.a3,I x.a1,.s o (x.T.map (rI o))]
def cA.enc_fz(x:cA):dE (cA.enc .own x)=cA.enc .V x:=by simp[dE,cA.enc,rI,<-bY,W6]
theorem cA.enc_fr(x:cA):ij (cA.enc .own x):=⟨trivial,trivial,⟨.inl ψ,bh _ _ λy _=>pQ y⟩,trivial⟩
def cA.wf(x:cA):Prop:=np x.a3/\np x.a1/\jh x.T
def cA.sml(x:cA):Prop:=te x.T
structure cJ where
 X:cA
 b0:Int
 b:Int
deriving DecidableEq,Inhabited
def cJ.enc(o:dR)(x:cJ):List C:=[I x.X.a3,I x.X.a1,.s o (x.X.T.map (rI o)),I x.b0,I x.b]
def cJ.enc_fz(x:cJ):dE (cJ.enc .own x)=cJ.enc .V x:=by simp[dE,cJ.enc,rI,<-bY,W6]
theorem cJ.enc_fr(x:cJ):ij (cJ.enc .own x):=⟨trivial,trivial,⟨.inl ψ,bh _ _ λy _=>pQ y⟩,trivial,trivial,trivial⟩
def cJ.wf(x:cJ):Prop:=cA.wf x.X/\np x.b0/\np x.b
def cJ.sml(x:cJ):Prop:=cA.sml x.X
structure ac where
 G:ah
 o:List aB
 J:List aA
 M:List aC
 O:List bo
 S:List aE
 w:aM
 a7:bQ
 b5:Int
 b1:Int
 c0:Int
 b:Int
 u:Bool
 Y:cJ
deriving DecidableEq,Inhabited
def ac.enc(o:dR)(x:ac):List C:=[.s o (x.G.F.W.T.map (aH o)),.s o (x.G.F.W.a5.map (rB o)),.s o (x.G.F.R.K.map (bm.enc o)),I x.G.Calls,.s o (x.G.a0.map (rI o)),.s o (x.o.map (aB.enc o)),.s o (x.J.map (aA.enc o)),.s o (x.M.map (aC.enc o)),.s o (x.O.map (bo.enc o)),.s o (x.S.map (aE.enc o)),.s o (x.w.U.map (cL o)),.s o (x.w.y.map (aH o)),I x.a7.b7,.s o (x.a7.a6.map (aR.enc o)),I x.b5,I x.b1,I x.c0,I x.b,B x.u,I x.Y.X.a3,I x.Y.X.a1,.s o (x.Y.X.T.map (rI o)),I x.Y.b0,I x.Y.b]
def ac.enc_fz(x:ac):dE (ac.enc .own x)=ac.enc .V x:=by simp[dE,ac.enc,Ce,bm.enc_fz,aC.enc_fz,bo.enc_fz,aB.enc_fz,aA.enc_fz,aR.enc_fz,rB,nR,rI,dA,<-bY,W6]
theorem ac.enc_fr(x:ac):ij (ac.enc .own x):=⟨⟨.inl ψ,bh _ _ λy _=>bO y⟩,⟨.inl ψ,bh _ _ λy _=>E8 y⟩,⟨.inl ψ,bh _ _ λy _=>bm.enc_fr y⟩,trivial,⟨.inl ψ,bh _ _ λy _=>pQ y⟩,⟨.inl ψ,bh _ _ λy _=>aB.enc_fr y⟩,⟨.inl ψ,bh _ _ λy _=>aA.enc_fr y⟩,⟨.inl ψ,bh _ _ λy _=>aC.enc_fr y⟩,⟨.inl ψ,bh _ _ λy _=>bo.enc_fr y⟩,⟨.inl ψ,bh _ _ λy _=>aE.enc_fr y⟩,⟨.inl ψ,bh _ _ λy _=>rR y⟩,⟨.inl ψ,bh _ _ λy _=>bO y⟩,trivial,⟨.inl ψ,bh _ _ λy _=>aR.enc_fr y⟩,trivial,trivial,trivial,trivial,trivial,trivial,trivial,⟨.inl ψ,bh _ _ λy _=>pQ y⟩,trivial,trivial,trivial⟩
def ac.wf(x:ac):Prop:=ah.wf x.G/\Ld x.o/\NV x.J/\Ls x.M/\Rr x.O/\LT x.S/\aM.wf x.w/\bQ.wf x.a7/\np x.b5/\np x.b1/\np x.c0/\np x.b/\U6 x.u/\cJ.wf x.Y
def ac.sml(x:ac):Prop:=ah.sml x.G/\gG x.o/\dB x.J/\dP x.M/\MF x.O/\Jb x.S/\aM.sml x.w/\bQ.sml x.a7/\cJ.sml x.Y
structure jB where
 b3:Int
 c2:Int
 c6:Int
 c3:Int
deriving DecidableEq,Inhabited
def jB.enc(o:dR)(x:jB):List C:=[I x.b3,I x.c2,I x.c6,I x.c3]
def jB.enc_fr(x:jB):ij (jB.enc .own x):=⟨trivial,trivial,trivial,trivial,trivial⟩
structure UA where
 Id:Int
 q:Int
 Sum:Int
deriving DecidableEq,Inhabited
structure bD where
 Id:Int
 T:List Int
deriving DecidableEq,Inhabited
def bD.enc(o:dR)(x:bD):List C:=[I x.Id,.s o (x.T.map (rI o))]
def bD.enc_fz(x:bD):dE (bD.enc .own x)=bD.enc .V x:=by simp[dE,bD.enc,rI,<-bY,W6]
theorem bD.enc_fr(x:bD):ij (bD.enc .own x):=⟨trivial,⟨.inl ψ,bh _ _ λy _=>pQ y⟩,trivial⟩
def bD.sml(x:bD):Prop:=te x.T
def E7(x:List bD):Prop:=x.length<=1048576/\∀y∈x,bD.sml y
structure aD where
 b:Int
 O:List bD
deriving DecidableEq,Inhabited
def aD.enc(o:dR)(x:aD):List C:=[I x.b,.s o (x.O.map (bD.enc o))]
def aD.enc_fz(x:aD):dE (aD.enc .own x)=aD.enc .V x:=by simp[dE,aD.enc,bD.enc_fz,<-bY,W6]
def Cg:type_of% @aD.enc_fz:=@aD.enc_fz
theorem aD.enc_fr(x:aD):ij (aD.enc .own x):=⟨trivial,⟨.inl ψ,bh _ _ λy _=>bD.enc_fr y⟩,trivial⟩
def aD.sml(x:aD):Prop:=E7 x.O
structure bn where
 Z:ac
 b2:aD
deriving DecidableEq,Inhabited
def bn.enc(o:dR)(x:bn):List C:=[.s o (x.Z.G.F.W.T.map (aH o)),.s o (x.Z.G.F.W.a5.map (rB o)),.s o (x.Z.G.F.R.K.map (bm.enc o)),I x.Z.G.Calls,.s o (x.Z.G.a0.map (rI o)),.s o (x.Z.o.map (aB.enc o)),.s o (x.Z.J.map (aA.enc o)),.s o (x.Z.M.map (aC.enc o)),.s o (x.Z.O.map (bo.enc o)),.s o (x.Z.S.map (aE.enc o)),.s o (x.Z.w.U.map (cL o)),.s o (x.Z.w.y.map (aH o)),I x.Z.a7.b7,.s o (x.Z.a7.a6.map (aR.enc o)),I x.Z.b5,I x.Z.b1,I x.Z.c0,I x.Z.b,B x.Z.u,I x.Z.Y.X.a3,I x.Z.Y.X.a1,.s o (x.Z.Y.X.T.map (rI o)),I x.Z.Y.b0,I x.Z.Y.b,I x.b2.b,.s o (x.b2.O.map (bD.enc o))]
def bn.enc_fz(x:bn):dE (bn.enc .own x)=bn.enc .V x:=by simp[dE,bn.enc,Ce,bm.enc_fz,aC.enc_fz,bo.enc_fz,aB.enc_fz,bD.enc_fz,aA.enc_fz,aR.enc_fz,rB,nR,rI,dA,<-bY,W6]
theorem bn.enc_fr(x:bn):ij (bn.enc .own x):=⟨⟨.inl ψ,bh _ _ λy _=>bO y⟩,⟨.inl ψ,bh _ _ λy _=>E8 y⟩,⟨.inl ψ,bh _ _ λy _=>bm.enc_fr y⟩,trivial,⟨.inl ψ,bh _ _ λy _=>pQ y⟩,⟨.inl ψ,bh _ _ λy _=>aB.enc_fr y⟩,⟨.inl ψ,bh _ _ λy _=>aA.enc_fr y⟩,⟨.inl ψ,bh _ _ λy _=>aC.enc_fr y⟩,⟨.inl ψ,bh _ _ λy _=>bo.enc_fr y⟩,⟨.inl ψ,bh _ _ λy _=>aE.enc_fr y⟩,⟨.inl ψ,bh _ _ λy _=>rR y⟩,⟨.inl ψ,bh _ _ λy _=>bO y⟩,trivial,⟨.inl ψ,bh _ _ λy _=>aR.enc_fr y⟩,trivial,trivial,trivial,trivial,trivial,trivial,trivial,⟨.inl ψ,bh _ _ λy _=>pQ y⟩,trivial,trivial,trivial,⟨.inl ψ,bh _ _ λy _=>bD.enc_fr y⟩,trivial⟩
structure T9 where
 a2:Int
 Mapped:Int
 W:Int
 Held:Int
 mK:Int
 Cached:Int
 c4:Int
 Posted:Int
deriving DecidableEq,Inhabited
def Lm{β:Type}{f:α->β}{l:List α}{K:Nat->Prop}(h:K l.length):Ln (l.map f).length K:=Ln.mk (I1 ..) h
def Wm{z:Int}{K:Int->Prop}(h : -9223372036854775808<=z/\z<=9223372036854775807)(a:K z):Wr .i64 z K:=CN (fC h.1 h.2) a
variable{p:Prop}
def dT[Decidable p](h:p)(a:p->X):Bf (decide p) X Y:=.D a λe=>absurd h e
def dF[Decidable p](h:¬p)(a:¬p->Y):Bf (decide p) X Y:=.D (λe=>absurd e h) a
variable{b:Int}
def nT{a:Int}(h:a≠b)(c:a≠b->X):Bf (a != b) X Y:=.N c λe=>absurd e h
def nF{a:Int}(h:a=b)(c:a=b->Y):Bf (a != b) X Y:=.N (λe=>absurd h e) c
def eT{a:Int}(h:a=b)(c:a=b->X):Bf (a == b) X Y:=.E c λe=>absurd h e
def eF{a:Int}(h:a≠b)(c:a≠b->Y):Bf (a == b) X Y:=.E (λe=>absurd e h) c
def Bn{b:Bool}(h:Bf b Y X):Bf (!b) X Y:=.not h
def Bt(h:X):Bf true X Y:=.t rfl h
def Bu(h:Y):Bf false X Y:=.f rfl h
def Fm{b:Kd}(h1:k=b)(h:cs=a):jX k b cs a:=.mk h1 h
def dV[Decidable p](h:p)(a:X):Bf (decide p) X Y:=.D (λ_=>a) λe=>absurd h e
def dW[Decidable p](h:¬p)(a:Y):Bf (decide p) X Y:=.D (λe=>absurd e h) λ_=>a
def nV{a:Int}(h:a≠b)(c:X):Bf (a != b) X Y:=.N (λ_=>c) λe=>absurd e h
def nW{a:Int}(h:a=b)(c:Y):Bf (a != b) X Y:=.N (λe=>absurd h e) λ_=>c
def eV{a:Int}(h:a=b)(c:X):Bf (a == b) X Y:=.E (λ_=>c) λe=>absurd h e
def eW{a:Int}(h:a≠b)(c:Y):Bf (a == b) X Y:=.E (λe=>absurd e h) λ_=>c
structure KP(Y:Prop):Prop where
 out:Y
def gO(y:Y)(h:KP Y->X:=by intro y;(conv=>whnf);(first|with_reducible (first|refine Lm ?_|refine Wm ω ?_|refine Bn ?_|refine Fm rfl ?_)|refine Bt ?_|refine Bu ?_|fail);exact y.out):X:=h ⟨y⟩
def gP(y:Y)(h:KP Y->X:=by intro y;(conv=>whnf);(first|with_reducible (first|refine Lm ?_|refine Wm ω ?_|refine Bn ?_|refine Fm rfl ?_)|refine Bt ?_|refine Bu ?_|refine C9 (by assumption) ?_|refine CE (aa (by assumption)) ?_|refine CG rfl (aa (by assumption)) rfl ?_|refine CC ?_|fail);exact y.out):X:=h ⟨y⟩
def gD(y:Y)(h:KP Y->X:=by intro y;(conv=>whnf);(first|with_reducible (first|refine Lm ?_|refine Wm ω ?_|refine dV ω ?_|refine dW ω ?_|refine Bn ?_|refine Fm rfl ?_)|refine Bt ?_|refine Bu ?_|fail);exact y.out):X:=h ⟨y⟩
def gE(y:Y)(h:KP Y->X:=by intro y;(conv=>whnf);(first|with_reducible (first|refine Lm ?_|refine Wm ω ?_|refine dV ω ?_|refine dW ω ?_|refine Bn ?_|refine Fm rfl ?_)|refine Bt ?_|refine Bu ?_|refine C9 (by assumption) ?_|refine CE (aa (by assumption)) ?_|refine CG rfl (aa (by assumption)) rfl ?_|refine CC ?_|fail);exact y.out):X:=h ⟨y⟩
def gA(y:Y)(h:KP Y->X:=by intro y;(conv=>whnf);(first|with_reducible (first|refine Lm ?_|refine Wm ω ?_|refine dV ω ?_|refine dW ω ?_|refine nV ω ?_|refine nW ω ?_|refine eV ω ?_|refine eW ω ?_|refine Bn ?_|refine Fm rfl ?_)|refine Bt ?_|refine Bu ?_|fail);exact y.out):X:=h ⟨y⟩
def gB(y:Y)(h:KP Y->X:=by intro y;(conv=>whnf);(first|with_reducible (first|refine Lm ?_|refine Wm ω ?_|refine dV ω ?_|refine dW ω ?_|refine nV ω ?_|refine nW ω ?_|refine eV ω ?_|refine eW ω ?_|refine Bn ?_|refine Fm rfl ?_)|refine Bt ?_|refine Bu ?_|refine C9 (by assumption) ?_|refine CE (aa (by assumption)) ?_|refine CG rfl (aa (by assumption)) rfl ?_|refine CC ?_|fail);exact y.out):X:=h ⟨y⟩
def TS{z1 z2:Int}(h:z1=z2):Rk (I z1) (I z2):=by subst h;rfl
def U1(c:C):Rk c c:=(nk [c]).1
def wA(h:X:=by repeat'(first|exact trivial|rfl|refine CM ?_ ?_)):X:=h
def wB(h:X:=by repeat'(first|exact trivial|rfl|refine CM ?_ ?_|(exact TS (by first|omega|(simp only;omega)|(simp;omega))))):X:=h
def wC(h:X:=by repeat'(first|exact trivial|rfl|exact U1 _|refine CM ?_ ?_|(exact TS (by first|omega|(simp only;omega)|(simp;omega))))):X:=h
def fO(n : Nat){a : Func}(tb : List (Nat × Nat × List Nat))(d : Tryz.prog.funcs[f]? = some a)(e : a.body = some c)(g : aw Tryz.prog TE ⟨n, [], []⟩ (DF Tryz.prog TE ⟨n, [], []⟩ tb) c (QT TE a.results.toList k rcs) (lay (wj 0 A)))(b : sh = true \/ ij rcs := by exact .inr ⟨trivial, trivial⟩)(h : (a.name == "runtime.NumGoroutine") = false := by kernel_rfl)(i : gr (ou tb) c = true := by kernel_rfl)(j : A.length + (a.ntmps - A.length) = n := by rfl) : zzA f sh A k rcs := TA d h e i j b g
def fP(n : Nat){a : Func}(mo : List (Nat × List Nat))(tb : List (Nat × Nat × List Nat))(d : Tryz.prog.funcs[f]? = some a)(e : a.body = some c)(g : aw Tryz.prog TE ⟨n, [], mo⟩ (DF Tryz.prog TE ⟨n, [], mo⟩ tb) c (QT TE a.results.toList k rcs) (lay (wj 0 A)))(b : sh = true \/ ij rcs := by exact .inr ⟨trivial, trivial⟩)(h : (a.name == "runtime.NumGoroutine") = false := by kernel_rfl)(i : gr (ou tb) c = true := by kernel_rfl)(j : A.length + (a.ntmps - A.length) = n := by rfl) : zzA f sh A k rcs := TA d h e i j b g
def fM(n : Nat){a : Func}{A B : List MA}(mo : List (Nat × List Nat))(tb : List (Nat × Nat × List Nat))(b : List (Nat × Nat))(g : Tryz.prog.funcs[f]? = some a)(h : a.body = some c)(i : ∀(u : Nat -> Nat -> Value)(p : Nat -> Value), aw Tryz.prog TE ⟨n, KD p 0 A, mo⟩ (DF Tryz.prog TE ⟨n, KD p 0 A, mo⟩ tb) c (RB TE a.results.toList k rcs u A B b) (lay (yS u 0 A)))(d : sh = true \/ ij rcs := by exact .inr ⟨trivial, trivial⟩)(j : (a.name == "runtime.NumGoroutine") = false := by kernel_rfl)(l : gr (ou tb) c = true := by kernel_rfl)(o : A.length + (a.ntmps - A.length) = n := by rfl)(e : Jc (ED 0 A b) = true := by rfl) : zzB f sh A B k rcs := Ue b g j h l o e d i
end Go.Proofs.YtiopgblagimpmaaGreat.Ab
