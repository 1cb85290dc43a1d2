/- A region that draws its order may be run in the text's order, where its operations are apart. No condition. -/
import Derived.Test.YtiopgblagimpmaaGreatKib
import Derived.Orders
import Derived.Test.YtiopgblagimpmaaGreatKia
import Derived.KernelRfl
import Derived.Test.YtiopgblagimpmaaGreatProg
set_option linter.unusedVariables false
set_option linter.defProp false
set_option linter.unusedSimpArgs false
set_option linter.constructorNameAsVariable false
namespace Go.Proofs.YtiopgblagimpmaaGreat.Ab
open Go.RowKit
def db(o:Oper)(i:Nat):Bool:=o.after.toList.any λe=>Region.binds .any e&&Nat.beq e.on i
def dr(ops:Array Oper)(i:Nat):Oper:=ops.getD i default
def below(n:Nat)(p:Nat->Bool):Bool:=(List.range n).all p
def tE(ops:Array Oper)(i j:Nat):Bool:=match(dr ops i).dst with|some d=>((dr ops j).looksAt ops).any (Nat.beq d)|none=>false
def Fj:List Nat->Nat
 | []=>0
 | k::a=>2 ^ k ||| Fj a
def ons(o:Oper):List Nat:=(o.after.toList.filter λe=>Region.binds .any e).map (·.on)
variable{α:Type}
def frc(n:Nat)(K:Nat->α):α:=match n with|0=>K 0|n+1=>K (n+1)
def Pc(n:Nat)(K:Nat->α):frc n K=K n:=by cases n<;>rfl
def clo(ops:Array Oper):Nat->Nat->Nat
 | 0,S=>S
 | k+1,S=>bif S.testBit k then frc (S ||| Fj (ons (dr ops k))) (clo ops k) else clo ops k S
def DH(ops:Array Oper)(m:Nat):Bool:=
 below ops.size λj=>((dr ops j).after.toList.all λe=>!Region.binds .any e || Nat.blt e.on j) &&
  (bif Nat.blt j m then below m (λi=>Nat.beq i j || ((db (dr ops j) i || db (dr ops i) j || (dr ops i).apart ops (dr ops j))&&(!tE ops i j || db (dr ops j) i))) else frc (clo ops j (Fj (ons (dr ops j)))) λS=>below j λi=>S.testBit i)
def yi:List (Nat × Nat × List Nat)->Nat->Option (Nat × List Nat)
 | [],_=>none
 | p::l,id=>bif Nat.beq id p.1 then some p.2 else yi l id
def gu(P:Program)(TE:Nat->Option TI)(N:eZ)(ops:Array Oper)(o:Oper)(K:(Nat->AV)->Prop)(F:Nat->AV):Prop:=
 fA F ops o.guard (λF=>match o.dst with|some d=>dh P TE F o.op λa=>bR N F d a K|none=>False)
  (λF=>match o.dst with|some d=>bR N F d (.H (.tup []) []) K|none=>False)
def nQ:Op->Option (Option Nat × Nat)
 | .buildSlice T 1 ps=>(match ps.toList with|[(0,.tmp s)]=>some (some T,s)|_=>none)
 | .move (.tmp s)=>some (none,s)
 | _=>none
def own1(T:Option Nat)(k:Kd)(cs:List C):Bool:=match T with
 | some _=>(match k with
   | .one=>(match cs with|[c]=>eg c|_=>false)
   | .agg=>(match cs with|[c]=>eg c|_=>false)
   | _=>false)
 | none=>(match k with|.tup _=>!bi cs|_=>false)
def RV(TE:Nat->Option TI)(N:eZ)(F:Nat->AV)(d:Nat)(T:Option Nat)(s:Nat)(K:(Nat->AV)->Prop):Prop:=match T with
 | some T=>fY TE N F d T 1 [(0,.tmp s)] K
 | none=>iX N F d (.tmp s) K
def Jd(F:Nat->AV)(o:Oper):Option (Option Nat × Nat):=
 match o.guard with
 | some _=>none
 | none=>match nQ o.op with
  | none=>none
  | some p=>match F p.2 with
   | .H k cs=>bif own1 p.1 k cs then some p else none
   | .dead=>none
   | .ref ..=>none
   | .c2 ..=>none
   | .iref ..=>none
   | .fn ..=>none
   | .fv _=>none
def jg(ops:Array Oper)(o:Oper)(s:Nat):Bool:=
 ((List.range ops.size).any λk=>db o k&&(match(dr ops k).dst with|some a=>Nat.beq a s|none=>false))&&Nat.ble (ops.toList.filter λk=>(k.looksAt ops).any (Nat.beq s)).length 1
def qq(ds:List Nat)(o:Oper):Bool:=match o.dst with|some d=>ds.any (Nat.beq d)|none=>false
def twk:List Nat->List Nat
 | []=>[]
 | e::l=>bif Nat.ble 1000 e then(e - 1000)::twk l else []
def dec:List Nat->List (Nat × List Nat)
 | []=>[]
 | e::l=>bif Nat.ble 1000 e then dec l else(e,twk l)::dec l
def QW:Op->Bool
 | .move (.tmp _)=>true
 | .assign _=>true
 | .extract ..=>true
 | .build ..=>true
 | .buildSlice ..=>true
 | .store ..=>true
 | .load ..=>true
 | .fieldAddr ..=>true
 | .field ..=>true
 | .binOp ..=>true
 | .unOp ..=>true
 | .call c=>(qS c).isSome
 | .slice _ _ none (some _) none=>true
 | _=>false
def p8:Op->Bool
 | .call c=>(match c.callee with|.value (.func _)=>true|_=>false)
 | _=>false
def yv(l:List (Nat × List Nat))(i:Nat):Bool:=l.any λp=>Nat.beq p.1 i
def vV(ops:Array Oper)(j i:Nat):Bool:=(clo ops j (Fj (ons (dr ops j)))).testBit i
def Tj(o:Oper):Bool:=match o.guard with|none=>true|some _=>false
def TD(sch:List (Nat × List Nat))(i:Nat):Bool:=sch.any λp=>Nat.beq p.1 i&&!p.2.isEmpty
def Tt(ops:Array Oper)(a b:Oper)(nm:Bool):Bool:=match b.dst with
 | none=>false
 | some c=>Tj a&&(QW a.op || p8 a.op)&&!(match a.dst with|some d=>Nat.beq d c|none=>false)&&!(a.looksAt ops).any (Nat.beq c)&&Tj b&&!(b.looksAt ops).any (Nat.beq c)&&(nm || match nQ b.op with|none=>true|some p=>!jg ops b p.2)
def A6(ops:Array Oper)(ds:List Nat)(nm:Nat->Bool)(i j:Nat):Bool:=
 bif qq ds (dr ops j) then(bif qq ds (dr ops i) then(db (dr ops j) i || db (dr ops i) j || (dr ops i).apart ops (dr ops j))&&(!tE ops i j || db (dr ops j) i)&&!(match(dr ops i).dst with|some d=>(match(dr ops j).dst with|some e=>Nat.beq d e|none=>false)|none=>false) else true)
 else(bif qq ds (dr ops i) then(vV ops j i || vV ops i j || Tt ops (dr ops j) (dr ops i) (nm i))&&(!tE ops i j || db (dr ops j) i) else true)
def EI(ops:Array Oper)(ds:List Nat):List (Nat × List Nat)->Bool
 | []=>true
 | k::l=>Nat.blt k.1 ops.size&&!yv l k.1&&((dr ops k.1).after.toList.all λe=>!Region.binds .any e || !(Nat.beq k.1 e.on || yv l e.on)) &&
  (qq ds (dr ops k.1) || ((l.all λj=>vV ops j.1 k.1)&&(below ops.size λp=>!qq ds (dr ops p) || yv l p || vV ops k.1 p || k.2.any (Nat.beq p))&&(!(l.any λj=>qq ds (dr ops j.1)) || (Tj (dr ops k.1)&&(QW (dr ops k.1).op || p8 (dr ops k.1).op)))))&&EI ops ds l
def B2(ops:Array Oper)(ds:List Nat)(sch:List (Nat × List Nat)):Bool:=
 (below ops.size λj=>((dr ops j).after.toList.all λe=>!Region.binds .any e || Nat.blt e.on j)&&yv sch j&&(!qq ds (dr ops j) || (match nQ (dr ops j).op with|none=>true|some p=>!jg ops (dr ops j) p.2 || ds.any (Nat.beq p.2)))&&below ops.size λi=>Nat.beq i j || A6 ops ds (TD sch) i j)&&Nat.beq sch.length ops.size&&EI ops ds sch
def nN(tb:List (Nat × Nat × List Nat))(id:Nat)(ops:Array Oper):Bool:=
 match yi tb id with
 | some (m,ds)=>bif Nat.ble 65536 m then true else bif Nat.ble 256 m then B2 ops (ds.take (m - 256)) (dec (ds.drop (m - 256))) else(Nat.ble m ops.size&&below m λj=>match(dr ops j).dst with|some d=>ds.any (Nat.beq d)|none=>true)&&DH ops m
 | none=>false
def kY(P:Program)(TE:Nat->Option TI)(N:eZ)(ops:Array Oper)(o:Oper)(K:(Nat->AV)->Prop)(F:Nat->AV):Prop:=
 match Jd F o with
 | some p=>(match o.dst with|some d=>bif jg ops o p.2 then RV TE N F d p.1 p.2 K else False|none=>False)
 | none=>gu P TE N ops o K F
def MQ(P:Program)(TE:Nat->Option TI)(N:eZ)(ops:Array Oper):Nat->List Oper->((Nat->AV)->Prop)->(Nat->AV)->Prop
 | 0,l,K,F=>Lv P TE N ops l K F
 | _+1,[],K,F=>K F
 | m+1,o::l,K,F=>kY P TE N ops o (MQ P TE N ops m l K) F
def Qv(ds:List Nat)(t:Nat):Bool:=ds.any (Nat.beq t)
def TP(ds:List Nat):AV->AV
 | .ref t off st=>bif Qv ds t then .dead else .ref t off st
 | .c2 t off st ag=>bif Qv ds t then .dead else .c2 t off st ag
 | .fn f caps=>bif caps.any (Qv ds) then .dead else .fn f caps
 | .H k cs=>.H k cs
 | .iref r off=>.iref r off
 | .fv Ok=>.fv Ok
 | .dead=>.dead
def clr(ds:List Nat)(F:Nat->AV):Nat->AV:=λt=>TP ds (F t)
theorem Db(ds:List Nat)(F:Nat->AV)(t:Nat):clr ds F t=bif ds.any (λd=>(F t).uses d) then .dead else F t:=by
 unfold clr;cases F t with
 | dead=>cases ds.any λd=>AV.uses d .dead<;>rfl
 | H k i=>
  have:ds.any (λd=>(AV.H k i).uses d)=false:=by
   rw[<-U5,t4]
   rintro⟨d,_,h⟩
   cases h
  rw[this];rfl
 | iref r a=>
  have:ds.any (λd=>(AV.iref r a).uses d)=false:=by
   rw[<-U5,t4]
   rintro⟨d,_,h⟩
   cases h
  rw[this];rfl
 | fv Ok=>
  have:ds.any (λd=>(AV.fv Ok).uses d)=false:=by
   rw[<-U5,t4]
   rintro⟨d,_,h⟩
   cases h
  rw[this];rfl
 | ref j a l=>rfl
 | c2 j a l n=>rfl
 | fn f caps=>
  have:ds.any (λd=>(AV.fn f caps).uses d)=caps.any (Qv ds):=by
   rw[Y4,t4,t4];constructor
   ·rintro⟨d,b,h⟩
    simp only[AV.uses,t4]at h;obtain⟨c,e,g⟩:=h;exact⟨c,e,t4.2 ⟨d,b,g⟩⟩
   rintro⟨c,e,h⟩
   obtain⟨d,b,g⟩:=t4.1 h
   grind [AV.uses]
  rw[this];rfl
inductive Sm(a b:AV)(K:Prop):Prop
 |mk_ (h:a=b/\K)
def Sm.rf{a:AV}{K:Prop}(h:K):Sm a a K:=.mk_ ⟨rfl,h⟩
def CB:type_of% @Sm.rf:=@Sm.rf
def Sm.out{a b:AV}{K:Prop}(h:Sm a b K):a=b/\K:=h.1
def Ti(P:Program)(TE:Nat->Option TI)(ops:Array Oper)(p:Nat)(K:Prop)(F:Nat->AV):Prop:=
 match(dr ops p).dst with
 | none=>False
 | some d=>(match Jd F (dr ops p) with
   | some _=>False
   | none=>dh P TE F (dr ops p).op λa=>Sm a (F d) K)
def MF(P:Program)(TE:Nat->Option TI)(ops:Array Oper):List Nat->Prop->(Nat->AV)->Prop
 | [],K,_=>K
 | p::l,K,F=>Ti P TE ops p (MF P TE ops l K F) F
def Mm(P:Program)(TE:Nat->Option TI)(N:eZ)(ops:Array Oper)(nm:Bool)(o:Oper)(K:(Nat->AV)->Prop)(F:Nat->AV):Prop:=
 match nm with
 | false=>kY P TE N ops o K F
 | true=>(match Jd F o with
   | some _=>False
   | none=>gu P TE N ops o K F)
def Li(P:Program)(TE:Nat->Option TI)(N:eZ)(ops:Array Oper)(ds:List Nat)(nm:Nat->Bool):List (Nat × List Nat)->((Nat->AV)->Prop)->(Nat->AV)->Prop
 | [],K,F=>K F
 | k::l,K,F=>bif qq ds (dr ops k.1) then Mm P TE N ops (nm k.1) (dr ops k.1) (Li P TE N ops ds nm l K) F else iH P TE N ops (dr ops k.1) (λa=>MF P TE ops k.2 (Li P TE N ops ds nm l K a) a) F
def Q3:List Nat->(List Nat->Prop)->Prop
 | [],K=>K []
 | a::l,K=>Q3 l λb=>K (a::b)
def J8:∀(l:List Nat)(K:List Nat->Prop),Q3 l K=K l
 | [],_=>rfl
 | a::l,K=>by rw[Q3,J8 l]
def DQ(l:List Nat)(j:Nat):Bool:=l.any (Nat.beq j)
def Np(ops:Array Oper)(done:List Nat):List Nat:=(List.range ops.size).filter λj=>!DQ done j&&((dr ops j).after.toList.all λe=>!Region.binds .any e || DQ done e.on)
def TX(p:Nat->Prop):Nat->List Nat->Prop
 | i,[]=>p i
 | i,j::l=>p i/\TX p j l
def TM(l:List Nat)(K:Prop)(p:Nat->Prop):Prop:=match l with
 | []=>K
 | i::l=>TX p i l
def R9(P:Program)(TE:Nat->Option TI)(N:eZ)(ops:Array Oper)(K:(Nat->AV)->Prop):Nat->List Nat->(Nat->AV)->Prop
 | 0,done,F=>TM (Np ops done) (K F) λ_=>False
 | n+1,done,F=>TM (Np ops done) (K F) λi=>iH P TE N ops (dr ops i) (R9 P TE N ops K n (i::done)) F
def DD(P:Program)(TE:Nat->Option TI)(N:eZ)(tb:List (Nat × Nat × List Nat))(id:Nat)(ops:Array Oper)(K:(Nat->AV)->Prop)(F:Nat->AV):Prop:=
 match yi tb id with
 | some (m,ds)=>bif Nat.ble 65536 m then R9 P TE N ops K ops.size [] F else bif Nat.ble 256 m then Q3 (ds.take (m - 256)) λa=>Li P TE N ops a (TD (dec (ds.drop (m - 256)))) (dec (ds.drop (m - 256))) K (clr a F) else MQ P TE N ops m ops.toList K (clr ds F)
 | none=>False
variable{i n:Nat}
theorem gG{p:Nat->Bool}(h:below n p=true)(a:i<n):p i=true:=v4.1 h i ψ
theorem cr{o:Oper} : db o i=true↔∃e,e∈o.after/\Region.binds .any e=true/\e.on=i:=by grind [I2,Nat.beq_refl,db]
theorem bz{ops:Array Oper}{o:Oper}(h:ops[i]? = some o):dr ops i=o:=by simp[dr,W6,h]
section
variable{P:Program}{w0 w w1:World}{M S0 S:ah}{N:eZ}{φ:Nat->ah}{F:Nat->AV}{a:Act}{TE:Nat->Option TI}{ops:Array Oper}
variable{d:Nat}
theorem AB{b:Bool}(a:F d=.H .one [.v (.bool b)]):E4 F d b=F:=by grind [I2,E4]
theorem iq(o:Oper)(t:Nat)(h:t∈dy o.op):t∈o.looksAt ops:=by grind [Go.Oper.looksAt,dy,tm]
structure TW(P:Program)(TE:Nat->Option TI)(N:eZ)(ops:Array Oper)(o:Oper)(F:Nat->AV)(d:Nat)(av:AV):Prop where
 dst:o.dst=some d
 lt:N.free d=true
 self:av.uses d=false
 from_:eB F (o.looksAt ops) av
 at_:∀F':Nat->AV,gU F F' (o.looksAt ops)->∀K':(Nat->AV)->Prop,K' (put F' d av)->gu P TE N ops o K' F'
def gU.refl(F:Nat->AV)(ts:List Nat):gU F F ts:=λ_ _=>⟨rfl,λ_ _ _ _ h=>h⟩
theorem Cc:type_of% @gU.refl:=@gU.refl
variable{K:(Nat->AV)->Prop}{o:Oper}
theorem yq(h:gu P TE N ops o K F):∃d av,TW P TE N ops o F d av/\K (put F d av):=by
 cases e:o.dst with
 | none=>
  exfalso;unfold gu at h;rw[e]at h;unfold fA at h
  grind [Bf.out]
 | some d=>
  have put1:∀{a:Nat->AV}{av:AV}{c:(Nat->AV)->Prop},N.free d=true->av.uses d=false->c (put a d av)->bR N a d av c:=λA B E=>by grind [bR]
  have put2:∀{a:Nat->AV}{av:AV}{c:(Nat->AV)->Prop},bR N a d av c->N.free d=true/\av.uses d=false/\c (put a d av):=fun {a av c} n=>by grind [bR]
  have pure1:dh P TE F o.op (λav=>bR N F d av K)->∃av,N.free d=true/\av.uses d=false/\K (put F d av)/\eB F (o.looksAt ops) av/\∀a:Nat->AV,gU F a (o.looksAt ops)->∀c:(Nat->AV)->Prop,c (put a d av)->dh P TE a o.op (λav=>bR N a d av c):=λn=>by
   obtain⟨av,A,B,E⟩:=jU n
   grind [eB.mono,iq,gU.mono]
  unfold gu at h;rw[e]at h;unfold fA at h;cases r:o.guard with
  | none=>
   rw[r]at h;obtain⟨av,i,k,l,w,C⟩:=pure1 h;exact⟨d,av,⟨e,i,k,w,λa f c t=>by unfold gu fA;simp_all⟩,l⟩
  | some p=>
   obtain⟨j,want⟩:=p;rw[r]at h;simp only at h;cases y:(ops[j]?).bind (·.dst) with
   | none=>grind
   | some u=>
    rw[y]at h;simp only at h;have q:u∈o.looksAt ops:=by grind [Go.Oper.looksAt]
    split at h
    case h_3=>exact h.elim
    case h_2=>
     rename_i J L g;obtain⟨i,k,l⟩:=put2 h;refine⟨d,.H (.tup []) [],⟨e,i,k,(λd e=>by cases e),λa f c t=>?_⟩,l⟩;unfold gu fA;rw[r,e];simp only;rw[y];simp only;rw[(f u q).1.trans g];exact put1 i k t
    rename_i b g;have same:∀{a:Nat->AV},gU F a (o.looksAt ops)->a u=.H .one [.v (.bool b)]:=λf=>(f u q).1.trans g
    have back:∀{a:Nat->AV}{c:(Nat->AV)->Prop},gU F a (o.looksAt ops)->(b=want->dh P TE a o.op (λav=>bR N a d av c))->(b = !want->bR N a d (.H (.tup []) []) c)->gu P TE N ops o c a:=fun {a c} f A B=>by
     unfold gu fA;rw[r,e];simp only;rw[y];simp only;rw[same f];simp only;refine Bf.P (λG=>?_) (λG=>?_)
     all_goals grind [AB]
    have D:=AB g;replace h:=Bf.out h;by_cases H:b=want
    ·have n:dh P TE F o.op (λav=>bR N F d av K):=ψ
     obtain⟨av,i,k,l,w,C⟩:=pure1 n;exact⟨d,av,⟨e,i,k,w,λa f c t=>back f (λ_=>C a f c t) ψ⟩,l⟩
    have n:bR N F d (.H (.tup []) []) K:=ψ
    obtain⟨i,k,l⟩:=put2 n;exact⟨d,.H (.tup []) [],⟨e,i,k,(λd e=>by cases e),ψ⟩,l⟩
def aft:AV->AV
 | .H k a=>.H k (splice a 0 (List.replicate a.length .x))
 | _=>.H .one [.x]
theorem M6(v:AV)(e:Nat):(aft v).uses e=false:=by unfold aft;split<;>rfl
def eff(a:Option Nat)(d:Nat)(av:AV)(F:Nat->AV):Nat->AV:=λt=>if t=d then av else if a=some t then aft (F t) else F t
theorem D1(av:AV)(a:∀t,(F t).uses d=false):put F d av=eff none d av F:=by grind [oR,i7,AO,eff]
variable{s:Nat}
theorem Rs{v:AV}(h:v.uses s=false):tj s v=v:=by
 cases v with
 | c2 t a b c=>grind [AV.uses,tj]
 | ref t a b=>simp only[AV.uses]at h;cases b<;>simp[tj,h]
 | _=>rfl
theorem NC{k:Kd}{cs:List C}(av:AV)(a:F s=.H k cs)(c:∀t,(F t).uses d=false)(e:∀t,(F t).uses s=false):put (updH F s k (splice cs 0 (List.replicate cs.length .x))) d av=eff (some s) d av F:=by
 funext t
 unfold eff;by_cases h:t=d
 ·grind [oR]
 rw[i7 _ _ h,C9 h];by_cases b:t=s
 ·subst b;rw[iA,CC rfl,a];rfl
 grind [Nat.beq_eq,Rs,AO,updH]
theorem Hi{T:Nat}{k:Kd}{c:C}(o:k=.one\/k=.agg)(p:F s=.H k [c])(q:eg c=true)(h:fY TE N F d T 1 [(0,.tmp s)] K) :
  ∃av,N.free d=true/\(∀e,av.uses e=false)/\K (put (updH F s k [.x]) d av)/\∀(F':Nat->AV)(b:(Nat->AV)->Prop),F' s=.H k [c]->b (put (updH F' s k [.x]) d av)->fY TE N F' d T 1 [(0,.tmp s)] b:=by
 have key:∀F':Nat->AV,F' s=.H k [c]->∀b:(Nat->AV)->Prop,fY TE N F' d T 1 [(0,.tmp s)] b=G9 TE T λ_ a=>bif Nat.ble (1*a.size) 16777216 then(bif Nat.beq 1 a.size&&Nat.ble (0*a.size+a.size) (rep a.zero 1).length then bR N (updH F' s k [.x]) d (.H .one [.s .own (chunk a.size 1 (splice (rep a.zero 1) (0*a.size) [c]))]) b else False) else False:=by
  intro F' f b;unfold fY
  congr 1
  funext e a
  rcases o with rfl|rfl<;>simp only[dn,fillW,TJ,vk,nh,f,iw,bi,q,cond_true,cond_false,gz,pD,List.length_singleton,List.replicate]
  all_goals rfl
 rw[key F p]at h;obtain⟨e,a,g,n⟩:=im h;cases i:Nat.ble (1*a.size) 16777216 with
 | false=>grind
 | true=>
  cases j:(Nat.beq 1 a.size&&Nat.ble (0*a.size+a.size) (rep a.zero 1).length) with
  | false=>grind
  | true=>
   rw[i,j]at g;simp only[cond_true]at g;unfold bR at g;cases l:N.free d with
   | false=>grind
   | true=>
    rw[l]at g;refine⟨_,rfl,λ_=>rfl,g,λF' b f r=>?_⟩
    grind [bR]
variable{T:Option Nat}
theorem R3{k:Kd}{cs:List C}(j:F s=.H k cs)(l:own1 T k cs=true)(h:RV TE N F d T s K) :
  ∃av,N.free d=true/\(∀e,av.uses e=false)/\K (put (updH F s k (splice cs 0 (List.replicate cs.length .x))) d av)/\∀(F':Nat->AV)(a:(Nat->AV)->Prop),F' s=.H k cs->a (put (updH F' s k (splice cs 0 (List.replicate cs.length .x))) d av)->RV TE N F' d T s a:=by
 cases T with
 | some T=>
  have f:(k=.one\/k=.agg)/\∃c,cs=[c]/\eg c=true:=by
   unfold own1 at l
   grind
  obtain⟨n,c,rfl,o⟩:=f;exact Hi n j o h
 | none=>
  have f:∃b,k=.tup b/\bi cs=false:=by
   unfold own1 at l
   grind
  obtain⟨b,rfl,p⟩:=f;have key:∀F':Nat->AV,F' s=.H (.tup b) cs->∀a,RV TE N F' d none s a=bR N (updH F' s (.tup b) (splice cs 0 (List.replicate cs.length .x))) d (.H (.tup b) cs) a:=λF' g a=>by grind [RV,iX]
  rw[key F j]at h;unfold bR at h;cases i:N.free d with
  | false=>grind
  | true=>
   rw[i]at h;refine⟨_,rfl,λ_=>rfl,h,λF' a g q=>?_⟩
   grind [bR]
structure Yl(P:Program)(TE:Nat->Option TI)(N:eZ)(ops:Array Oper)(o:Oper)(F:Nat->AV)(mv:Option Nat)(d:Nat)(av:AV):Prop where
 dst:o.dst=some d
 lt:N.free d=true
 self:av.uses d=false
 from_:eB F (o.looksAt ops) av
 mvl:∀s,mv=some s->o.guard=none/\(∃T,nQ o.op=some (T,s))/\jg ops o s=true
 at_:∀F':Nat->AV,gU F F' (o.looksAt ops)->(∀t,(F' t).uses d=false)->(∀s,mv=some s->∀t,(F' t).uses s=false)->∀K':(Nat->AV)->Prop,K' (eff mv d av F')->kY P TE N ops o K' F'
theorem J2{o:Op}(h:nQ o=some (T,s)):(∃a ps,T=some a/\o=.buildSlice a 1 ps/\ps.toList=[(0,.tmp s)])\/(T=none/\o=.move (.tmp s)):=by
 unfold nQ at h
 grind
theorem cZ(h:nQ o.op=some (T,s)):s∈o.looksAt ops:=by
 refine iq o s ?_;unfold dy;refine List.mem_flatMap.2 ⟨.tmp s,?_,by simp[tm]⟩
 grind [J2,Go.Op.operands]
theorem Ej{p:Option Nat × Nat}(h:Jd F o=some p):o.guard=none/\nQ o.op=some p/\∃k cs,F p.2=.H k cs/\own1 p.1 k cs=true:=by grind [Jd]
theorem wh{F':Nat->AV}(a:gU F F' (o.looksAt ops)):Jd F' o=Jd F o:=by
 unfold Jd;cases c:o.guard with
 | some _=>rfl
 | none=>
  cases b:nQ o.op with
  | none=>rfl
  | some p=>simp only;rw[(a p.2 (cZ b)).1]
theorem rZ(c:Jd F o=none)(h:gu P TE N ops o K F)(e:∀d,o.dst=some d->∀t,(F t).uses d=false):∃d av,Yl P TE N ops o F none d av/\K (eff none d av F):=by
 obtain⟨d,av,a,f⟩:=yq h;refine⟨d,av,⟨a.dst,a.lt,a.self,a.from_,ψ,λg i j _ k b=>?_⟩,by grind [D1,TW.dst]⟩
 grind [wh,TW.at_,D1,kY]
theorem pK(h:kY P TE N ops o K F)(E:∀d,o.dst=some d->∀t,(F t).uses d=false)(y:∀T s,o.guard=none->nQ o.op=some (T,s)->jg ops o s=true->∀t,(F t).uses s=false) :
  ∃r d av,Yl P TE N ops o F r d av/\K (eff r d av F):=by
 unfold kY at h;cases f:Jd F o with
 | none=>
  grind [rZ]
 | some p=>
  rw[f]at h;obtain⟨G,a,k,H,g,b⟩:=Ej f;simp only at h;cases i:o.dst with
  | none=>grind
  | some d=>
   rw[i]at h;simp only at h;cases c:jg ops o p.2 with
   | false=>grind
   | true=>
    rw[c]at h;simp only[cond_true]at h;obtain⟨av,A,u,J,B⟩:=R3 g b h;refine⟨some p.2,d,av,⟨i,A,u d,λe w=>(by rw[u e]at w;cases w),λs y=>?_,λC j l n D q=>?_⟩,?_⟩
    ·grind
    ·unfold kY
     rw[wh j,f];simp only;rw[i];simp only;rw[c];refine B C D ((j p.2 (cZ a)).1.trans g) ?_;rw[NC av ((j p.2 (cZ a)).1.trans g) l (n p.2 rfl)];exact q
    grind [NC]
theorem KR{nm:Bool}(h:Mm P TE N ops nm o K F)(b:∀d,o.dst=some d->∀t,(F t).uses d=false)(c:∀T s,o.guard=none->nQ o.op=some (T,s)->jg ops o s=true->∀t,(F t).uses s=false) :
  ∃a d av,Yl P TE N ops o F a d av/\K (eff a d av F)/\(nm=true->a=none):=by
 unfold Mm at h
 grind [pK,rZ]
end
section
variable{P:Program}{w0 w w1:World}{M S0 S:ah}{N:eZ}{φ:Nat->ah}{F:Nat->AV}{a:Act}{TE:Nat->Option TI}{ops:Array Oper}
def xV(P:Program)(TE:Nat->Option TI)(N:eZ)(ops:Array Oper)(m i:Nat)(K:(Nat->AV)->Prop)(F:Nat->AV):Prop:=
 match ops[i]? with
 | none=>K F
 | some o=>if i<m then kY P TE N ops o K F else iH P TE N ops o K F
def GJ(P:Program)(TE:Nat->Option TI)(N:eZ)(ops:Array Oper)(m:Nat)(K:(Nat->AV)->Prop):Nat->Array Bool->(Nat->AV)->Prop
 | 0,listed,F=>Region.ready .any ops listed=[]/\K F
 | fuel+1,listed,F=>(Region.ready .any ops listed=[]->K F)/\∀i,i∈Region.ready .any ops listed->xV P TE N ops m i (GJ P TE N ops m K fuel (listed.setIfInBounds i true)) F
variable{Q:Exit->Act->World->Prop}{Kc:Act->World->Prop}{K:(Nat->AV)->Prop}{o:Oper}
theorem bg.oneP0(h:bg w0 M S0 N S φ F a w)(c:∀t i,TE t=some i->gV P t i)(b:gu P TE N ops o K F)(p:∀F' j e,K F'->St w0 M S0 N F' j e->Kc j e) :
  if Region.wanted o (yielded ops a.tmps) then o.wp P a w Kc Q else Kc (a.put o.dst undef) w:=by
 unfold gu at b;rcases x9 h b with⟨f,b⟩|⟨f,b⟩
 ·rw[f,CC rfl]
  cases g:o.dst with
  | none=>grind
  | some d=>
   rw[g]at b;obtain⟨av,k,l⟩:=h.pure_ c b;refine l Kc Q λv e q=>?_
   grind [bg.putD_new]
 rw[f,C9 (by simp)];cases g:o.dst with
 | none=>grind
 | some d=>
  rw[g]at b;obtain⟨F',k,n⟩:=h.putD_new (v:=undef) (lJ.same (av:=.H (.tup []) []) LZ) b
  grind
variable{d:Nat}
def LB{p:Option Nat × Nat}(f:Jd F o=some p)(c:o.dst=some d)(h:RV TE N F d p.1 p.2 K):iH P TE N ops o K F:=by
 obtain⟨e,a,-⟩:=Ej f;obtain⟨T,s⟩:=p;rcases J2 a with⟨i,j,rfl,b,g⟩|⟨rfl,b⟩
 ·unfold iH fA
  rw[e];simp only;rw[b];simp only[A7];rw[c];simp only[ku,g];exact h
 unfold iH fA;rw[e];simp only;rw[b];simp only[A7];rw[c];simp only[ku];exact h
theorem bg.oneP(h:bg w0 M S0 N S φ F a w)(c:∀t i,TE t=some i->gV P t i)(b:kY P TE N ops o K F)(g:∀F' j k,K F'->St w0 M S0 N F' j k->Kc j k) :
  if Region.wanted o (yielded ops a.tmps) then o.wp P a w Kc Q else Kc (a.put o.dst undef) w:=by
 unfold kY at b;cases e:Jd F o with
 | none=>rw[e]at b;exact h.oneP0 c b g
 | some p=>
  rw[e]at b;simp only at b;cases l:o.dst with
  | none=>grind
  | some d=>
   rw[l]at b;simp only at b;cases f:jg ops o p.2 with
   | false=>grind
   | true=>
    rw[f]at b;have:=h.one c (LB (P:=P) (ops:=ops) e l b) (Q:=Q) g
    grind
variable{m i:Nat}
theorem HE(c:∀t i,TE t=some i->gV P t i)(b:xV P TE N ops m i K F)(g:St w0 M S0 N F a w)(d:∀F' e f,K F'->St w0 M S0 N F' e f->Kc e f):wpOp P ops Q i Kc a w:=by
 unfold xV at b;unfold wpOp;cases j:ops[i]? with
 | none=>grind
 | some o=>
  rw[j]at b;simp only at b |-;obtain⟨S,φ,h⟩:=g;have:if Region.wanted o (yielded ops a.tmps) then o.wp P a w Kc Q else Kc (a.put o.dst undef) w:=by
   split at b
   ·exact h.oneP c b d
   exact h.one c b d
  grind
def Ae(b:∀t i,TE t=some i->gV P t i){m:Nat}{K:(Nat->AV)->Prop}{Q:Exit->Act->World->Prop}(g:∀F' d e,K F'->St w0 M S0 N F' d e->Q .normal d e) :
  ∀(fuel:Nat)(listed:Array Bool)(F:Nat->AV)(a:Act)(w:World),GJ P TE N ops m K fuel listed F->St w0 M S0 N F a w->wpAny P .any ops Q fuel listed a w
 | 0,_,F,a,w,c,f=>⟨c.1,g F a w c.2 f⟩
 | fuel+1,_,F,a,w,c,f=>⟨λj=>g F a w (c.1 j) f,λi k=>HE b (c.2 i k) f λF' d e l h=>Ae b g fuel _ F' d e l h⟩
structure AF(ops:Array Oper)(m:Nat)(F:Nat->AV)(listed:Array Bool):Prop where
 dst:∀j o d,j<m->ops[j]? = some o->listed.getD j true=false->o.dst=some d->∀t,(F t).uses d=false
 mv:∀j o T s,j<m->ops[j]? = some o->listed.getD j true=false->o.guard=none->nQ o.op=some (T,s)->jg ops o s=true->∀t,(F t).uses s=false
def DC(ops:Array Oper)(listed:Array Bool):Prop:=∀j a,ops[j]? = some a->listed.getD j false=true->∀k,db a k=true->listed.getD k false=true
variable{e:Nat}
theorem PE{v:AV}(h:(kl d v).uses e=true):v.uses e=true/\v.uses d=false:=by
 rw[AO]at h;cases a:v.uses d with
 | true=>rw[a]at h;cases h
 | false=>grind
theorem wy{α:Type}{p:α->Bool} : ∀{l:List α}{i j:Nat}{x y:α},(l.filter p).length<=1->l[i]? = some x->l[j]? = some y->p x=true->p y=true->i=j
 | [],_,_,_,_,_,h,_,_,_=>by simp at h
 | a::l,0,0,_,_,_,_,_,_,_=>rfl
 | a::l,i+1,j+1,x,y,h,b,c,d,e=>by
  rw[wy (l:=l) (Z4 (List.Sublist.length_le ((List.sublist_cons_self a l).filter p)) h) b c d e]
 | a::l,0,j+1,x,y,h,b,c,d,e=>by
  simp only[List.getElem?_cons_zero,Z0]at b;subst b;rw[List.filter_cons_of_pos d]at h;have:y∈l.filter p:=U4.2 ⟨C2 c,e⟩;have:=List.length_pos_of_mem this;rw[List.length_cons]at h;omega
 | a::l,i+1,0,x,y,h,b,c,d,e=>by
  simp only[List.getElem?_cons_zero,Z0]at c;subst c;rw[List.filter_cons_of_pos e]at h;have:x∈l.filter p:=U4.2 ⟨C2 b,d⟩;have:=List.length_pos_of_mem this;rw[List.length_cons]at h;omega
variable{j:Nat}{listed:Array Bool}
theorem iB{a:Nat}(b:(listed.setIfInBounds j true).getD a true=false):a≠j:=λe=>by simp_all
variable{av:AV}{t:Nat}
theorem jZ{a:Option Nat}(b:av.uses e=false)(c:(F t).uses e=false):(eff a d av F t).uses e=false:=by grind [M6,eff]
theorem AF.put{o:Option Nat}(h:AF ops m F listed)(p:∀a b g,a<m->a≠j->ops[a]? = some b->listed.getD a true=false->b.dst=some g->av.uses g=false)(q:∀a b T s,a<m->a≠j->ops[a]? = some b->listed.getD a true=false->b.guard=none->nQ b.op=some (T,s)->jg ops b s=true->av.uses s=false) :
  AF ops m (eff o d av F) (listed.setIfInBounds j true):=by
 refine⟨λa b g i c e k t=>?_,λa b T s i c e r l n t=>?_⟩
 ·have f:=iB e
  rw[getD_set_ne true (Ne.symm f)]at e;exact jZ ψ (h.dst a b g i c e k t)
 have f:=iB e;rw[getD_set_ne true (Ne.symm f)]at e;exact jZ ψ (h.mv a b T s i c e r l n t)
inductive o8(ops:Array Oper):Nat->Nat->Prop
 |one {j i:Nat} (h:db (dr ops j) i=true):o8 ops j i
 |step {j k i:Nat} (h:db (dr ops j) k=true) (h2:o8 ops k i):o8 ops j i
def o8.trans{k:Nat}(h:o8 ops j k)(a:o8 ops k i):o8 ops j i:=by
 induction h with
 | one h=>exact .step h a
 | step h _ b=>exact .step h (b a)
theorem FT{i:Nat} : ∀{a:List Nat},(Fj a).testBit i=true->i∈a
 | [],h=>by simp[Fj]at h
 | k::a,h=>by
  rw[Fj,Nat.testBit_or,O6]at h;rcases h with h|h
  ·grind
  exact O5 _ (FT h)
theorem xC(h:(Fj (ons o)).testBit i=true):db o i=true:=by
 have:=FT h
 grind [cr,ons]
def t6{j:Nat} : ∀(k S:Nat),(∀i,S.testBit i=true->o8 ops j i)->∀i,(clo ops k S).testBit i=true->o8 ops j i
 | 0,_,h,i,a=>h i a
 | k+1,S,h,i,a=>by
  rw[clo,Pc]at a;cases c:S.testBit k with
  | false=>rw[c]at a;exact t6 k S h i a
  | true=>
   rw[c]at a;refine t6 k _ (λe b=>?_) i a;rw[Nat.testBit_or,O6]at b;rcases b with d|d
   ·exact h e d
   exact(h k c).trans (.one (xC d))
theorem nt(d:DC ops listed)(b:∀j n,ops[j]? = some n->∀e∈n.after,Region.binds .any e=true->e.on<j)(o:o8 ops j i):j<ops.size->(∀k,db (dr ops j) k=true->listed.getD k false=true)->listed.getD i false=true:=by
 induction o with
 | one h=>grind
 | @step j k i h h2 ih=>
  intro f p;have r:k<j:=by
   have c:=(show ops[j]? = some ops[j] from U6 f)
   rw[bz c]at h;obtain⟨e,g,l,rfl⟩:=cr.1 h;exact b j _ c e g l
  have a:k<ops.size:=ω
  have c:=(show ops[k]? = some ops[k] from U6 a)
  exact ih a λq a=>d k _ c (p k h) q (by rw[bz c]at a;exact a)
theorem DC.put(h:DC ops listed)(d:j∈Region.ready .any ops listed):DC ops (listed.setIfInBounds j true):=by
 obtain⟨l,n,f,b⟩:=mem_ready.1 d;intro k ok g c e i;by_cases a:k=j
 ·grind [cr,Go.getD_set_true]
 rw[getD_set_ne false (Ne.symm a)]at c;exact getD_set_true (h k ok g c e i)
theorem gh{s:Nat}(h:jg ops o s=true):(∃k ok,db o k=true/\ops[k]? = some ok/\ok.dst=some s)/\∀(i j:Nat)(a b:Oper),ops[i]? = some a->ops[j]? = some b->s∈a.looksAt ops->s∈b.looksAt ops->i=j:=by
 unfold jg at h;rw[I0]at h;obtain⟨q,c⟩:=h;constructor
 ·grind [bz,I2]
 intro i j a b d e f g;have l:=I1 c;have n:ops.toList[i]? = some a:=by simpa using d
 have p:ops.toList[j]? = some b:=by simpa using e
 grind [Nat.beq_refl,wy]
structure Ri(ops:Array Oper)(m:Nat):Prop where
 back:∀j oj,ops[j]? = some oj->∀e∈oj.after,Region.binds .any e=true->e.on<j
 tail:∀j,m<=j->j<ops.size->∀i,i<j->o8 ops j i
 apart:∀i j oi oj,i<m->j<m->i≠j->ops[i]? = some oi->ops[j]? = some oj->db oj i=true\/db oi j=true\/oi.apart ops oj=true
 look:∀i j oi oj d,i<m->j<m->i≠j->ops[i]? = some oi->ops[j]? = some oj->oi.dst=some d->d∈oj.looksAt ops->db oj i=true
theorem Fn(h:DH ops m=true):Ri ops m:=by
 have o:∀j b,ops[j]? = some b->_:=λj b a=>gG h (W3.1 a).1
 refine⟨λj b a e t p=>?_,λj u a i f=>?_,λi j q b f a g r k=>?_,λi j q b d f a g r k w y=>?_⟩
 ·grind [bz,Nat.blt_eq]
 ·have l:=(show ops[j]? = some ops[j] from U6 a)
  have:=o j _ l;simp only[I0]at this;have c:=this.2;rw[show Nat.blt j m=false by rw[<-U5,Nat.blt_eq];omega]at c;simp only[cond_false,Pc]at c;exact t6 j _ (λA n=>.one (xC n)) i (gG c f)
 ·grind [bz,Nat.blt_eq,gG,Nat.beq_eq]
 have:=o j b k;rw[bz k]at this;simp only[I0]at this;have c:=this.2;rw[show Nat.blt j m=true by simpa[Nat.blt_eq] using a]at c
 grind [gG,bz,Nat.beq_eq,tE]
theorem LD(V:Ri ops m){c:Oper}{u:Option Nat}(R:ops[i]? = some c)(w:i<m) :
  ∀(fuel:Nat)(listed:Array Bool)(F:Nat->AV),i∈Region.ready .any ops listed->AF ops m F listed->DC ops listed->Yl P TE N ops c F u d av->GJ P TE N ops m K fuel (listed.setIfInBounds i true) (eff u d av F)->GJ P TE N ops m K (fuel+1) listed F:=by
 have self:∀(listed:Array Bool)(F:Nat->AV),i∈Region.ready .any ops listed->AF ops m F listed->Yl P TE N ops c F u d av->∀S:(Nat->AV)->Prop,S (eff u d av F)->kY P TE N ops c S F:=λlisted F W a g S hK=>by
  have b:=(mem_ready.1 W).1;refine g.at_ F (Cc _ _) (a.dst i c d w R b g.dst) (λs X=>?_) S hK;obtain⟨A,⟨T,h2⟩,h3⟩:=g.mvl s X;exact a.mv i c T s w R b A h2 h3
 intro fuel
 induction fuel with
 | zero=>
  intro listed F W a E g H;refine⟨ψ,λj Y=>?_⟩;by_cases n:j=i
  ·grind [xV]
  have:=ready_mono Y n;rw[H.1]at this;cases this
 | succ fuel ih=>
  intro listed F W a E g H;refine⟨ψ,λj Y=>?_⟩;by_cases n:j=i
  ·grind [xV]
  have A:=H.2 j (ready_mono Y n);obtain⟨B,f,o,hall⟩:=mem_ready.1 Y;have b:=(mem_ready.1 W).1;have unl:∀k,listed.getD k true=false->listed.getD k false=true->False:=ψ
  have noedge:∀k ok,ops[k]? = some ok->listed.getD k true=false->db f k=false:=λk ok hk Z=>by grind [cr]
  have noedge':∀k ok,ops[k]? = some ok->listed.getD k true=false->db c k=false:=λk ok hk Z=>by grind [cr,Go.mem_ready]
  have G:j<m:=by
   rcases Nat.lt_or_ge j m with h|h
   ·exact h
   have C:=(W3.1 o).1;refine(unl i b (nt E V.back (V.tail j h C i ω) C λk hk=>?_)).elim
   grind [bz,cr]
  have hap:c.apart ops f=true:=by grind [Ri.apart]
  obtain⟨ap1,ap2,ap3⟩:=Oper.apart_spec hap;unfold xV at A |-;rw[o]at A |-;simp only[CC G]at A |-;have hdl:d∉f.looksAt ops:=ap1 d g.dst;have cd:∀t,(F t).uses d=false:=a.dst i c d w R b g.dst
  have cdj':∀l,f.dst=some l->∀t,(F t).uses l=false:=λl J=>a.dst j f l G o B J
  have cmv:∀s,u=some s->(∀t,(F t).uses s=false)/\s∉f.looksAt ops/\s∈c.looksAt ops:=λs X=>by
   obtain⟨L,⟨T,q⟩,r⟩:=g.mvl s X;exact⟨a.mv i c T s w R b L q r,λhl=>n ((gh r).2 i j c f R o (cZ q) hl).symm,cZ q⟩
  have cmvj:∀T s,f.guard=none->nQ f.op=some (T,s)->jg ops f s=true->(∀t,(F t).uses s=false)/\s∉c.looksAt ops/\s∈f.looksAt ops:=λT s L q r=>
   ⟨a.mv j f T s G o B L q r,λhl=>n ((gh r).2 i j c f R o hl (cZ q)).symm,cZ q⟩
  have avno:∀e,e∉c.looksAt ops->(∀t,(F t).uses e=false)->av.uses e=false:=λe A h2=>by
   cases hu:av.uses e with
   | false=>rfl
   | true=>
    rcases g.from_ e hu with h|⟨t,_,h⟩
    all_goals grind
  obtain⟨mvj,l,avj,p,hKj⟩:=pK A (λl J t=>jZ ψ (cdj' l J t)) (λT s L q r t=>by grind [jZ]);have hdne:d≠l:=λe=>ap2 d g.dst (by rw[p.dst,e])
  have hdjl:l∉c.looksAt ops:=ap3 l p.dst;have cdj:∀t,(F t).uses l=false:=cdj' l p.dst
  have cmj:∀s,mvj=some s->(∀t,(F t).uses s=false)/\s∉c.looksAt ops/\s∈f.looksAt ops:=λs X=>by
   obtain⟨L,⟨T,q⟩,r⟩:=p.mvl s X
   grind
  have lookj:∀t,t∈f.looksAt ops->eff u d av F t=F t:=λt U=>by grind [eff]
  have looki:∀t,t∈c.looksAt ops->eff mvj l avj F t=F t:=λt U=>by grind [eff]
  have avjno:∀e,e∉f.looksAt ops->(∀t,(F t).uses e=false)->avj.uses e=false:=λe A h2=>by
   cases hu:avj.uses e with
   | false=>rfl
   | true=>
    rcases p.from_ e hu with h|⟨t,U,h⟩
    all_goals grind
  have agrj:gU (eff u d av F) F (f.looksAt ops):=λt U=>by grind [eff]
  refine p.at_ F agrj cdj ψ _ (ih (listed.setIfInBounds j true) (eff mvj l avj F) (ready_mono W (Ne.symm n)) (a.put (λj' o' d' M D y O Q=>?_) (λj' o' T s M D y O L q r=>?_)) (E.put Y) ?_ ?_)
  ·refine avjno d' (λh=>?_) (a.dst j' o' d' M y O Q)
   grind [Ri.look]
  ·exact avjno s (λh=>D ((gh r).2 j' j o' f y o (cZ q) h)) (a.mv j' o' T s M y O L q r)
  ·refine⟨g.dst,g.lt,g.self,λe he=>?_,g.mvl,λF' hA Q hs' S hK=>g.at_ F' (λt U=>?_) Q hs' S hK⟩
   ·rcases g.from_ e he with h|⟨t,U,h⟩
    all_goals grind
   obtain⟨a1,a2⟩:=hA t U
   grind [eff]
  rw[Array.setIfInBounds_comm _ _ n];have:eff u d av (eff mvj l avj F)=eff mvj l avj (eff u d av F):=by grind [eff]
  grind
theorem jx{o:Op}{K a:AV->Prop}(h:dh P TE F o K)(b:∀av,K av->a av):dh P TE F o a:=by
 obtain⟨av,c,-,d⟩:=jU h
 grind [Cc]
theorem br{a:(Nat->AV)->Prop}(h:bR N F d av K)(b:∀F',K F'->a F'):bR N F d av a:=by grind [bR]
variable{y:Operand}
theorem eY{K b:(Nat->AV)->Option Nat->List C->Prop}(h:gz F y K)(g:∀F' ag cs,K F' ag cs->b F' ag cs):gz F y b:=by
 cases y with
 | tmp t=>
  simp only[gz]at h |-;cases d:F t with
  | H k cs=>
   grind
  | c2 e f c ag=>
   rw[d]at h;cases c with
   | cons s c=>
    simp only at h |-;cases a:F e with
    | H k cs=>
     rw[a]at h;obtain⟨r,j,i,l,n,o⟩:=Lq.out h;exact .mk_ ψ
    | _=>grind
   | nil=>
    grind
  | _=>grind
 | _=>exact h.elim
variable{x:Operand}
theorem Al{K a:AV->Prop}(h:b8 F x K)(b:∀av,K av->a av):b8 F x a:=by
 obtain⟨av,c,-,d⟩:=kb h
 grind [Cc]
theorem E6{a:(Nat->AV)->Prop}(h:kK N F d x K)(j:∀F',K F'->a F'):kK N F d x a:=by
 have i:∀y,b8 F y (λb=>bR N F d b K)->b8 F y (λb=>bR N F d b a):=λy h=>Al h λb h=>br h j
 have k:∀y,gz F y (λF' c e=>bR N F' d (.H (lL c) e) K)->gz F y (λF' c e=>bR N F' d (.H (lL c) e) a):=λy h=>eY h λF' c e h=>br h j
 cases x with
 | tmp t=>
  grind [kK]
 | const v=>exact i (.const v) h
 | global g=>exact i (.global g) h
 | func f=>exact i (.func f) h
theorem MP{a:(Nat->AV)->Prop}(h:DS N F d x K)(b:∀F',K F'->a F'):DS N F d x a:=by grind [br,E6,DS,HS]
variable{b:(Nat->AV)->Prop}
theorem AU{cs:List C}(h:qH F x cs K)(d:∀F',K F'->b F'):qH F x cs b:=by
 cases x with
 | tmp t=>
  simp only[qH]at h |-;cases e:F t with
  | H k f=>
   grind [dn]
  | ref g i c=>
   rw[e]at h;cases c with
   | cons s c=>
    simp only at h |-;cases a:F g with
    | H k f=>
     rw[a]at h;obtain⟨r,j,l,n,o,p⟩:=Pu.out h;exact Pu.mk l n o rfl (d _ p)
    | _=>grind
   | nil=>
    grind [dn]
  | _=>grind
 | _=>exact h.elim
variable{T:Nat}
theorem yG{a:(Nat->AV)->Prop}(h:mC TE F T x y K)(b:∀F',K F'->a F'):mC TE F T x y a:=by
 unfold mC at h |-;split at h
 all_goals grind [cw,Cc,AU,eY]
theorem Hh{g:Option (Nat × Bool)}{a K1' K0':(Nat->AV)->Prop}(h:fA F ops g a b)(h1:∀F,a F->K1' F)(c:∀F,b F->K0' F):fA F ops g K1' K0':=by
 unfold fA at h |-;split at h
 ·exact h1 _ h
 rename_i j want;split at h
 all_goals grind [Bf.out,Bf.in_]
theorem tH{K a:(Nat->AV)->Option Nat->List C->Prop}(h:vk F x K)(c:∀F' ag cs,K F' ag cs->a F' ag cs):vk F x a:=by
 obtain⟨ag,cs,d,b⟩:=cw h;refine b F (Cc _ _) _ ?_
 grind [eY]
theorem jt{c:Nat->Option (Nat × Nat)} : ∀{parts:List (Nat × Operand)}{cs:List C}{K a:(Nat->AV)->List C->Prop}{F:Nat->AV},fillW c parts cs K F->(∀F' cs,K F' cs->a F' cs)->fillW c parts cs a F
 | [],cs,K,a,F,h,b=>b _ _ h
 | p::rest,cs,K,a,F,h,b=>by
  simp only[fillW]at h |-;split at h
  case h_2=>exact h.elim
  rename_i q e;refine tH h λF' f xs h=>?_
  cases d:(Nat.beq xs.length q.2&&Nat.ble (q.1+q.2) cs.length) with
  | false=>grind
  | true=>
   rw[d]at h;simp only[cond_true,dn]at h |-;exact jt h b
variable{parts:List (Nat × Operand)}
theorem Et{a:(Nat->AV)->Prop}(h:kG TE N F d T parts K)(b:∀F',K F'->a F'):kG TE N F d T parts a:=by grind [jt,br,kG]
theorem By{n:Nat}{a:(Nat->AV)->Prop}(h:fY TE N F d T n parts K)(c:∀F',K F'->a F'):fY TE N F d T n parts a:=by
 obtain⟨e,f,h,b⟩:=im h;refine b _ ?_
 grind [br,dn,jt,pD]
theorem Ef{K a:Bool->(Nat->AV)->List (List C)->Prop}(h:Ds F y K)(c:∀b F' xr,K b F' xr->a b F' xr):Ds F y a:=by
 unfold Ds at h |-;split at h
 all_goals grind [eY,cw,Cc]
theorem zW{K a:(Nat->AV)->List (List C)->Prop}(h:Au F x K)(c:∀F' xr,K F' xr->a F' xr):Au F x a:=by
 obtain⟨d,e,f,b⟩:=cw h;refine b F (Cc _ _) _ ?_
 grind [eY]
theorem KT{a:(Nat->AV)->Prop}(h:Ai TE N F d T x y K)(f:∀F',K F'->a F'):Ai TE N F d T x y a:=by
 obtain⟨e,p,h,g⟩:=im h;refine g _ (Ef h λb F' q h=>zW h λF'' c h=>?_);obtain⟨i,j,k,l,n,o⟩:=h.out;exact CU i j k l n rfl (br o f)
theorem Fb{a:(Nat->AV)->Prop}(h:pW TE N F d T x K)(b:∀F',K F'->a F'):pW TE N F d T x a:=by
 unfold pW at h |-;split at h
 all_goals grind [eY,br]
theorem GW(h:iX N F d x K)(c:∀F',K F'->b F'):iX N F d x b:=by
 have std:∀{y:Operand},b8 F y (λa=>bR N F d a K)->b8 F y (λa=>bR N F d a b):=λh=>Al h λa h=>br h c
 cases x with
 | tmp t=>
  simp only[iX]at h |-
  grind [br]
 | const v=>grind [iX]
 | global g=>grind [iX]
 | func f=>grind [iX]
theorem HC{a:(Nat->AV)->Prop}(h:uo N F d x K)(b:∀F',K F'->a F'):uo N F d x a:=by
 unfold uo at h |-;split at h
 case h_2=>exact h.elim
 split at h
 all_goals grind [Nt.out,Nt.mk,br]
theorem Ff{a:(Nat->AV)->Prop}(h:qb N F d x K)(b:∀F',K F'->a F'):qb N F d x a:=by
 unfold qb at h |-
 grind [br]
variable{c:(Nat->AV)->Prop}
theorem Mq{b:Operand}(h:Ei TE N F d T x b K)(f:∀F',K F'->c F'):Ei TE N F d T x b c:=by
 unfold Ei at h |-;obtain⟨e,q,h,a⟩:=im h;refine a _ ?_;obtain⟨n,g,i⟩:=nL h;refine i F (Cc _ _) _ (eY g λF' r t h=>?_);split at h
 case h_2=>exact h.elim
 obtain⟨m,y,j,k,l,o,p,h⟩:=h.out;exact .mk_ ⟨m,y,j,k,l,o,p,_,rfl,br h f⟩
theorem E0{b:Op}{e:(Nat->AV)->Prop}(h:ku P TE N d b K F)(a:∀F',K F'->e F'):ku P TE N d b e F:=by
 cases b with
 | assign x=>exact MP h a
 | box T x=>grind [tH,br,ku,LT]
 | build T g=>exact Et h a
 | buildSlice T n g=>exact By h a
 | range T x=>exact Fb h a
 | move x=>exact GW h a
 | next x str=>
  cases str with
  | true=>exact h.elim
  | false=>exact HC h a
 | entry x=>exact Ff h a
 | call c=>
  grind [jx,br,KT,ku]
 | slice T x i f j=>
  cases i with
  | some _=>grind [jx,br,ku]
  | none=>
   cases f with
   | none=>grind [jx,br,ku]
   | some f=>
    cases j with
    | some _=>grind [jx,br,ku]
    | none=>
     grind [jx,br,Mq,ku]
 | _=>grind [jx,br,ku]
theorem fm{off n:Nat}{st:cB}{K a:(Nat->AV)->List C->Prop}(h:lendAt F t off st n K)(b:∀F' cs,K F' cs->a F' cs):lendAt F t off st n a:=by
 unfold lendAt at h |-;split at h
 case h_2=>exact h.elim
 split at h
 ·grind [dn]
 obtain⟨r,j,c,d,e,f⟩:=Lq.out h;refine .mk_ ?_
 grind
theorem cq:∀{xs:List (Operand × Nat)}{K a:(Nat->AV)->List (MA × rq)->Prop}{F:Nat->AV},lendP xs K F->(∀F' l,K F' l->a F' l)->lendP xs a F
 | [],K,a,F,h,b=>b _ _ h
 | (x,0)::xs,K,a,F,h,b=>cq (xs:=xs) h ψ
 | (x,1)::xs,K,a,F,h,b=>by
  simp only[lendP]at h |-;split at h
  case h_2=>exact h.elim
  split at h
  ·exact fm h λF' c h=>cq h ψ
  ·exact fm h λF' c h=>cq h ψ
  ·exact fm h λF' c h=>cq h ψ
  exact h.elim
 | (x,n+2)::xs,K,a,F,h,b=>by
  simp only[lendP]at h |-;split at h
  case h_2=>exact h.elim
  split at h
  ·split at h
   ·exact cq h ψ
   exact h.elim
  ·exact cq h ψ
  exact h.elim
theorem j7:∀{l:List (MA × rq)}{xs:List Operand}{K a:Bool->List MA->Prop},valsP F l xs K->(∀b A,K b A->a b A)->valsP F l xs a
 | [],[],K,a,h,c=>c _ _ h
 | (m,.no)::l,x::xs,K,a,h,c=>by
  obtain⟨f,g,d,e⟩:=cw h;refine e F (Cc _ _) _ (j7 d λb A h=>?_)
  grind
 | (m,.at_ t off st)::l,x::xs,K,a,h,c=>j7 (l:=l) (xs:=xs) h ψ
 | (m,.box t)::l,x::xs,K,a,h,c=>j7 (l:=l) (xs:=xs) h ψ
 | [],_::_,K,a,h,c=>h.elim
 | (m,.no)::l,[],K,a,h,c=>h.elim
 | (m,.at_ t off st)::l,[],K,a,h,c=>h.elim
 | (m,.box t)::l,[],K,a,h,c=>h.elim
theorem dq{K b:(Nat->AV)->Prop}(a:∀F',K F'->b F'):∀{l:List (MA × rq)}{B:List MA}{F:Nat->AV},gS l B K F->gS l B b F
 | [],[],F,h=>a _ h
 | [],_::_,F,h=>h.elim
 | (m,.no)::l,[],F,h=>h.elim
 | (m,.at_ t off st)::l,[],F,h=>h.elim
 | (m,.box t)::l,[],F,h=>h.elim
 | (m,.no)::l,.val _ _::B,F,h=>dq a (l:=l) (B:=B) h
 | (m,.no)::l,.mut _ _::B,F,h=>dq a (l:=l) (B:=B) h
 | (m,.no)::l,.ptr _::B,F,h=>dq a (l:=l) (B:=B) h
 | (m,.at_ t off st)::l,.val _ _::B,F,h=>h.elim
 | (m,.at_ t off st)::l,.ptr _::B,F,h=>h.elim
 | (m,.box t)::l,.val _ _::B,F,h=>h.elim
 | (m,.box t)::l,.mut _ _::B,F,h=>h.elim
 | (m,.at_ t off st)::l,.mut ag out::B,F,h=>by
  simp only[gS]at h |-;split at h
  case h_2=>exact h.elim
  split at h
  ·rename_i k c _ _
   cases d:Nat.ble (off+out.length) c.length with
   | false=>grind
   | true=>
    rw[d]at h;simp only[cond_true,dn]at h |-;exact dq a h
  obtain⟨r,j,e,f,g,i⟩:=Pu.out h;exact Pu.mk e f g rfl (dq a i)
 | (m,.box t)::l,.ptr out::B,F,h=>by
  simp only[gS]at h |-;split at h
  ·exact dq a h
  exact h.elim
variable{modes:List Nat}{args:List Operand}{f:Nat}
theorem HG{d:Option Nat}{a:(Nat->AV)->Prop}(h:l9 P N F d f args modes K)(j:∀F',K F'->a F'):l9 P N F d f args modes a:=by
 unfold l9 at h |-;refine cq h λF' l h=>?_
 cases c:(vo l&&Nat.beq args.length modes.length) with
 | false=>grind
 | true=>
  rw[c]at h;refine j7 h λb A h=>?_
  obtain⟨n,B,k,rcs,e,g,i⟩:=ce.out h;refine CK e g (dq (λF'' h=>?_) i)
  grind [br]
theorem kU{F:Nat->AV}{K a:Nat->Nat->Prop}(h:yN F x K)(b:∀t o,K t o->a t o):yN F x a:=by grind [tt,yN]
theorem Kt{d:Option Nat}{cs:List C}{c a b:Nat}{f:(Nat->AV)->Prop}{k:Kd}{rcs:List C}{B:List MA}(h:wH N F d t cs c a e b K k rcs B)(l:∀F',K F'->f F'):wH N F d t cs c a e b f k rcs B:=by
 unfold wH at h |-;split at h
 case h_2=>exact h.elim
 rename_i g i;cases j:(Nat.beq g.length a&&Nat.beq i.length b) with
 | false=>grind
 | true=>
  rw[j]at h;simp only[cond_true,dn]at h |-
  grind [br]
theorem Gv{d:Option Nat}{a b:Nat}(h:kn P N F d f args a b K)(e:∀F',K F'->c F'):kn P N F d f args a b c:=by
 unfold kn at h |-;split at h
 case h_2=>exact h.elim
 refine kU h λt g h=>kU h λi j h=>?_
 split at h
 all_goals grind [dn,ce.out,CK,Kt]
theorem rH{d:Option Nat}{a:(Nat->AV)->Prop}(h:kv P N F d f args modes K)(b:∀F',K F'->a F'):kv P N F d f args modes a:=by grind [Gv,HG,kv]
theorem Ea{off:Nat}{z:Int}{v:Value}{a:(Nat->AV)->Prop}(h:putMap F t off z v K)(f:∀F',K F'->a F'):putMap F t off z v a:=by
 unfold putMap at h |-;cases b:F t with
 | H k d=>
  rw[b]at h;simp only at h |-;cases e:d[off]? with
  | none=>grind
  | some c=>
   rw[e]at h;cases c with
   | m g=>
    simp only at h |-;have:=h.out;refine Mu.mk rfl ?_
    grind [dn]
   | _=>exact h.elim
 | _=>grind
theorem v6{v:Operand}(h:nR TE F T x y v K)(f:∀F',K F'->b F'):nR TE F T x y v b:=by
 unfold nR at h |-;split at h
 case h_2=>exact h.elim
 obtain⟨z,c,d⟩:=iF h;refine d F (Cc F _) _ ?_;obtain⟨g,a,e⟩:=iF c;refine e F (Cc F _) _ ?_;split at a
 case h_2=>exact a.elim
 split at a
 all_goals grind [Ea]
theorem jQ{a:(Nat->AV)->Prop}(h:iH P TE N ops o K F)(c:∀F',K F'->a F'):iH P TE N ops o a F:=by
 unfold iH at h |-;refine Hh h (λF h=>?_) (λF h=>?_)
 ·split at h
  ·rename_i p _
   have lt:rV P N F o.dst p.1 p.2.1 p.2.2 K->rV P N F o.dst p.1 p.2.1 p.2.2 a:=λh=>rH h λF' h=>by grind [nM]
   cases b:Ny N o.op with
   | false=>grind
   | true=>
    rw[b]at h;rcases h with h|h
    ·refine .pl ?_
     grind [yG,v6,E0,kj]
    exact .lt (lt h)
  grind [yG,v6,E0]
 grind [br]
theorem BH{m:Nat}(a:Ri ops m){K:(Nat->AV)->Prop}(hm:m<=ops.size):∀(l:List Oper)(k:Nat)(listed:Array Bool)(F:Nat->AV),(∀j,l[j]? = ops[k+j]?)->listed.size=ops.size->(∀j,j<ops.size->listed.getD j true=decide (j<k))->AF ops m F listed->DC ops listed->
  MQ P TE N ops (m - k) l K F->GJ P TE N ops m K l.length listed F
 | [],k,listed,F,C,L,b,_,_,i=>by
  have D:ops.size<=k:=by
   rcases Nat.lt_or_ge k ops.size with h|h
   ·have:=C 0;simp[h]at this
   exact h
  refine⟨?_,?_⟩
  ·apply List.eq_nil_iff_forall_not_mem.2
   grind [Go.mem_ready]
  cases M:m - k with
  | zero=>rw[M]at i;exact i
  | succ x=>omega
 | o::l,k,listed,F,C,L,b,c,n,i=>by
  have w:ops[k]? = some o:=by simpa using (C 0).symm
  have D:=(W3.1 w).1;have hready:k∈Region.ready .any ops listed:=mem_ready.2 ⟨by rw[b k D];simp,o,w,λe he hb=>by grind [Ri.back]⟩;have A:∀j,l[j]? = ops[k+1+j]?:=λj=>by have:=C (j+1);grind
  have r:∀j,j<ops.size->(listed.setIfInBounds k true).getD j true=decide (j<k+1):=λj O=>by
   by_cases y:j=k
   ·simp_all
   rw[getD_set_ne true (Ne.symm y),b j O]
   grind
  show GJ P TE N ops m K (l.length+1) listed F;by_cases f:k<m
  ·have e1:m - k=(m - (k+1))+1:=ω
   rw[e1]at i;obtain⟨mv,d,av,Q,i⟩:=pK (show kY P TE N ops o (MQ P TE N ops (m - (k+1)) l K) F from i) (λd hd=>c.dst k o d f w (by rw[b k D];simp) hd) (λT s R S U=>c.mv k o T s f w (by rw[b k D];simp) R S U);refine LD a w f l.length listed F hready c n Q (BH a hm l (k+1) _ _ A (by simpa using L) r (c.put (λE G H p u q hl'' B=>?_) (λE G T s p u q hl'' R S U=>?_)) (n.put hready) i)
   ·cases V:av.uses H with
    | false=>rfl
    | true=>
     rcases Q.from_ H V with h|⟨t,_,h⟩
     ·have:=a.look E k G o H p f u q w B h
      grind [cr,Ri.back]
     rw[c.dst E G H p q hl'' B t]at h;cases h
   cases V:av.uses s with
   | false=>rfl
   | true=>
    rcases Q.from_ s V with h|⟨t,_,h⟩
    ·grind [gh,cZ]
    rw[c.mv E G T s p q hl'' R S U t]at h;cases h
  refine⟨ψ,λj O=>?_⟩;have y:j=k:=by
   obtain⟨h1,oj,W,hall⟩:=mem_ready.1 O;have g:=(W3.1 W).1;rw[b j g]at h1;simp at h1;rcases Nat.lt_or_ge k j with X|hge
   ·exfalso
    have h2:=nt n a.back (a.tail j ω g k X) g λk' hk'=>by grind [bz,cr]
    grind
   omega
  subst y;unfold xV;rw[w];simp only[C9 f];have e0:m - j=0:=ω
  rw[e0]at i;have hp':iH P TE N ops o (Lv P TE N ops l K) F:=i;have Y:∀J,Lv P TE N ops l K J->GJ P TE N ops m K l.length (listed.setIfInBounds j true) J:=λJ Z=>
   BH a hm l (j+1) _ J A (by simpa using L) r ⟨ψ,ψ⟩ (n.put hready) (by rw[show m - (j+1)=0 by omega];cases l<;>exact Z)
  grind [jQ]
theorem St.clr(h:St w0 M S0 N F a w)(ds:List Nat):St w0 M S0 N (Ab.clr ds F) a w:=by
 obtain⟨S,φ,h⟩:=h;refine⟨S,φ,λt=>?_,h.dis,h.disS,h.ex,h.sub,h.sup,h.old,h.size,h.defers,h.par⟩;rw[Db];cases b:ds.any (λd=>(F t).uses d) with
 | true=>trivial
 | false=>
  simp only[cond_false];refine(h.slot t).keep (φ:=φ) (λt _ _ _=>h.slot t) (λc _=>⟨λk e f=>?_,rfl,λ_ _ _=>⟨rfl,rfl⟩⟩) (λ_ _ _=>⟨rfl,rfl⟩) (λ_ _ _=>⟨rfl,rfl⟩) (λ_ _ h=>h) (λ_ _ h=>h)
  grind [Db,AV.uses]
theorem Dt(g:∀t i,TE t=some i->gV P t i)(E:P.follows .mixedOrders=true){id:Nat}{ds:List Nat}(b:((Nat.ble m ops.size&&below m λj=>match(dr ops j).dst with|some d=>ds.any (Nat.beq d)|none=>true)&&DH ops m)=true)(G:MQ P TE N ops m ops.toList K (Ab.clr ds F))(H:St w0 M S0 N F a w)(J:∀F' u y,K F'->St w0 M S0 N F' u y->Q .normal u y):(Code.region id ops true).wp P Q a w:=by
 simp only[I0]at b;obtain⟨⟨A,L⟩,b⟩:=b;have c:m<=ops.size:=by simp_all
 refine wp_region_any E ?_;have l:St w0 M S0 N (Ab.clr ds F) a {w with drawn:=w.drawn+1}:=by
  have O:=H.clr ds;obtain⟨S,φ,h⟩:=O;exact⟨S,φ,h.more (w1:={w with drawn:=w.drawn+1}) (λ_ _ h=>h) ψ ⟨rfl,rfl,rfl,I3 _,λ_ _ _=>rfl,λ_ _ _ _=>rfl,λ_ _ _ _=>rfl⟩⟩
 refine Ae g (m:=m) J ops.size (Array.replicate ops.size false) _ a _ ?_ l;have R:∀d,ds.any (Nat.beq d)=true->∀t,(Ab.clr ds F t).uses d=false:=λd U t=>by
  rw[Db];cases Z:ds.any (λd=>(F t).uses d) with
  | true=>rfl
  | false=>
   simp_all
 have B:∀j o d,j<m->ops[j]? = some o->o.dst=some d->ds.any (Nat.beq d)=true:=λj o d f C U=>by grind [gG,bz]
 have D:=Fn b;have:=BH (P:=P) (TE:=TE) (N:=N) D (K:=K) c ops.toList 0 (Array.replicate ops.size false) (Ab.clr ds F) (by simp) (by simp) (λj f=>by simp[f]) ⟨ψ,λj o T s f C _ _ _ V t=>by
   obtain⟨k,ok,n,W,X⟩:=(gh V).1;obtain⟨e,p,q,rfl⟩:=cr.1 n;have:=D.back j o C e p q
   grind⟩ (λj oj f Y=>by
   have r:=(W3.1 f).1;simp[r]at Y) G
 simpa using this
end
section
variable{P:Program}{w0 w w1:World}{M S0 S:ah}{N:eZ}{φ:Nat->ah}{F:Nat->AV}{a:Act}{TE:Nat->Option TI}{ops:Array Oper}{ds:List Nat}{nm:Nat->Bool}
def R8(P:Program)(TE:Nat->Option TI)(ops:Array Oper)(p:Nat)(F:Nat->AV):Prop:=∃d,(dr ops p).dst=some d/\Jd F (dr ops p)=none/\dh P TE F (dr ops p).op λa=>a=F d
def vm(P:Program)(TE:Nat->Option TI)(N:eZ)(ops:Array Oper)(ds:List Nat)(listed:Array Bool)(i:Nat)(K:(Nat->AV)->Prop)(F:Nat->AV):Prop:=
 match ops[i]? with
 | none=>K F
 | some o=>if qq ds o=true then kY P TE N ops o K F else iH P TE N ops o (λa=>(∀p,listed.getD p false=true->qq ds (dr ops p)=true->vV ops i p=false->R8 P TE ops p a)/\K a) F
def Fx(P:Program)(TE:Nat->Option TI)(N:eZ)(ops:Array Oper)(ds:List Nat)(K:(Nat->AV)->Prop):Nat->Array Bool->(Nat->AV)->Prop
 | 0,listed,F=>Region.ready .any ops listed=[]/\K F
 | fuel+1,listed,F=>(Region.ready .any ops listed=[]->K F)/\∀i,i∈Region.ready .any ops listed->vm P TE N ops ds listed i (Fx P TE N ops ds K fuel (listed.setIfInBounds i true)) F
variable{Q:Exit->Act->World->Prop}{K:(Nat->AV)->Prop}{i:Nat}{listed:Array Bool}
theorem Fd(c:∀t i,TE t=some i->gV P t i)(b:vm P TE N ops ds listed i K F)(g:St w0 M S0 N F a w){Kc:Act->World->Prop}(d:∀F' e f,K F'->St w0 M S0 N F' e f->Kc e f):wpOp P ops Q i Kc a w:=by
 unfold vm at b;unfold wpOp;cases j:ops[i]? with
 | none=>grind
 | some o=>
  rw[j]at b;simp only at b |-;obtain⟨S,φ,h⟩:=g;have:if Region.wanted o (yielded ops a.tmps) then o.wp P a w Kc Q else Kc (a.put o.dst undef) w:=by
   split at b
   ·exact h.oneP c b d
   exact h.one c (jQ b λF' h=>h.2) d
  grind
def rn(b:∀t i,TE t=some i->gV P t i){K:(Nat->AV)->Prop}{Q:Exit->Act->World->Prop}(g:∀F' d e,K F'->St w0 M S0 N F' d e->Q .normal d e) :
  ∀(fuel:Nat)(listed:Array Bool)(F:Nat->AV)(a:Act)(w:World),Fx P TE N ops ds K fuel listed F->St w0 M S0 N F a w->wpAny P .any ops Q fuel listed a w
 | 0,_,F,a,w,c,f=>⟨c.1,g F a w c.2 f⟩
 | fuel+1,_,F,a,w,c,f=>⟨λj=>g F a w (c.1 j) f,λi k=>Fd b (c.2 i k) f λF' d e l h=>rn b g fuel _ F' d e l h⟩
def bV(ts:List Nat)(F F1:Nat->AV):Prop:=∀t e,(F1 t).uses e=true->e∈ts\/∃a,(F a).uses e=true
theorem bV.refl(ts:List Nat)(F:Nat->AV):bV ts F F:=λt _ h=>.inr ⟨t,h⟩
variable{F1:Nat->AV}{ts:List Nat}
theorem bV.trans{F a:Nat->AV}(h1:bV ts F F1)(b:bV ts F1 a):bV ts F a:=λt e h=>by
 rcases b t e h with h|⟨c,h⟩
 ·exact .inl h
 exact h1 c e h
variable{d:Nat}
theorem bV.clean(h:bV ts F F1)(b:d∉ts)(c:∀t,(F t).uses d=false):∀t,(F1 t).uses d=false:=λt=>by
 cases a:(F1 t).uses d with
 | false=>rfl
 | true=>
  rcases h t d a with h|⟨e,h⟩
  all_goals grind
theorem bV.put{ts:List Nat}{dj:Nat}{av:AV}(h:∀e,av.uses e=true->e∈ts\/∃b,(F b).uses e=true):bV ts F (put F dj av):=λt e a=>by
 by_cases c:t=dj
 ·grind [oR]
 rw[i7 _ _ c]at a;exact .inr ⟨t,(PE a).1⟩
variable{v:AV}{t e:Nat}
theorem Nh(h:(tj t v).uses e=true):v.uses e=true:=by
 cases v with
 | c2 a b d f=>simp only[tj]at h;cases c:Nat.beq a t<;>rw[c]at h<;>first|exact h|cases h
 | ref a b d=>cases d<;>simp only[tj]at h<;>first|exact h|(cases c:Nat.beq a t<;>rw[c]at h<;>first|exact h|cases h)
 | _=>exact h
theorem bV.updH{ts:List Nat}{t:Nat}{k:Kd}{cs:List C} : bV ts F (updH F t k cs):=λs e a=>by
 unfold Ab.updH at a;cases b:Nat.beq s t with
 | true=>rw[b]at a;cases a
 | false=>grind [Nh]
theorem LN(h:(P3 t v).uses e=true):v.uses e=true:=by
 cases v with
 | c2 a b d f=>simp only[P3]at h;cases c:Nat.beq a t<;>rw[c]at h<;>first|exact h|cases h
 | ref a b d=>simp only[P3]at h;cases c:Nat.beq a t<;>rw[c]at h<;>first|exact h|cases h
 | _=>exact h
theorem bV.kill{ts:List Nat}{t:Nat} : bV ts F (kill F t):=λs e a=>by
 unfold Ab.kill at a;cases b:Nat.beq s t with
 | true=>rw[b]at a;cases a
 | false=>grind [LN]
variable{av:AV}
theorem ch(h:t≠d):eff none d av F t=F t:=by grind [eff]
theorem mq{a:Option Nat} : eff a d av F d=av:=by grind [eff]
theorem Pi : eff none d (F d) F=F:=by grind [mq,ch]
theorem m8(a:d∉ts)(b:∀t,(F t).uses d=false):gU (eff none d av F) F ts:=λt c=>by grind [ch]
variable{dj:Nat}
theorem Rr(a:dj≠d):put (eff none d v F) dj av=eff none d (kl dj v) (put F dj av):=by grind [oR,ch,i7,mq]
variable{b:Kd}
theorem nS{a:List C}(c:t≠d):updH (eff none d v F) t b a=eff none d (tj t v) (updH F t b a):=by grind [mq,Nat.beq_eq,ch,updH]
theorem ym{a:List C}(c:t≠d):updH F t b a d=tj t (F d):=by grind [Nat.beq_eq,updH]
theorem HR{a:List C}(c:t≠d):updN (eff none d v F) t b a=eff none d (P0 t v) (updN F t b a):=by grind [mq,Nat.beq_eq,ch,updN]
theorem Ep{a:List C}(c:t≠d):updN F t b a d=P0 t (F d):=by grind [Nat.beq_eq,updN]
theorem Pv(h:(P0 t v).uses e=true):v.uses e=true:=by
 cases v with
 | c2 b c a f=>
  cases a with
  | nil=>exact h
  | cons s a=>simp only[P0]at h;cases d:Nat.beq b t<;>rw[d]at h<;>first|exact h|cases h
 | ref b c a=>
  cases a with
  | nil=>exact h
  | cons s a=>simp only[P0]at h;cases d:Nat.beq b t<;>rw[d]at h<;>first|exact h|cases h
 | _=>exact h
theorem bV.updN{ts:List Nat}{t:Nat}{k:Kd}{cs:List C} : bV ts F (updN F t k cs):=λs e a=>by
 unfold Ab.updN at a;cases b:Nat.beq s t with
 | true=>rw[b]at a;cases a
 | false=>grind [Pv]
def Fq(d:Nat)(ts:List Nat)(v:AV)(F:Nat->AV)(K:(Nat->AV)->Prop)(F1:Nat->AV):Prop:=∃a,(v=F d->a=F1 d)/\K (eff none d a F1)/\bV ts F F1
def T8(d:Nat)(ts:List Nat)(v:AV)(F:Nat->AV)(K:(Nat->AV)->Option Nat->List C->Prop)(F1:Nat->AV)(ag:Option Nat)(cs:List C):Prop:=∃a,(v=F d->a=F1 d)/\K (eff none d a F1) ag cs/\bV ts F F1
def Fq.trans{v1:AV}{a:Nat->AV}(h1:v=F d->v1=F1 d)(b:bV ts F F1)(h:Fq d ts v1 F1 K a):Fq d ts v F K a:=by
 obtain⟨c,f,g,i⟩:=h;exact⟨c,λe=>f (h1 e),g,b.trans i⟩
theorem gQ(h:bR N (eff none d v F) dj av K)(a:dj≠d)(b:∀e,av.uses e=true->e∈ts\/∃c,(F c).uses e=true):bR N F dj av (Fq d ts v F K):=by
 unfold bR at h |-;cases f:(N.free dj&&!av.uses dj) with
 | false=>grind
 | true=>
  rw[f]at h;simp only[cond_true]at h |-;rw[Rr a]at h;exact⟨kl dj v,λe=>by grind [i7],h,bV.put b⟩
variable{cs:List C}{k:Kd}
def iO : ∀e,(AV.H k cs).uses e=true->e∈ts\/∃a,(F a).uses e=true:=λe h=>by cases h
theorem B9{p:(Nat->AV)->(AV->Prop)->Prop}{ts0:List Nat}(h:oD p (eff none d v F) ts0 λav=>bR N (eff none d v F) dj av K)(a:dj≠d)(j:∀t,t∈ts0->t∈ts)(k:d∉ts)(b:∀t,(F t).uses d=false) :
  p F λav=>bR N F dj av (Fq d ts v F K):=by
 obtain⟨av,c,f,g⟩:=h;refine g F (m8 ψ b) _ (gQ c a λe i=>?_);rcases f e i with h|⟨t,l,h⟩
 all_goals grind [ch]
variable{y:Operand}
theorem qi{K:(Nat->AV)->Option Nat->List C->Prop}(h:gz (eff none d v F) y K)(n:d∉tm y)(o:∀t,(F t).uses d=false):gz F y (T8 d ts v F K):=by
 have fin:∀{t:Nat}{k:Kd}{b:List C}{a:Option Nat}{xs:List C},t≠d->K (updH (eff none d v F) t k b) a xs->T8 d ts v F K (updH F t k b) a xs:=fun {t k b a xs} c h=>by
  rw[nS c]at h;exact⟨_,λe=>by rw[ym c,e],h,bV.updH⟩
 have zM:∀{t:Nat}{k:Kd}{b:List C}{a:Option Nat}{xs:List C},t≠d->K (updN (eff none d v F) t k b) a xs->T8 d ts v F K (updN F t k b) a xs:=fun {t k b a xs} c h=>by
  rw[HR c]at h;exact⟨_,λe=>by rw[Ep c,e],h,bV.updN⟩
 cases y with
 | tmp t=>
  have c:t≠d:=λe=>n (by simp[tm,e])
  simp only[gz]at h |-;rw[ch c]at h;cases g:F t with
  | H p q=>
   grind
  | c2 i u l a=>
   rw[g]at h;have w:i≠d:=λe=>by have:=o t;rw[g,e]at this;simp[AV.uses]at this
   cases l with
   | cons s l=>
    simp only at h |-;rw[ch w]at h;cases f:F i with
    | H p q=>
     rw[f]at h;obtain⟨r,j,A,B,D,E⟩:=Lq.out h;exact .mk_ ψ
    | _=>grind
   | nil=>
    grind [ch]
  | _=>grind
 | _=>exact h.elim
theorem Qp{K:(Nat->AV)->Option Nat->List C->Prop}(h:vk (eff none d v F) y K)(b:d∉tm y)(c:∀t,(F t).uses d=false):vk F y (T8 d ts v F K):=by
 obtain⟨i,xs,a,f⟩:=cw h;refine f F (m8 b c) _ ?_;cases g:bi xs with
 | true=>rw[g]at a;exact⟨v,λe=>e,a,bV.refl _ _⟩
 | false=>grind [qi]
def Uj(d:Nat)(ts:List Nat)(v:AV)(F:Nat->AV)(K:(Nat->AV)->List C->Prop)(F1:Nat->AV)(cs:List C):Prop:=∃a,(v=F d->a=F1 d)/\K (eff none d a F1) cs/\bV ts F F1
theorem wQ{d:Nat}{ts:List Nat}{c:Nat->Option (Nat × Nat)}(a:d∉ts):∀{parts:List (Nat × Operand)}{cs:List C}{K:(Nat->AV)->List C->Prop}{F:Nat->AV}{v:AV},fillW c parts cs K (eff none d v F)->(∀p,p∈parts->d∉tm p.2)->(∀t,(F t).uses d=false)->
  fillW c parts cs (Uj d ts v F K) F
 | [],cs,K,F,v,h,_,b=>⟨v,λe=>e,h,bV.refl _ _⟩
 | p::rest,cs,K,F,v,h,r,b=>by
  simp only[fillW]at h |-;split at h
  case h_2=>exact h.elim
  rename_i q u;refine tH (Qp (ts:=ts) h ψ b) λw y xs h=>?_
  obtain⟨A,g,h,f⟩:=h;cases i:(Nat.beq xs.length q.2&&Nat.ble (q.1+q.2) cs.length) with
  | false=>grind
  | true=>
   rw[i]at h;simp only[cond_true,dn]at h |-;refine jt (wQ a h ψ (f.clean a b)) λB cs2 j=>?_
   obtain⟨k,l,n,o⟩:=j;exact⟨k,λe=>l (g e),n,f.trans o⟩
variable{parts:List (Nat × Operand)}{T:Nat}
theorem KJ(h:kG TE N (eff none d v F) dj T parts K)(a:dj≠d)(b:d∉ts)(c:∀p,p∈parts->d∉tm p.2)(e:∀t,(F t).uses d=false) :
  kG TE N F dj T parts (Fq d ts v F K):=by
 unfold kG at h |-;split at h
 case h_2=>exact h.elim
 rename_i size bytes zero flds k;cases f:Du TE flds with
 | false=>grind
 | true=>
  rw[f]at h;refine jt (wQ b h c e) λl n h=>?_
  obtain⟨o,g,h,i⟩:=h;exact br (gQ (ts:=ts) h a iO) λq j=>Fq.trans g i j
variable{n:Nat}
theorem Hv(h:fY TE N (eff none d v F) dj T n parts K)(a:dj≠d)(c:d∉ts)(f:∀p,p∈parts->d∉tm p.2)(g:∀t,(F t).uses d=false) :
  fY TE N F dj T n parts (Fq d ts v F K):=by
 unfold fY at h |-;obtain⟨e,i,h,b⟩:=im h;refine b _ ?_;cases j:Nat.ble (n*i.size) 16777216 with
 | false=>grind
 | true=>
  rw[j]at h;simp only[cond_true]at h |-;cases n with
  | zero=>
   cases parts with
   | nil=>exact gQ h a iO
   | cons=>exact h.elim
  | succ n=>
   simp only[dn]at h |-;refine jt (wQ c h f g) λq r h=>?_
   obtain⟨u,k,h,l⟩:=h;rw[pD]at h |-;exact br (gQ (ts:=ts) h a iO) λw o=>Fq.trans k l o
theorem MJ(h:iX N (eff none d v F) dj (.tmp t) K)(a:dj≠d)(c:d∉ts)(l:t∈ts)(g:∀t,(F t).uses d=false):iX N F dj (.tmp t) (Fq d ts v F K):=by
 have b:t≠d:=ψ
 have std:b8 (eff none d v F) (.tmp t) (λf=>bR N (eff none d v F) dj f K)->b8 F (.tmp t) (λf=>bR N F dj f (Fq d ts v F K)):=λh=>
  B9 (p:=λF K=>b8 F (.tmp t) K) (kb h) a (λn o=>by grind [tm]) c g
 simp only[iX]at h |-;rw[ch b]at h;split at h
 ·rename_i i xs q
  cases j:bi xs with
  | true=>grind [gQ]
  | false=>
   rw[j]at h;simp only[cond_false]at h |-;rw[nS b]at h;exact br (gQ (ts:=ts) h a iO) λr k=>Fq.trans (F1:=updH F t (.tup i) _) (λe=>by grind [ym]) bV.updH k
 all_goals exact std h
variable{x:Operand}
theorem Rh{b:Operand}(h:Ei TE N (eff none d v F) dj T x b K)(c:dj≠d)(f:d∉tm x)(g:d∉tm b)(j:∀t,(F t).uses d=false):Ei TE N F dj T x b (Fq d ts v F K):=by
 unfold Ei at h |-;obtain⟨e,A,h,a⟩:=im h;refine a _ ?_;obtain⟨n,k,i⟩:=nL h;refine i F (m8 g j) _ ?_;refine eY (qi (ts:=ts) k f j) λB C D h=>?_
 obtain⟨E,l,h,o⟩:=h;split at h
 case h_2=>exact h.elim
 obtain⟨m,y,p,q,r,u,w,h⟩:=h.out;exact .mk_ ⟨m,y,p,q,r,u,w,_,rfl,br (gQ (ts:=ts) h c iO) λG i=>Fq.trans l o i⟩
theorem K6(h:kK N (eff none d v F) dj x K)(a:dj≠d)(j:d∉ts)(k:∀t,t∈tm x->t∈ts)(o:∀t,(F t).uses d=false):kK N F dj x (Fq d ts v F K):=by
 have l:∀y,(∀t,t∈tm y->t∈ts)->b8 (eff none d v F) y (λn=>bR N (eff none d v F) dj n K)->b8 F y (λn=>bR N F dj n (Fq d ts v F K)):=λy q h=>B9 (p:=λF K=>b8 F y K) (kb h) a q j o
 have A:∀y,(∀t,t∈tm y->t∈ts)->gz (eff none d v F) y (λb e i=>bR N b dj (.H (lL e) i) K)->gz F y (λb e i=>bR N b dj (.H (lL e) i) (Fq d ts v F K)):=λy q h=>
  eY (qi (ts:=ts) h ψ o) λb e i h=>by
   obtain⟨B,r,h,u⟩:=h;exact br (gQ (ts:=ts) h a iO) λC w=>Fq.trans r u w
 cases x with
 | tmp t=>
  grind [ch,tm,kK]
 | const c=>exact l (.const c) k h
 | global g=>exact l (.global g) k h
 | func f=>exact l (.func f) k h
theorem BJ(a:t≠d):kill (eff none d v F) t=eff none d (P3 t v) (kill F t):=by grind [mq,lz,ch,qa]
theorem RM(h:DS N (eff none d v F) dj x K)(a:dj≠d)(c:d∉ts)(j:∀t,t∈tm x->t∈ts)(l:∀t,(F t).uses d=false):DS N F dj x (Fq d ts v F K):=by
 have f:El N (eff none d v F) dj x=El N F dj x:=by
  cases x with
  | tmp t=>
   grind [ch,tm,El]
  | _=>rfl
 unfold DS at h |-;cases b:M5 N dj x with
 | true=>
  rw[b]at h;simp only[cond_true]at h |-;exact gQ (ts:=ts) h a iO
 | false=>
 rw[b]at h;simp only[cond_false]at h |-;unfold HS at h |-;rw[f]at h;cases i:El N F dj x with
 | none=>grind [K6]
 | some p=>
  rw[i]at h;simp only at h |-;obtain⟨rfl,n⟩:=AQ i;have g:p.1≠d:=λe=>c (e ▸ j p.1 (by simp[tm]))
  rw[BJ g]at h;exact br (gQ (ts:=ts) h a iO) λo k=>Fq.trans (F1:=kill F p.1) (λe=>by grind [lz]) bV.kill k
theorem JB(h:qH (eff none d v F) x cs K)(l:d∉tm x)(n:∀t,(F t).uses d=false):qH F x cs (Fq d ts v F K):=by
 have fin:∀{t:Nat}{k:Kd}{cs:List C},t≠d->K (updH (eff none d v F) t k cs)->Fq d ts v F K (updH F t k cs):=fun {t k cs} a h=>by
  rw[nS a]at h;exact⟨_,λe=>by rw[ym a,e],h,bV.updH⟩
 have zM:∀{t:Nat}{k:Kd}{cs:List C},t≠d->K (updN (eff none d v F) t k cs)->Fq d ts v F K (updN F t k cs):=fun {t k cs} a h=>by
  rw[HR a]at h;exact⟨_,λe=>by rw[Ep a,e],h,bV.updN⟩
 have finP:∀{t:Nat}{k:Kd}{cs:List C},t≠d->K (Q7 (eff none d v F) t k cs)->Fq d ts v F K (Q7 F t k cs):=fun {t k cs} a h=>by
  cases k with
  | box=>exact fin a h
  | _=>exact zM a h
 cases x with
 | tmp t=>
  have a:t≠d:=λe=>l (by simp[tm,e])
  simp only[qH]at h |-;rw[ch a]at h;cases c:F t with
  | H k o=>
   grind [dn]
  | ref f p g=>
   rw[c]at h;have i:f≠d:=λe=>by have:=n t;rw[c,e]at this;simp[AV.uses]at this
   cases g with
   | cons s g=>
    simp only at h |-;rw[ch i]at h;cases b:F f with
    | H k o=>
     rw[b]at h;obtain⟨r,j,q,u,w,y⟩:=Pu.out h;exact Pu.mk q u w rfl (finP i y)
    | _=>grind
   | nil=>
    grind [ch,dn]
  | _=>grind
 | _=>exact h.elim
theorem Pz(h:mC TE (eff none d v F) T x y K)(b:d∉ts)(n:d∉tm x)(j:d∉tm y)(c:∀t,(F t).uses d=false):mC TE F T x y (Fq d ts v F K):=by
 unfold mC at h |-;split at h
 ·rename_i i r
  obtain⟨u,k,a,e⟩:=cw h;refine e F (m8 j c) _ ?_;cases o:Nat.beq k.length i.size with
  | false=>grind
  | true=>
   rw[o]at a;simp only[cond_true]at a |-;cases p:bi k with
   | true=>grind [JB]
   | false=>
    rw[p]at a;simp only[cond_false]at a |-;refine eY (qi (ts:=ts) a j c) λw q f h=>?_
    obtain⟨A,a,h,l⟩:=h;cases g:Nat.beq f.length i.size with
    | false=>grind
    | true=>rw[g]at h;exact AU (JB (ts:=ts) h n (l.clean b c)) λB e=>Fq.trans a l e
 exact h.elim
def R1(a:d∉tm y):nh (eff none d v F) y=nh F y:=by
 cases y with
 | tmp t=>exact ch λe=>a (by simp[tm,e])
 | _=>rfl
theorem RP{K:Bool->(Nat->AV)->List (List C)->Prop}(h:Ds (eff none d v F) y K)(b:d∉tm y)(c:∀t,(F t).uses d=false):Ds F y λe F1 rows=>∃v1,(v=F d->v1=F1 d)/\K e (eff none d v1 F1) rows/\bV ts F F1:=by
 have a:=R1 (F:=F) (v:=v) b;unfold Ds at h |-;rw[a]at h;split at h
 ·refine eY (qi (ts:=ts) h b c) λF1 f g h=>?_
  obtain⟨v1,i,h,j⟩:=h
  grind
 grind [cw,m8,bV.refl]
theorem PA{K:(Nat->AV)->List (List C)->Prop}(h:Au (eff none d v F) y K)(b:d∉tm y)(c:∀t,(F t).uses d=false):Au F y λF1 rows=>∃v1,(v=F d->v1=F1 d)/\K (eff none d v1 F1) rows/\bV ts F F1:=by
 obtain⟨e,xs,a,f⟩:=cw h;refine f F (m8 b c) _ ?_;split at a
 ·grind [bV.refl]
 ·refine eY (qi (ts:=ts) a b c) λF1 e g h=>?_
  obtain⟨v1,a,h,i⟩:=h
  grind
 exact a.elim
theorem PG(h:Ai TE N (eff none d v F) dj T x y K)(b:dj≠d)(c:d∉ts)(j:d∉tm x)(k:d∉tm y)(f:∀t,(F t).uses d=false):Ai TE N F dj T x y (Fq d ts v F K):=by
 obtain⟨e,B,h,a⟩:=im h;refine a _ (Ef (RP (ts:=ts) h k f) λC D E h=>?_);obtain⟨G,l,h,g⟩:=h;refine zW (PA (ts:=ts) h j (g.clean c f)) λH i h=>?_
 obtain⟨J,n,h,o⟩:=h;obtain⟨p,q,r,u,w,h⟩:=Ap.out h;refine CU p q r u w rfl (br (gQ (ts:=ts) h b iO) λL A=>?_);exact Fq.trans l g (Fq.trans n o A)
theorem Mw{f:Oper}(B:f.guard=none)(g:QW f.op=true)(k:f.dst≠some d)(u:d∉f.looksAt ops)(w:∀t,(F t).uses d=false)(h:iH P TE N ops f K (eff none d v F)) :
  iH P TE N ops f (Fq d (f.looksAt ops) v F K) F:=by
 unfold iH fA at h |-;rw[B]at h |-;simp only at h |-;have j:∀t,t∈dy f.op->t∈f.looksAt ops:=λt l=>iq f t l
 have pur:∀b,b≠d->dh P TE (eff none d v F) f.op (λq=>bR N (eff none d v F) b q K)->dh P TE F f.op λq=>bR N F b q (Fq d (f.looksAt ops) v F K):=λb k h=>
  B9 (p:=λF K=>dh P TE F f.op K) (jU h) k j u w
 have dne:∀b,f.dst=some b->b≠d:=ψ
 have tmI:∀x,x∈f.op.operands.toList->∀t,t∈tm x->t∈f.looksAt ops:=λx C t l=>j t (List.mem_flatMap.2 ⟨x,C,l⟩)
 cases e:f.op with
 | store T x y=>
  rw[e]at h tmI;simp only[A7]at h |-;cases a:f.dst with
  | some b=>rw[a]at h;simp only[ku]at h;exact h.elim
  | none=>
   grind [Pz,Go.Op.operands]
 | move x=>
  rw[e]at h tmI;cases a:f.dst with
  | none=>rw[a]at h;exact h.elim
  | some b=>
   rw[a]at h;cases x with
   | tmp t=>
    simp only[A7,ku]at h |-;exact MJ h (dne b a) u (tmI (.tmp t) (by simp[Op.operands]) t (by simp[tm])) w
   | _=>rw[e]at g;cases g
 | assign x=>
  rw[e]at h tmI
  grind [RM,A7,ku,Go.Op.operands]
 | build T D=>
  rw[e]at h tmI
  grind [KJ,A7,ku,Go.Op.operands]
 | buildSlice T n D=>
  rw[e]at h tmI
  grind [Hv,A7,ku,Go.Op.operands]
 | extract x i=>rw[e]at h pur;cases a:f.dst with|none=>rw[a]at h;exact h.elim|some b=>rw[a]at h;exact pur b (dne b a) h
 | load T x=>rw[e]at h pur;cases a:f.dst with|none=>rw[a]at h;exact h.elim|some b=>rw[a]at h;exact pur b (dne b a) h
 | fieldAddr T x i=>rw[e]at h pur;cases a:f.dst with|none=>rw[a]at h;exact h.elim|some b=>rw[a]at h;exact pur b (dne b a) h
 | field T x i=>rw[e]at h pur;cases a:f.dst with|none=>rw[a]at h;exact h.elim|some b=>rw[a]at h;exact pur b (dne b a) h
 | binOp o T x y L=>rw[e]at h pur;cases a:f.dst with|none=>rw[a]at h;exact h.elim|some b=>rw[a]at h;exact pur b (dne b a) h
 | unOp o T x=>rw[e]at h pur;cases a:f.dst with|none=>rw[a]at h;exact h.elim|some b=>rw[a]at h;exact pur b (dne b a) h
 | call c=>
  rw[e]at g h tmI;cases E:qS c with
  | none=>grind [QW]
  | some p=>
   have r:=xT E;subst r;cases a:f.dst with
   | none=>rw[a]at h;exact h.elim
   | some b=>
    grind [PG,A7,ku,Go.Op.operands,Go.Call.operands]
 | slice T x G A H=>
  rw[e]at g h tmI pur;cases G with
  | some _=>cases g
  | none=>
   cases A with
   | none=>cases g
   | some A=>
    cases H with
    | some _=>cases g
    | none=>
     cases a:f.dst with
     | none=>rw[a]at h;exact h.elim
     | some b=>
      rw[a]at h;simp only[A7,ku]at h |-;cases J:TS N b with
      | false=>simp_all
      | true=>
       grind [Rh,Go.Op.operands]
 | _=>rw[e]at g;cases g
theorem RU{a:Oper}(c:a.guard=none)(f:QW a.op=true)(b:a.dst≠some d)(g:d∉a.looksAt ops)(i:∀t,(F t).uses d=false)(h:iH P TE N ops a K F) :
  iH P TE N ops a (λF1=>K F1/\bV (a.looksAt ops) F F1) F:=by
 refine jQ (Mw (d:=d) (v:=F d) c f b g i (by rw[Pi];exact h)) λF1 j=>?_
 obtain⟨k,e,l,u⟩:=j
 grind [Pi]
theorem bV.setH{ts:List Nat}{t:Nat}{k:Kd}{cs:List C} : bV ts F (setH F t (.H k cs)):=λs e a=>by
 unfold Ab.setH at a;cases b:Nat.beq s t with
 | true=>rw[b]at a;cases a
 | false=>grind
variable{rcs:List C}
theorem Jh(h:bR N F d (.H k rcs) K):bR N F d (.H k rcs) λF1=>K F1/\bV ts F F1:=by
 unfold bR at h |-;cases a:(N.free d&&!(AV.H k rcs).uses d) with
 | false=>grind
 | true=>rw[a]at h;exact⟨h,bV.put λe b=>by cases b⟩
theorem ur{off:Nat}{st:cB}{K:(Nat->AV)->List C->Prop}(h:lendAt F t off st n K):lendAt F t off st n λF1 cs=>K F1 cs/\bV ts F F1:=by
 unfold lendAt at h |-;split at h
 all_goals grind [dn,bV.updH]
def lB{ts:List Nat} : ∀{xs:List (Operand × Nat)}{K:(Nat->AV)->List (MA × rq)->Prop}{F:Nat->AV},lendP xs K F->lendP xs (λF1 l=>K F1 l/\bV ts F F1) F
 | [],K,F,h=>⟨h,bV.refl _ _⟩
 | (x,0)::xs,K,F,h=>lB (xs:=xs) h
 | (x,1)::xs,K,F,h=>by
  simp only[lendP]at h |-;split at h
  case h_2=>exact h.elim
  split at h
  ·exact fm (ur (ts:=ts) h) λF1 c h=>cq (lB (ts:=ts) h.1) λb l a=>⟨a.1,h.2.trans a.2⟩
  ·exact fm (ur (ts:=ts) h) λF1 c h=>cq (lB (ts:=ts) h.1) λb l a=>⟨a.1,h.2.trans a.2⟩
  ·exact fm (ur (ts:=ts) h) λF1 c h=>cq (lB (ts:=ts) h.1) λb l a=>⟨a.1,h.2.trans a.2⟩
  exact h.elim
 | (x,n+2)::xs,K,F,h=>by
  simp only[lendP]at h |-;split at h
  case h_2=>exact h.elim
  split at h
  ·split at h
   ·exact cq (lB (ts:=ts) h) λb l a=>⟨a.1,bV.kill.trans a.2⟩
   exact h.elim
  ·exact cq (lB (ts:=ts) h) λb l a=>⟨a.1,bV.kill.trans a.2⟩
  exact h.elim
theorem lF{ts:List Nat}{K:(Nat->AV)->Prop} : ∀{l:List (MA × rq)}{B:List MA}{F:Nat->AV},gS l B K F->gS l B (λF1=>K F1/\bV ts F F1) F
 | [],[],F,h=>⟨h,bV.refl _ _⟩
 | [],_::_,F,h=>h.elim
 | (m,.no)::l,[],F,h=>h.elim
 | (m,.at_ t off st)::l,[],F,h=>h.elim
 | (m,.box t)::l,[],F,h=>h.elim
 | (m,.no)::l,.val _ _::B,F,h=>lF (l:=l) (B:=B) h
 | (m,.no)::l,.mut _ _::B,F,h=>lF (l:=l) (B:=B) h
 | (m,.no)::l,.ptr _::B,F,h=>lF (l:=l) (B:=B) h
 | (m,.at_ t off st)::l,.val _ _::B,F,h=>h.elim
 | (m,.at_ t off st)::l,.ptr _::B,F,h=>h.elim
 | (m,.box t)::l,.val _ _::B,F,h=>h.elim
 | (m,.box t)::l,.mut _ _::B,F,h=>h.elim
 | (m,.at_ t off st)::l,.mut ag out::B,F,h=>by
  simp only[gS]at h |-;split at h
  case h_2=>exact h.elim
  split at h
  ·rename_i k c _ _
   cases d:Nat.ble (off+out.length) c.length with
   | false=>grind
   | true=>
    rw[d]at h;simp only[cond_true,dn]at h |-;exact dq (λb a=>⟨a.1,bV.updH.trans a.2⟩) (lF (ts:=ts) h)
  obtain⟨r,j,e,f,g,i⟩:=Pu.out h;exact Pu.mk e f g rfl (dq (λb a=>⟨a.1,bV.updH.trans a.2⟩) (lF (ts:=ts) i))
 | (m,.box t)::l,.ptr out::B,F,h=>by
  simp only[gS]at h |-;split at h
  ·exact dq (λb a=>⟨a.1,bV.setH.trans a.2⟩) (lF (ts:=ts) h)
  exact h.elim
variable{modes:List Nat}{args:List Operand}{f:Nat}
theorem NA{d:Option Nat}(h:l9 P N F d f args modes K):l9 P N F d f args modes λF1=>K F1/\bV ts F F1:=by
 unfold l9 at h |-;refine cq (lB (ts:=ts) h) λn l h=>?_
 obtain⟨h,c⟩:=h;cases e:(vo l&&Nat.beq args.length modes.length) with
 | false=>grind
 | true=>
  rw[e]at h;refine j7 h λb A h=>?_
  obtain⟨o,B,k,rcs,g,a,i⟩:=ce.out h;refine CK g a (dq (λF'' h=>?_) (lF (ts:=ts) i));obtain⟨h,j⟩:=h;cases d with
  | none=>grind [bV.trans]
  | some d=>exact br (Jh (ts:=ts) h) λp a=>⟨a.1,(c.trans j).trans a.2⟩
theorem QH{d:Option Nat}{c a b:Nat}{B:List MA}(h:wH N F d t cs c a e b K k rcs B):wH N F d t cs c a e b (λF1=>K F1/\bV ts F F1) k rcs B:=by
 unfold wH at h |-;split at h
 case h_2=>exact h.elim
 rename_i g i;cases j:(Nat.beq g.length a&&Nat.beq i.length b) with
 | false=>grind
 | true=>
  rw[j]at h;simp only[cond_true,dn]at h |-;cases d with
  | none=>exact⟨h,bV.kill.trans bV.setH⟩
  | some d=>exact br (Jh (ts:=ts) h) λl f=>⟨f.1,(bV.kill.trans bV.setH).trans f.2⟩
theorem NX{d:Option Nat}{a b:Nat}(h:kn P N F d f args a b K):kn P N F d f args a b λF1=>K F1/\bV ts F F1:=by
 unfold kn at h |-;split at h
 case h_2=>exact h.elim
 refine kU h λt e h=>kU h λg c h=>?_
 split at h
 case h_2=>exact h.elim
 rename_i i p;cases j:(Nat.beq g t&&Nat.ble (e+a) c&&Nat.ble (c+b) i.length) with
 | false=>grind
 | true=>
  rw[j]at h;simp only[cond_true,dn]at h |-;obtain⟨q,B,k,rcs,l,n,o⟩:=ce.out h;exact CK l n (QH o)
def Nl{d:Option Nat}(h:kv P N F d f args modes K):kv P N F d f args modes λF1=>K F1/\bV ts F F1:=by
 unfold kv at h |-;split
 ·rename_i p a;rw[a]at h;exact NX h
 rename_i a;rw[a]at h;exact NA h
variable{s:Nat}
theorem RL{dj:Option Nat}{a:Nat->AV}(u:bV ts F a):bV ts F (rv1 F dj s a):=by
 unfold rv1;split
 case h_2=>exact u
 rename_i t c f;cases g:(dne dj s&&dne dj t) with
 | false=>exact u
 | true=>
  simp only[cond_true];split
  case h_2=>exact u
  split
  case h_2=>exact u
  intro q e b;by_cases d:q=s
  ·grind [pP]
  rw[fx _ _ d]at b;exact u q e b
theorem G3{ts:List Nat}{dj:Option Nat} : ∀{l:List Nat}{a:Nat->AV},bV ts F a->bV ts F (rvE F dj l a)
 | [],_,u=>u
 | _::l,_,u=>G3 (l:=l) (RL u)
theorem PM{a:Oper}(k:a.guard=none)(i:p8 a.op=true)(h:iH P TE N ops a K F):iH P TE N ops a (λF1=>K F1/\bV (a.looksAt ops) F F1) F:=by
 have pur:∀d,a.dst=some d->dh P TE F a.op (λg=>bR N F d g K)->dh P TE F a.op λg=>bR N F d g λF1=>K F1/\bV (a.looksAt ops) F F1:=λd l h=>by
  have n:gu P TE N ops a K F:=by grind [gu,fA]
  obtain⟨y,g,j,o⟩:=yq n;have b:=j.dst;rw[l]at b;simp only[Z0]at b;subst b;have A:=j.at_ F (Cc _ _) (λF1=>K F1/\bV (a.looksAt ops) F F1) ⟨o,bV.put λe q=>(j.from_ e q).imp id ψ⟩
  grind [gu,fA]
 unfold iH fA at h |-;rw[k]at h |-;simp only at h |-;cases f:a.op with
 | call c=>
  rw[f]at h i;have r:qS c=none:=by grind [p8,qS]
  have pl:kj P TE N a K F->kj P TE N a (λF1=>K F1/\bV (a.looksAt ops) F F1) F:=λh=>by grind [kj,ku]
  cases t:A7 N F (.call c) with
  | some p=>
   rw[t]at h;simp only at h |-;have lt:rV P N F a.dst p.1 p.2.1 p.2.2 K->rV P N F a.dst p.1 p.2.1 p.2.2 λF1=>K F1/\bV (a.looksAt ops) F F1:=λh=>rH (Nl (ts:=a.looksAt ops) h) λF1 ⟨h,u⟩=>by grind [nM,G3]
   cases w:Ny N (.call c) with
   | false=>grind
   | true=>
    rw[w]at h;rcases h with h|h
    ·exact .pl (pl h)
    exact .lt (lt h)
  | none=>
   grind [kj]
 | _=>rw[f]at i;cases i
theorem Qj{a:Oper}(c:a.guard=none)(e:(QW a.op || p8 a.op)=true)(b:a.dst≠some d)(f:d∉a.looksAt ops)(g:∀t,(F t).uses d=false)(h:iH P TE N ops a K F) :
  iH P TE N ops a (λF1=>K F1/\bV (a.looksAt ops) F F1) F:=by grind [RU,PM]
def Gq(d:Nat)(ts:List Nat)(F:Nat->AV)(K:(Nat->AV)->Prop)(F1:Nat->AV):Prop:=∃a,K (eff none d a F1)/\bV ts F F1
def Gq.trans{a:Nat->AV}(b:bV ts F F1)(h:Gq d ts F1 K a):Gq d ts F K a:=by
 obtain⟨c,e,f⟩:=h;exact⟨c,e,b.trans f⟩
theorem Bw(a:t≠d):setH (eff none d v F) t av=eff none d v (setH F t av):=by grind [mq,fx,ch,setH]
theorem ul{off:Nat}{st:cB}{K:(Nat->AV)->List C->Prop}(h:lendAt (eff none d v F) t off st n K)(a:t≠d):lendAt F t off st n λF1 cs=>∃v1,K (eff none d v1 F1) cs/\bV ts F F1:=by
 unfold lendAt at h |-;rw[ch a]at h;split at h
 case h_2=>exact h.elim
 split at h
 ·grind [dn,nS,bV.updH]
 obtain⟨r,j,b,c,e,f⟩:=Lq.out h;refine .mk_ ?_
 grind [nS,bV.updH]
theorem mH{ts:List Nat}{d:Nat}(a:d∉ts):∀{xs:List (Operand × Nat)}{K:(Nat->AV)->List (MA × rq)->Prop}{F:Nat->AV}{v:AV},lendP xs K (eff none d v F)->(∀x,x∈xs->d∉tm x.1)->(∀t,(F t).uses d=false)->
  lendP xs (λF1 l=>(∃v1,K (eff none d v1 F1) l/\bV ts F F1)/\∀q,q∈l->d∉q.2.slot) F
 | [],K,F,v,h,_,_=>⟨⟨v,h,bV.refl _ _⟩,ψ⟩
 | (x,0)::xs,K,F,v,h,w,c=>by
  simp only[lendP]at h |-;refine cq (mH a h ψ c) λF1 l h=>⟨h.1,λq b=>?_⟩
  rcases List.mem_cons.1 b with rfl|b
  ·exact λu=>by cases u
  exact h.2 q b
 | (x,1)::xs,K,F,v,h,w,c=>by
  simp only[lendP]at h |-;split at h
  case h_2=>exact h.elim
  rename_i s;have j:s≠d:=λe=>w _ Z1 (by simp[tm,e])
  rw[ch j]at h;have y:∀{t:Nat}{F1:Nat->AV}{l:List (MA × rq)}{m:MA}{f:Nat}{A:cB}{K2:(Nat->AV)->List (MA × rq)->Prop},t≠d->((∃v1,K2 (eff none d v1 F1) ((m,.at_ t f A)::l)/\bV ts F F1)/\∀q,q∈l->d∉q.2.slot)->(∃v1,K2 (eff none d v1 F1) ((m,.at_ t f A)::l)/\bV ts F F1)/\∀q,q∈(m,rq.at_ t f A)::l->d∉q.2.slot:=λg h=>⟨h.1,λq b=>by
    rcases List.mem_cons.1 b with rfl|b
    · exact λu=>g (O1.1 u).symm
    exact h.2 q b⟩
  split at h
  ·exact fm (ul (ts:=ts) h j) λF1 k h=>by
    obtain⟨v1,h,i⟩:=h;exact cq (mH a h ψ (i.clean a c)) λB l h=>by
     obtain⟨⟨o,h,p⟩,r⟩:=h;exact y (K2:=K) j ⟨⟨o,h,i.trans p⟩,r⟩
  ·exact fm (ul (ts:=ts) h j) λF1 k h=>by
    obtain⟨v1,h,i⟩:=h;exact cq (mH a h ψ (i.clean a c)) λB l h=>by
     obtain⟨⟨o,h,p⟩,r⟩:=h;exact y (K2:=K) j ⟨⟨o,h,i.trans p⟩,r⟩
  ·rename_i t f A G D
   have g:t≠d:=λe=>by have:=c s;rw[D,e]at this;simp[AV.uses]at this
   exact fm (ul (ts:=ts) h g) λF1 k h=>by
    obtain⟨v1,h,i⟩:=h;exact cq (mH a h ψ (i.clean a c)) λB l h=>by
     obtain⟨⟨o,h,p⟩,r⟩:=h;exact y (K2:=K) g ⟨⟨o,h,i.trans p⟩,r⟩
  exact h.elim
 | (x,n+2)::xs,K,F,v,h,w,c=>by
  simp only[lendP]at h |-;split at h
  case h_2=>exact h.elim
  rename_i s;have j:s≠d:=λe=>w _ Z1 (by simp[tm,e])
  rw[ch j]at h;have y:∀{t:Nat}{k:List C},t≠d->lendP xs (λE l=>K E ((.ptr k,.box t)::l)) (kill (eff none d v F) t)->lendP xs (λF1 l=>(∃v1,K (eff none d v1 F1) ((.ptr k,.box t)::l)/\bV ts F F1)/\∀q,q∈(MA.ptr k,rq.box t)::l->d∉q.2.slot) (kill F t):=fun {t k} g h=>by
   rw[BJ g]at h;refine cq (mH a h ψ ((bV.kill (ts:=ts)).clean a c)) λB l h=>?_
   obtain⟨⟨o,h,p⟩,r⟩:=h;refine⟨⟨o,h,bV.kill.trans p⟩,λq b=>?_⟩;rcases List.mem_cons.1 b with rfl|b
   ·exact λu=>g (O1.1 u).symm
   exact r q b
  split at h
  ·rename_i t D
   have g:t≠d:=λe=>by have:=c s;rw[D,e]at this;simp[AV.uses]at this
   rw[ch g]at h;split at h
   all_goals simp_all
  all_goals simp_all
theorem tl{d:Nat}{v:AV}(a:∀t,(F t).uses d=false):∀{l:List (MA × rq)}{xs:List Operand}{K:Bool->List MA->Prop},valsP (eff none d v F) l xs K->(∀x,x∈xs->d∉tm x)->valsP F l xs K
 | [],[],K,h,_=>h
 | (m,.no)::l,x::xs,K,h,b=>by
  obtain⟨f,g,c,e⟩:=cw h;exact e F (m8 ψ a) _ (tl a c ψ)
 | (m,.at_ t off st)::l,x::xs,K,h,b=>tl (l:=l) (xs:=xs) a h ψ
 | (m,.box t)::l,x::xs,K,h,b=>tl (l:=l) (xs:=xs) a h ψ
 | [],_::_,K,h,_=>h.elim
 | (m,.no)::l,[],K,h,_=>h.elim
 | (m,.at_ t off st)::l,[],K,h,_=>h.elim
 | (m,.box t)::l,[],K,h,_=>h.elim
theorem lH{ts:List Nat}{d:Nat}{K:(Nat->AV)->Prop} : ∀{l:List (MA × rq)}{B:List MA}{F:Nat->AV}{v:AV},gS l B K (eff none d v F)->(∀q,q∈l->d∉q.2.slot)->gS l B (Gq d ts F K) F
 | [],[],F,v,h,_=>⟨v,h,bV.refl _ _⟩
 | [],_::_,F,v,h,_=>h.elim
 | (m,.no)::l,[],F,v,h,_=>h.elim
 | (m,.at_ t off st)::l,[],F,v,h,_=>h.elim
 | (m,.box t)::l,[],F,v,h,_=>h.elim
 | (m,.no)::l,.val _ _::B,F,v,h,b=>lH (l:=l) (B:=B) h ψ
 | (m,.no)::l,.mut _ _::B,F,v,h,b=>lH (l:=l) (B:=B) h ψ
 | (m,.no)::l,.ptr _::B,F,v,h,b=>lH (l:=l) (B:=B) h ψ
 | (m,.at_ t off st)::l,.val _ _::B,F,v,h,_=>h.elim
 | (m,.at_ t off st)::l,.ptr _::B,F,v,h,_=>h.elim
 | (m,.box t)::l,.val _ _::B,F,v,h,_=>h.elim
 | (m,.box t)::l,.mut _ _::B,F,v,h,_=>h.elim
 | (m,.at_ t off st)::l,.mut ag out::B,F,v,h,b=>by
  have c:t≠d:=λe=>b _ Z1 (by simp[rq.slot,e])
  have a:∀q,q∈l->d∉q.2.slot:=ψ
  simp only[gS]at h |-;rw[ch c]at h;split at h
  case h_2=>exact h.elim
  split at h
  ·rename_i k n _ _
   cases o:Nat.ble (off+out.length) n.length with
   | false=>grind
   | true=>
    rw[o]at h;simp only[cond_true,dn]at h |-;rw[nS c]at h;exact dq (λg f=>Gq.trans bV.updH f) (lH (ts:=ts) h a)
  obtain⟨r,j,p,u,w,i⟩:=Pu.out h;rw[nS c]at i;exact Pu.mk p u w rfl (dq (λg f=>Gq.trans bV.updH f) (lH (ts:=ts) i a))
 | (m,.box t)::l,.ptr out::B,F,v,h,b=>by
  have c:t≠d:=λe=>b _ Z1 (by simp[rq.slot,e])
  have a:∀q,q∈l->d∉q.2.slot:=ψ
  simp only[gS]at h |-;rw[ch c]at h;split at h
  ·rw[Bw c]at h
   exact dq (λg f=>Gq.trans bV.setH f) (lH (ts:=ts) h a)
  exact h.elim
theorem LX{dj:Option Nat}(h:l9 P N (eff none d v F) dj f args modes K)(n:dj≠some d)(a:d∉ts)(g:∀x,x∈args->d∉tm x)(i:∀t,(F t).uses d=false) :
  l9 P N F dj f args modes (Gq d ts F K):=by
 unfold l9 at h |-;refine cq (mH a h (λx o=>g _ (List.of_mem_zip o).1) i) λE l h=>?_
 obtain⟨⟨G,h,c⟩,p⟩:=h;cases q:(vo l&&Nat.beq args.length modes.length) with
 | false=>grind
 | true=>
  rw[q]at h;refine j7 (tl (c.clean a i) h g) λb A h=>?_
  obtain⟨H,B,k,rcs,r,e,u⟩:=ce.out h;refine CK r e (dq (λF'' h=>?_) (lH (ts:=ts) u p));obtain⟨w,h,j⟩:=h;cases dj with
  | none=>exact⟨w,h,c.trans j⟩
  | some dj=>
   refine br (gQ (ts:=ts) h ψ iO) λJ e=>?_
   obtain⟨y,-,C,D⟩:=e;exact⟨y,C,(c.trans j).trans D⟩
theorem Qa{dj:Option Nat}{c a b:Nat}{B:List MA}(f:t≠d)(g:dj≠some d)(h:wH N (eff none d v F) dj t cs c a e b K k rcs B):wH N F dj t cs c a e b (Gq d ts F K) k rcs B:=by
 unfold wH at h |-;split at h
 case h_2=>exact h.elim
 rename_i i j;cases l:(Nat.beq i.length a&&Nat.beq j.length b) with
 | false=>grind
 | true=>
  rw[l]at h;simp only[cond_true,dn]at h |-;rw[BJ f,Bw f]at h;cases dj with
  | none=>exact⟨_,h,bV.kill.trans bV.setH⟩
  | some dj=>
   refine br (gQ (ts:=ts) h ψ iO) λr n=>?_
   obtain⟨o,-,p,q⟩:=n;exact⟨o,p,(bV.kill.trans bV.setH).trans q⟩
theorem Kb{K:Nat->Nat->Prop}(b:d∉tm x)(c:∀t,(F t).uses d=false)(h:yN (eff none d v F) x K):yN F x λt o=>t≠d/\K t o:=by
 obtain⟨s,t,f,rfl,a,i⟩:=tt h;have g:s≠d:=λe=>b (by simp[tm,e])
 rw[ch g]at a;have j:t≠d:=λe=>by have:=c s;rw[a,e]at this;simp[AV.uses]at this
 grind [yN]
theorem Mx{dj:Option Nat}{a b:Nat}(h:kn P N (eff none d v F) dj f args a b K)(g:dj≠some d)(c:∀x,x∈args->d∉tm x)(e:∀t,(F t).uses d=false) :
  kn P N F dj f args a b (Gq d ts F K):=by
 unfold kn at h |-;split at h
 case h_2=>exact h.elim
 refine kU (Kb (c _ (by simp)) e h) λt j h=>?_
 obtain⟨i,h⟩:=h;refine kU (Kb (c _ (by simp)) e h) λk l h=>?_
 replace h:=h.2;rw[ch i]at h;split at h
 all_goals grind [dn,ce.out,CK,Qa]
theorem N1{dj:Option Nat}(h:kv P N (eff none d v F) dj f args modes K)(a:dj≠some d)(b:d∉ts)(c:∀x,x∈args->d∉tm x)(e:∀t,(F t).uses d=false) :
  kv P N F dj f args modes (Gq d ts F K):=by grind [Mx,LX,kv]
theorem Q8{dj:Option Nat}{q:Nat}(c:q≠s):rv1 F dj s F1 q=F1 q:=by
 unfold rv1;cases F s with
 | ref t a b=>
  cases b with
  | cons=>rfl
  | nil=>
   simp only;cases(dne dj s&&dne dj t) with
   | false=>rfl
   | true=>
    simp only[cond_true];cases F1 t with
    | H k d=>
     cases k with
     | box=>
      simp only;cases F1 s with
      | dead=>grind [fx]
      | _=>rfl
     | _=>rfl
    | _=>rfl
 | _=>rfl
theorem Rl{dj:Option Nat}{v1:AV}(c:∀t,(F t).uses d=false):∃a,rv1 (eff none d v F) dj s (eff none d v1 F1)=eff none d a (rv1 F dj s F1):=by
 by_cases b:s=d
 ·subst b
  have f:∃a,rv1 (eff none s v F) dj s (eff none s v1 F1)=eff none s a F1:=by
   unfold rv1;rw[mq];have set:∀x:AV,setH (eff none s v1 F1) s x=eff none s x F1:=λx=>by grind [pP,mq,fx,ch]
   grind
  obtain⟨a,g⟩:=f;refine⟨a,g.trans ?_⟩
  grind [mq,ch,Q8]
 refine⟨v1,?_⟩;unfold rv1;rw[ch b];cases h:F s with
 | ref t i j=>
  cases j with
  | cons=>rfl
  | nil=>
   have k:t≠d:=λe=>by have:=c s;rw[h,e]at this;simp[AV.uses]at this
   grind [ch,Bw]
 | _=>rfl
def Px{d:Nat}{dj:Option Nat}{v:AV}(a:∀t,(F t).uses d=false):∀{l:List Nat}{v1:AV}{F1:Nat->AV},∃b,rvE (eff none d v F) dj l (eff none d v1 F1)=eff none d b (rvE F dj l F1)
 | [],v1,_=>⟨v1,rfl⟩
 | s::l,v1,F1=>by
  simp only[rvE];obtain⟨b,e⟩:=Rl (dj:=dj) (v:=v) (v1:=v1) (s:=s) (F1:=F1) a;rw[e];exact Px a
theorem QF{a:Oper}(B:a.guard=none)(k:p8 a.op=true)(g:a.dst≠some d)(w:d∉a.looksAt ops)(n:∀t,(F t).uses d=false)(h:iH P TE N ops a K (eff none d v F)) :
  iH P TE N ops a (Gq d (a.looksAt ops) F K) F:=by
 have f:∀t,t∈dy a.op->t∈a.looksAt ops:=λt o=>iq a t o
 have tmI:∀x,x∈a.op.operands.toList->∀t,t∈tm x->t∈a.looksAt ops:=λx y t o=>f t (List.mem_flatMap.2 ⟨x,y,o⟩)
 have pur:∀dj,dj≠d->dh P TE (eff none d v F) a.op (λj=>bR N (eff none d v F) dj j K)->dh P TE F a.op λj=>bR N F dj j (Fq d (a.looksAt ops) v F K):=λdj g h=>
  B9 (p:=λF K=>dh P TE F a.op K) (jU h) g f w n
 unfold iH fA at h |-;rw[B]at h |-;simp only at h |-;cases b:a.op with
 | call c=>
  rw[b]at h k tmI;have q:qS c=none:=by grind [p8,qS]
  have r:A7 N (eff none d v F) (.call c)=A7 N F (.call c):=by grind [p8,A7]
  rw[r]at h;have pl:kj P TE N a K (eff none d v F)->kj P TE N a (Gq d (a.looksAt ops) F K) F:=λh=>by
   unfold kj at h |-;rw[b]at h |-;cases C:a.dst with
   | none=>grind
   | some dj=>
    rw[C]at h;simp only[ku,q]at h |-;have A:=pur dj ψ;rw[b]at A;obtain⟨j,D,-,E⟩:=jU (A h);exact E F (Cc _ _) _ (br D λQ G=>by
      obtain⟨v1,-,H,u⟩:=G;exact⟨v1,H,u⟩)
  cases J:A7 N F (.call c) with
  | some p=>
   rw[J]at h;simp only at h |-;have i:∀x,x∈p.2.1->d∉tm x:=λx y L=>by grind [p8,A7,Go.Op.operands,Go.Call.operands]
   have lt:rV P N (eff none d v F) a.dst p.1 p.2.1 p.2.2 K->rV P N F a.dst p.1 p.2.1 p.2.2 (Gq d (a.looksAt ops) F K):=λh=>rH (N1 (ts:=a.looksAt ops) h g w i n) λF1 h=>by
    obtain⟨v1,h,u⟩:=h;rw[nM]at h |-;obtain⟨M,e⟩:=Px (dj:=a.dst) (v:=v) (l:=TC N.mo) (v1:=v1) (F1:=F1) n;rw[e]at h;exact⟨M,h,G3 u⟩
   cases O:Ny N (.call c) with
   | false=>grind
   | true=>
    rw[O]at h;rcases h with h|h
    ·exact .pl (pl h)
    exact .lt (lt h)
  | none=>
   grind [kj]
 | _=>rw[b]at k;cases k
theorem Q2{a:Oper}(e:a.guard=none)(b:(QW a.op || p8 a.op)=true)(c:a.dst≠some d)(f:d∉a.looksAt ops)(g:∀t,(F t).uses d=false)(h:iH P TE N ops a K (eff none d v F)) :
  iH P TE N ops a (Gq d (a.looksAt ops) F K) F:=by
 rw[O6]at b;rcases b with b|b
 ·refine jQ (Mw e b c f g h) λl i=>?_
  obtain⟨j,-,k,u⟩:=i;exact⟨j,k,u⟩
 grind [QF]
structure mh(ops:Array Oper)(ds:List Nat)(F:Nat->AV)(listed:Array Bool):Prop where
 dst:∀(j:Nat)(o:Oper)(d:Nat),qq ds o=true->ops[j]? = some o->listed.getD j true=false->o.dst=some d->∀t,(F t).uses d=false
 mv:∀(j:Nat)(o:Oper)(T:Option Nat)(s:Nat),qq ds o=true->ops[j]? = some o->listed.getD j true=false->o.guard=none->nQ o.op=some (T,s)->jg ops o s=true->∀t,(F t).uses s=false
variable{j:Nat}
theorem mh.put{o:Option Nat}(h:mh ops ds F listed)(p:∀b a g,qq ds a=true->b≠j->ops[b]? = some a->listed.getD b true=false->a.dst=some g->av.uses g=false)(q:∀b a T s,qq ds a=true->b≠j->ops[b]? = some a->listed.getD b true=false->a.guard=none->nQ a.op=some (T,s)->jg ops a s=true->av.uses s=false) :
  mh ops ds (eff o d av F) (listed.setIfInBounds j true):=by
 refine⟨λb a g i c e k t=>?_,λb a T s i c e r l n t=>?_⟩
 ·have f:=iB e
  rw[getD_set_ne true (Ne.symm f)]at e;exact jZ ψ (h.dst b a g i c e k t)
 have f:=iB e;rw[getD_set_ne true (Ne.symm f)]at e;exact jZ ψ (h.mv b a T s i c e r l n t)
theorem xJ{o:Oper}(h:Tj o=true):o.guard=none:=by grind [Tj]
theorem Pk(h:(!ts.any (Nat.beq d))=true):d∉ts:=λa=>by grind [Nat.beq_refl]
theorem Ms{a b:Oper}{c:Bool}(h:Tt ops a b c=true)(f:b.dst=some d):a.guard=none/\(QW a.op || p8 a.op)=true/\a.dst≠some d/\d∉a.looksAt ops/\b.guard=none/\d∉b.looksAt ops/\(c=true\/∀T s,nQ b.op=some (T,s)->jg ops b s=false):=by
 unfold Tt at h;rw[f]at h;simp only[I0]at h;obtain⟨⟨⟨⟨⟨⟨g,i⟩,n⟩,j⟩,k⟩,l⟩,o⟩:=h;refine⟨xJ g,i,λe=>?_,Pk j,xJ k,Pk l,?_⟩
 ·simp_all
 grind
def Ps(h:vV ops j i=true):o8 ops j i:=t6 j _ (λ_ a=>.one (xC a)) i h
theorem JA{o:Oper}(h:qq ds o=true):∃d,o.dst=some d/\ds.any (Nat.beq d)=true:=by grind [qq]
structure QP(ops:Array Oper)(ds:List Nat)(nm:Nat->Bool):Prop where
 back:∀(j:Nat)(oj:Oper),ops[j]? = some oj->∀e∈oj.after,Region.binds .any e=true->e.on<j
 apart:∀(i j:Nat)(oi oj:Oper),qq ds oi=true->qq ds oj=true->i≠j->ops[i]? = some oi->ops[j]? = some oj->db oj i=true\/db oi j=true\/oi.apart ops oj=true
 look:∀(i j:Nat)(oi oj:Oper)(d:Nat),qq ds oi=true->i≠j->ops[i]? = some oi->ops[j]? = some oj->oi.dst=some d->d∈oj.looksAt ops->db oj i=true
 differ:∀(i j:Nat)(oi oj:Oper)(d:Nat),qq ds oi=true->qq ds oj=true->i≠j->ops[i]? = some oi->ops[j]? = some oj->oi.dst=some d->oj.dst≠some d
 nf:∀(i j:Nat)(oi oj:Oper),qq ds oi=true->qq ds oj=false->i≠j->ops[i]? = some oi->ops[j]? = some oj->vV ops j i=true\/vV ops i j=true\/Tt ops oj oi (nm i)=true
 mvs:∀(j:Nat)(oj:Oper)(T:Option Nat)(s:Nat),qq ds oj=true->ops[j]? = some oj->nQ oj.op=some (T,s)->jg ops oj s=true->ds.any (Nat.beq s)=true
theorem pv{d:Oper}(a:QP ops ds nm)(b:DC ops listed)(c:ops[j]? = some d)(f:∀e∈d.after,Region.binds .any e=true->listed.getD e.on false=true)(g:vV ops j i=true):listed.getD i false=true:=
 nt b a.back (Ps g) (W3.1 c).1 λk h=>by grind [bz,cr]
theorem unl{k:Nat}(h1:listed.getD k true=false)(a:listed.getD k false=true):False:=ψ
theorem gU.trans{a:Nat->AV}(h1:gU F F1 ts)(c:gU F1 a ts):gU F a ts:=λt b=>by
 obtain⟨d,e⟩:=h1 t b;obtain⟨f,g⟩:=c t b
 grind
theorem mh.us{g:Oper}(n:QP ops ds nm)(h:mh ops ds F listed)(o:ops[j]? = some g)(r:∀e∈g.after,Region.binds .any e=true->listed.getD e.on false=true)(u:bV (g.looksAt ops) F F1):mh ops ds F1 (listed.setIfInBounds j true):=by
 refine⟨λi k t l b c d=>u.clean (λf=>?_) (h.dst i k t l b ?_ d),λi k T s l b c w p q=>u.clean (λf=>?_) (h.mv i k T s l b ?_ w p q)⟩
 ·have a:=iB c
  rw[getD_set_ne true (Ne.symm a)]at c;have:=n.look i j k g t l a b o d f
  grind [cr]
 ·have a:=iB c
  rwa [getD_set_ne true (Ne.symm a)]at c
 ·grind [iB,gh,cZ]
 have a:=iB c
 rwa [getD_set_ne true (Ne.symm a)]at c
theorem Ro{p:Nat}{b:Oper}(a:ops[p]? = some b)(j:d∉b.looksAt ops)(k:∀t,(F1 t).uses d=false)(e:b.dst≠some d)(h:R8 P TE ops p (eff none d v F1)):R8 P TE ops p F1:=by
 obtain⟨f,g,i,c⟩:=h;rw[bz a]at g i c;refine⟨f,by grind [bz],?_,?_⟩
 ·grind [bz,wh,m8]
 rw[bz a];obtain⟨l,n,-,o⟩:=jU c
 grind [ch,m8,iq]
theorem GL(W:QP ops ds nm){b:Oper}(D:ops[i]? = some b)(w:qq ds b=true) :
  ∀(fuel:Nat)(listed:Array Bool)(F:Nat->AV)(l:Option Nat)(av:AV),i∈Region.ready .any ops listed->mh ops ds F listed->DC ops listed->Yl P TE N ops b F l d av->(nm i=true->l=none)->Fx P TE N ops ds K fuel (listed.setIfInBounds i true) (eff l d av F)->Fx P TE N ops ds K (fuel+1) listed F:=by
 have self:∀(listed:Array Bool)(F:Nat->AV)(l:Option Nat)(av:AV),i∈Region.ready .any ops listed->mh ops ds F listed->Yl P TE N ops b F l d av->∀X:(Nat->AV)->Prop,X (eff l d av F)->kY P TE N ops b X F:=λlisted F l av hr a c X hK=>by
  have f:=(mem_ready.1 hr).1;refine c.at_ F (Cc _ _) (a.dst i b d w D f c.dst) (λs hs=>?_) X hK;obtain⟨B,⟨T,h2⟩,h3⟩:=c.mvl s hs;exact a.mv i b T s w D f B h2 h3
 intro fuel
 induction fuel with
 | zero=>
  intro listed F l av hr a E c hnm H;refine⟨ψ,λj hj=>?_⟩;by_cases n:j=i
  ·grind [vm]
  have:=ready_mono hj n;rw[H.1]at this;cases this
 | succ fuel ih=>
  intro listed F l av hr a E c hnm H;refine⟨ψ,λj hj=>?_⟩;by_cases n:j=i
  ·grind [vm]
  have B:=H.2 j (ready_mono hj n);obtain⟨R,g,q,hall⟩:=mem_ready.1 hj;obtain⟨f,oi',C,halli⟩:=mem_ready.1 hr;rw[D]at C;simp only[Z0]at C;subst C;have noedge:∀k ok,ops[k]? = some ok->listed.getD k true=false->db g k=false:=λk ok hk hkun=>by grind [cr]
  have noedge':∀k ok,ops[k]? = some ok->listed.getD k true=false->db b k=false:=λk ok hk hkun=>by grind [cr]
  have cd:∀t,(F t).uses d=false:=a.dst i b d w D f c.dst
  unfold vm at B |-;rw[q]at B |-;simp only at B |-;by_cases G:qq ds g=true
  case neg=>
   rw[C9 G]at B |-;have hji1:vV ops j i=false:=by grind [pv]
   have hij1:vV ops i j=false:=by grind [pv]
   have hfb:Tt ops g b (nm i)=true:=by grind [QP.nf]
   obtain⟨J,r,A,g4,g5,g6,g7⟩:=Ms hfb c.dst;have hmv:l=none:=by
    cases l with
    | none=>rfl
    | some s=>
     obtain⟨-,⟨T,q1⟩,q2⟩:=c.mvl s rfl
     grind
   subst hmv;refine jQ (Q2 J r A g4 cd B) λF1 hF1=>?_
   obtain⟨v,⟨S,hrun⟩,u⟩:=hF1;have cd1:∀t,(F1 t).uses d=false:=u.clean g4 cd
   have hisz:i<listed.size:=ψ
   have hrd:R8 P TE ops i (eff none d v F1):=S i (by simp[hisz]) (by grind [bz]) hji1;refine⟨λp hp1 L hp3=>?_,ih (listed.setIfInBounds j true) F1 none v (ready_mono hr (Ne.symm n)) (a.us W q hall u) (E.put hj) ?_ (λ_=>rfl) (by grind [Array.setIfInBounds_comm])⟩
   ·have hpi:p≠i:=ψ
    have hpl:p<ops.size:=by
     rcases Nat.lt_or_ge p ops.size with h|h
     ·exact h
     rw[show dr ops p=default by simp[dr,W6,Array.getElem?_eq_none h]]at L;cases L
    have h0:ops[p]? = some ops[p]:=ψ
    have U:=L;rw[bz h0]at U;refine Ro h0 (λhlk=>?_) cd1 (W.differ i p b _ d w U (Ne.symm hpi) D h0 c.dst) (S p (getD_set_true hp1) L hp3);have:=W.look i p b _ d w (Ne.symm hpi) D h0 c.dst hlk;exact unl f (E p _ h0 hp1 i this)
   obtain⟨dp,q1,q2,q3⟩:=hrd;rw[bz D]at q1 q2 q3;have hdp:dp=d:=by grind [Yl.dst]
   subst hdp;rw[mq]at q3;obtain⟨M,e1,e2,e3⟩:=jU q3;subst e1;have agr1:gU (eff none dp M F1) F1 (b.looksAt ops):=m8 g6 cd1;have fromv:eB F1 (b.looksAt ops) M:=λe he=>by
    rcases e2 e he with h|⟨t,Y,h⟩
    all_goals grind [iq,ch]
   have Z:M.uses dp=false:=by
    cases hu:M.uses dp with
    | false=>rfl
    | true=>
     rcases fromv dp hu with h|⟨t,_,h⟩
     all_goals grind
   refine⟨c.dst,c.lt,Z,fromv,ψ,λF' hA O _ X hK=>?_⟩;have agr2:=agr1.trans hA;unfold kY;rw[wh agr2,q2];simp only;unfold gu fA
   grind [gU.mono,iq,Yl.lt,D1,bR]
  rw[CC G]at B |-;have hap:b.apart ops g=true:=by grind [QP.apart]
  obtain⟨ap1,ap2,ap3⟩:=Oper.apart_spec hap;have hdl:d∉g.looksAt ops:=ap1 d c.dst;have cdj':∀o,g.dst=some o->∀t,(F t).uses o=false:=λo hdj=>a.dst j g o G q R hdj
  have cmv:∀s,l=some s->(∀t,(F t).uses s=false)/\s∉g.looksAt ops/\s∈b.looksAt ops:=λs hs=>by
   obtain⟨J,⟨T,r⟩,A⟩:=c.mvl s hs;exact⟨a.mv i b T s w D f J r A,λhl=>n ((gh A).2 i j b g D q (cZ r) hl).symm,cZ r⟩
  have cmvj:∀T s,g.guard=none->nQ g.op=some (T,s)->jg ops g s=true->(∀t,(F t).uses s=false)/\s∉b.looksAt ops/\s∈g.looksAt ops:=λT s J r A=>
   ⟨a.mv j g T s G q R J r A,λhl=>n ((gh A).2 i j b g D q hl (cZ r)).symm,cZ r⟩
  have avno:∀e,e∉b.looksAt ops->(∀t,(F t).uses e=false)->av.uses e=false:=λe B h2=>by
   cases hu:av.uses e with
   | false=>rfl
   | true=>
    rcases c.from_ e hu with h|⟨t,_,h⟩
    all_goals grind
  obtain⟨mvj,o,avj,y,hKj⟩:=pK B (λo hdj t=>jZ ψ (cdj' o hdj t)) (λT s J r A t=>by grind [jZ]);have hdne:d≠o:=λe=>ap2 d c.dst (by rw[y.dst,e])
  have hdjl:o∉b.looksAt ops:=ap3 o y.dst;have cdj:∀t,(F t).uses o=false:=cdj' o y.dst
  have cmj:∀s,mvj=some s->(∀t,(F t).uses s=false)/\s∉b.looksAt ops/\s∈g.looksAt ops:=λs hs=>by
   obtain⟨J,⟨T,r⟩,A⟩:=y.mvl s hs
   grind
  have lookj:∀t,t∈g.looksAt ops->eff l d av F t=F t:=λt Y=>by grind [eff]
  have looki:∀t,t∈b.looksAt ops->eff mvj o avj F t=F t:=λt Y=>by grind [eff]
  have avjno:∀e,e∉g.looksAt ops->(∀t,(F t).uses e=false)->avj.uses e=false:=λe B h2=>by
   cases hu:avj.uses e with
   | false=>rfl
   | true=>
    rcases y.from_ e hu with h|⟨t,Y,h⟩
    all_goals grind
  have agrj:gU (eff l d av F) F (g.looksAt ops):=λt Y=>by grind [eff]
  refine y.at_ F agrj cdj ψ _ (ih (listed.setIfInBounds j true) (eff mvj o avj F) l av (ready_mono hr (Ne.symm n)) (a.put (λj' o' d' hm' V Q hl' O=>?_) (λj' o' T s hm' V Q hl' J r A=>?_)) (E.put hj) ?_ hnm ?_)
  ·refine avjno d' (λh=>?_) (a.dst j' o' d' hm' Q hl' O)
   grind [QP.look]
  ·exact avjno s (λh=>V ((gh A).2 j' j o' g Q q (cZ r) h)) (a.mv j' o' T s hm' Q hl' J r A)
  ·refine⟨c.dst,c.lt,c.self,λe he=>?_,c.mvl,λF' hA O hs' X hK=>c.at_ F' (λt Y=>?_) O hs' X hK⟩
   ·rcases c.from_ e he with h|⟨t,Y,h⟩
    all_goals grind
   obtain⟨a1,a2⟩:=hA t Y
   grind [eff]
  rw[Array.setIfInBounds_comm _ _ n];have:eff l d av (eff mvj o avj F)=eff mvj o avj (eff l d av F):=by grind [eff]
  grind
theorem Af:∀{b:List Nat}{X:Prop}{F:Nat->AV},MF P TE ops b X F->X/\∀p,p∈b->R8 P TE ops p F
 | [],X,F,h=>⟨h,ψ⟩
 | p::l,X,F,h=>by
  simp only[MF]at h;unfold Ti at h;cases c:(dr ops p).dst with
  | none=>grind
  | some d=>
   rw[c]at h;simp only at h;cases f:Jd F (dr ops p) with
   | some q=>grind
   | none=>
    rw[f]at h;simp only at h;obtain⟨g,i,-,-⟩:=jU h;obtain⟨e,k,j⟩:=(show g=F d/\X/\∀p,p∈l->R8 P TE ops p F from⟨i.out.1,Af i.out.2⟩)
    refine⟨k,λn a=>?_⟩;rcases List.mem_cons.1 a with rfl|a
    ·exact⟨d,c,f,jx h λg h=>h.out.1⟩
    grind
variable{l:List (Nat × List Nat)}
theorem um : yv l i=true↔∃p,p∈l/\p.1=i:=by grind [I2,Nat.beq_refl,yv]
theorem pY{k:Nat × List Nat} : yv (k::l) i=(Nat.beq k.1 i || yv l i):=rfl
theorem D3(b:QP ops ds nm){K:(Nat->AV)->Prop} : ∀(l:List (Nat × List Nat))(listed:Array Bool)(F:Nat->AV),EI ops ds l=true->listed.size=ops.size->(∀j,j<ops.size->listed.getD j true = !yv l j)->mh ops ds F listed->DC ops listed->
  Li P TE N ops ds nm l K F->Fx P TE N ops ds K l.length listed F
 | [],listed,F,_,hs,E,_,_,c=>by
  refine⟨?_,c⟩;apply List.eq_nil_iff_forall_not_mem.2;intro j R;obtain⟨S,o,ho,-⟩:=mem_ready.1 R;have G:=(W3.1 ho).1;rw[E j G]at S;cases S
 | k::l,listed,F,A,hs,E,a,H,c=>by
  simp only[EI,I0]at A;obtain⟨⟨⟨⟨q1,q2⟩,q3⟩,Z⟩,q5⟩:=A;have hk:k.1<ops.size:=by simp_all
  have r:ops[k.1]? = some ops[k.1]:=ψ
  have hrf:∀i,i<ops.size->listed.getD i true=true->listed.getD i false=true:=ψ
  have hready:k.1∈Region.ready .any ops listed:=mem_ready.2 ⟨by grind [pY,Nat.beq_refl],_,r,λe he hb=>by
    have G:=b.back k.1 _ r e he hb
    grind [bz,pY]⟩
  have B:∀j,j<ops.size->(listed.setIfInBounds k.1 true).getD j true = !yv l j:=λj R=>by
   by_cases w:j=k.1
   ·simp_all
   rw[getD_set_ne true (Ne.symm w),E j R,pY,show Nat.beq k.1 j=false by rw[<-U5,Nat.beq_eq];exact Ne.symm w];rfl
  show Fx P TE N ops ds K (l.length+1) listed F;simp only[Li]at c;rw[bz r]at c Z;have U:listed.getD k.1 true=false:=(mem_ready.1 hready).1;cases f:qq ds ops[k.1] with
  | true=>
   rw[f]at c;simp only[cond_true]at c;obtain⟨mv,d,av,hy,c,hnm⟩:=KR c (λd hd=>a.dst k.1 _ d f r U hd) (λT s g1 g2 g3=>a.mv k.1 _ T s f r U g1 g2 g3);have C:∀e∈ops[k.1].after,Region.binds .any e=true->listed.getD e.on false=true:=by grind [Go.mem_ready]
   refine GL b r f l.length listed F mv av hready a H hy hnm (D3 b l _ _ q5 (by simpa using hs) B (a.put (λO Q V g D n hl'' J=>?_) (λO Q T s g D n hl'' g1 g2 g3=>?_)) (H.put hready) c)
   ·cases hu:av.uses V with
    | false=>rfl
    | true=>
     rcases hy.from_ V hu with h|⟨t,_,h⟩
     ·have:=b.look O k.1 Q _ V g D n r J h
      grind [cr]
     rw[a.dst O Q V g n hl'' J t]at h;cases h
   cases hu:av.uses s with
   | false=>rfl
   | true=>
    rcases hy.from_ s hu with h|⟨t,_,h⟩
    ·grind [gh,cZ]
    rw[a.mv O Q T s g n hl'' g1 g2 g3 t]at h;cases h
  | false=>
   rw[f]at c Z;simp only[cond_false]at c;simp only[Bool.false_or,I0]at Z;obtain⟨⟨r1,r2⟩,r3⟩:=Z;refine⟨ψ,λj R=>?_⟩;obtain⟨hjun,oj,y,C⟩:=mem_ready.1 R;have hjlt:=(W3.1 y).1;have w:j=k.1:=by grind [um,pv]
   subst w;rw[r]at y;simp only[Z0]at y;subst y;unfold vm;rw[r];simp only[f,C9 (show ¬false=true by decide)];have post:∀u,MF P TE ops k.2 (Li P TE N ops ds nm l K u) u->mh ops ds u (listed.setIfInBounds k.1 true)->(∀p,listed.getD p false=true->qq ds (dr ops p)=true->vV ops k.1 p=false->R8 P TE ops p u)/\Fx P TE N ops ds K l.length (listed.setIfInBounds k.1 true) u:=λu L W=>by
    obtain⟨X,hrd⟩:=Af L;refine⟨λp hp1 hp2 hp3=>hrd p ?_,D3 b l _ _ q5 (by simpa using hs) B W (H.put hready) X⟩;have hpl:p<ops.size:=ψ
    grind [gG,pY,I2]
   cases hlater:l.any (λj=>qq ds (dr ops j.1)) with
   | false=>
    refine jQ c λu L=>post u L ⟨λO Q V g n hl'' J=>?_,λO Q T s g n hl''=>?_⟩
    all_goals grind [um,bz]
   | true=>
    rw[hlater]at r3;simp only[Bool.not_true,Bool.false_or,I0]at r3;obtain⟨x,hx1,q⟩:=t4.1 hlater;have Y:listed.getD x.1 true=false/\x.1<ops.size:=by
     have G:x.1<ops.size:=by
      rcases Nat.lt_or_ge x.1 ops.size with h|h
      ·exact h
      rw[show dr ops x.1=default by simp[dr,W6,Array.getElem?_eq_none h]]at q;cases q
     grind [um]
    have M:ops[x.1]? = some ops[x.1]:=ψ
    rw[bz M]at q;obtain⟨d,hd,hdd⟩:=JA q;have hxk:x.1≠k.1:=ψ
    refine jQ (Qj (d:=d) (xJ r3.1) r3.2 (λe=>?_) (λhlk=>?_) (a.dst x.1 _ d q M Y.1 hd) c) λu S=>post u S.1 (a.us b r C S.2)
    ·grind [qq]
    have:=b.look x.1 k.1 _ _ d q hxk M r hd hlk
    grind [cr]
theorem BL{sch:List (Nat × List Nat)}(h:B2 ops ds sch=true):QP ops ds (TD sch)/\EI ops ds sch=true/\sch.length=ops.size/\∀j,j<ops.size->yv sch j=true:=by
 unfold B2 at h;simp only[I0]at h;obtain⟨⟨p,k⟩,l⟩:=h;have C:=λj (o:j<ops.size)=>gG p o
 have r:∀(i j:Nat)(c b:Oper),i≠j->ops[i]? = some c->ops[j]? = some b->A6 ops ds (TD sch) i j=true:=λi j c b a f g=>by grind [gG,Nat.beq_eq]
 refine⟨⟨λj b o e t u=>?_,λi j c b n q a f g=>?_,λi j c b d n a f g w D=>?_,λi j c b d n q a f g w t=>?_,λi j c b n q a f g=>?_,λj b T s n o y A=>?_⟩,l,I2 k,λj o=>?_⟩
 ·grind [bz,Nat.blt_eq]
 ·grind [bz,A6]
 ·have:=r i j c b a f g
  unfold A6 at this;rw[bz f,bz g,n]at this;have B:tE ops i j=true:=by grind [bz,Nat.beq_refl,tE]
  grind
 ·grind [bz,Nat.beq_refl,A6]
 all_goals grind [bz,A6]
theorem uI{l:List Nat} : DQ l j=true↔j∈l:=by grind [I2,Nat.beq_refl,DQ]
def Ex{p:Nat->Prop} : ∀{l:List Nat}{i:Nat},TX p i l->∀j,j∈i::l->p j
 | [],i,h,j,a=>by rw[O1.1 a];exact h
 | k::l,i,h,j,a=>by
  rcases List.mem_cons.1 a with rfl|a
  ·exact h.1
  exact Ex h.2 j a
theorem FL{l:List Nat}{K:Prop}{p:Nat->Prop}(h:TM l K p):(l=[]->K)/\∀j∈l,p j:=by
 cases l with
 | nil=>exact⟨λ_=>h,ψ⟩
 | cons i l=>exact⟨ψ,Ex h⟩
theorem ri{done:List Nat}(h:listed.size=ops.size)(b:∀j,j<ops.size->listed.getD j true=DQ done j)(l:∀k∈done,k<ops.size) : j∈Region.ready .any ops listed↔j∈Np ops done:=by
 have c:∀i,listed.getD i false=DQ done i:=λi=>by grind [uI]
 rw[mem_ready];unfold Np;rw[U4,List.mem_range,I0];constructor
 ·grind [bz]
 rintro⟨a,n,d⟩
 refine⟨ψ,ops[j],U6 a,λe f g=>?_⟩;have:=v4.1 d e (by rw[bz (U6 a)];simpa using f)
 grind
theorem QZ{K:(Nat->AV)->Prop} : ∀(n:Nat)(done:List Nat)(listed:Array Bool)(F:Nat->AV),listed.size=ops.size->(∀j,j<ops.size->listed.getD j true=DQ done j)->(∀k∈done,k<ops.size)->R9 P TE N ops K n done F->Fx P TE N ops [] K n listed F
 | 0,done,listed,F,c,a,f,h=>by
  obtain⟨g,l⟩:=FL h;have o:Np ops done=[]:=List.eq_nil_iff_forall_not_mem.2 λj b=>l j b
  exact⟨List.eq_nil_iff_forall_not_mem.2 λj b=>(by grind [ri]),g o⟩
 | n+1,done,listed,F,c,a,f,h=>by
  obtain⟨g,l⟩:=FL h;refine⟨λo=>g (List.eq_nil_iff_forall_not_mem.2 λj b=>(by rw[<-ri c a f,o]at b;cases b)),λi t=>?_⟩;have d:=(ri c a f).1 t;have q:=l i d;have u:i<ops.size:=List.mem_range.1 (U4.1 d).1;have r:ops[i]? = some ops[i]:=ψ
  unfold vm;rw[r];simp only;rw[bz r]at q;have w:qq [] ops[i]=false:=by grind [qq]
  rw[C9 (by rw[w];decide)];refine jQ q λy A=>⟨λp _ B=>?_,QZ n (i::done) _ y (by simpa using c) (λj b=>?_) (λk C=>?_) A⟩
  ·grind [qq]
  ·by_cases e:j=i
   ·subst e
    rw[show DQ (j::done) j=true from uI.2 ψ];simp[c,b]
   rw[getD_set_ne true (Ne.symm e),a j b]
   grind [uI]
  grind
theorem xP(g:∀t i,TE t=some i->gV P t i)(y:P.follows .mixedOrders=true){id:Nat}{tb:List (Nat × Nat × List Nat)}(b:nN tb id ops=true)(c:DD P TE N tb id ops K F)(A:St w0 M S0 N F a w)(B:∀F' C D,K F'->St w0 M S0 N F' C D->Q .normal C D):(Code.region id ops true).wp P Q a w:=by
 unfold nN at b;unfold DD at c;cases q:yi tb id with
 | none=>grind
 | some p=>
  obtain⟨m,L⟩:=p;rw[q]at b c;simp only at b c;cases k:Nat.ble 65536 m with
  | true=>
   rw[k]at c;refine wp_region_any y ?_;have f:St w0 M S0 N F a {w with drawn:=w.drawn+1}:=by
    obtain⟨S,φ,h⟩:=A;exact⟨S,φ,h.more (w1:={w with drawn:=w.drawn+1}) (λ_ _ h=>h) ψ ⟨rfl,rfl,rfl,I3 _,λ_ _ _=>rfl,λ_ _ _ _=>rfl,λ_ _ _ _=>rfl⟩⟩
   refine rn g (ds:=[]) B ops.size (Array.replicate ops.size false) _ a _ ?_ f;exact QZ ops.size [] _ F (by simp) (λj n=>by simp[n,DQ]) ψ c
  | false=>
  rw[k]at b c;simp only[cond_false]at b c;cases r:Nat.ble 256 m with
  | false=>
   grind [Dt]
  | true=>
   rw[r]at b c;simp only[cond_true,J8]at b c;generalize L.take (m - 256)=ds at b c;generalize dec (L.drop (m - 256))=sch at b c;obtain⟨E,l,e,G⟩:=BL b;refine wp_region_any y ?_;have f:St w0 M S0 N (Ab.clr ds F) a {w with drawn:=w.drawn+1}:=by
    have O:=A.clr ds;obtain⟨S,φ,h⟩:=O;exact⟨S,φ,h.more (w1:={w with drawn:=w.drawn+1}) (λ_ _ h=>h) ψ ⟨rfl,rfl,rfl,I3 _,λ_ _ _=>rfl,λ_ _ _ _=>rfl,λ_ _ _ _=>rfl⟩⟩
   refine rn g (ds:=ds) B ops.size (Array.replicate ops.size false) _ a _ ?_ f;have u:∀d,ds.any (Nat.beq d)=true->∀t,(Ab.clr ds F t).uses d=false:=λd R t=>by
    rw[Db];cases X:ds.any (λd=>(F t).uses d) with
    | true=>rfl
    | false=>
     simp_all
   rw[<-e];refine D3 E sch _ _ l (by simp[e]) (λj n=>by simp_all) ⟨λj o d H J _ R t=>?_,λj o T s H J _ _ U V t=>u s (E.mvs j o T s H J U V) t⟩ (λj Y n Z=>by
     have W:=(W3.1 n).1
     simp_all) c
   grind [JA]
end
def kr:List (Option Nat)->Kd
 | [ag]=>lL ag
 | a=>.tup a
def ru:ResultVar->Nat
 | .tmp t=>t
 | .cell t _=>t
def Fo(tmps:Array Value):ResultVar->Sem Value
 | .tmp t=>pure (tmps.getD t undef)
 | .cell a t=>do loadVar t (<-asAddr (tmps.getD a undef))
def resOne(TE:Nat->Option TI)(F:Nat->AV)(r:ResultVar)(K:Option Nat->List C->Prop):Prop:=
 match r with
 | .tmp t=>(match F t with
   | .H .one cs=>K none cs
   | .H .agg cs=>K (some cs.length) cs
   | _=>False)
 | .cell t T=>match TE T with
  | some i=>bif i.agg || Nat.beq i.size 1 then(match F t with
    | .H .box cs=>bif Nat.beq cs.length i.size then K (qr i) cs else False
    | _=>False) else False
  | none=>False
def resA(TE:Nat->Option TI)(F:Nat->AV):List ResultVar->List Nat->(List (Option Nat)->List C->Prop)->Prop
 | [],_,K=>K [] []
 | r::rs,seen,K=>bif seen.any (Nat.beq (ru r)) then False else resOne TE F r λb c=>resA TE F rs (ru r::seen) λd a=>K (b::d) (c++a)
def TT:RA->AV
 | .val a cs=>.H (lL a) cs
 | .ptr cs=>.iref cs 0
 | .fn Ok=>.fv Ok
def vT:Nat->List RA->List (Nat × AV)
 | _,[]=>[]
 | i,A::As=>(i,TT A)::vT (i+1) As
inductive LJ:C->C->Prop
 |rfl_ (c:C):LJ c c
 |z_:LJ .z (.s .own [])
 |own_ (rows rows':List (List C)) (hl:rows.length=rows'.length) (hk:∀(i:Nat)(r r':List C),rows[i]? = some r->rows'[i]? = some r'->r.length=r'.length)
   (hr:∀(i j:Nat)(r r':List C)(c c':C),rows[i]? = some r->rows'[i]? = some r'->r[j]? = some c->r'[j]? = some c'->LJ c c'):LJ (.s .own rows) (.s .own rows')
def Mj(cs a:List C):Prop:=cs.length=a.length/\∀(j:Nat)(c b:C),cs[j]? = some c->a[j]? = some b->LJ c b
def Mj.nil:Mj [] []:=⟨rfl,λj c a h=>by simp at h⟩
variable{cs a:List C}
theorem Mj.cons{c b:C}(h:LJ c b)(d:Mj cs a):Mj (c::cs) (b::a):=by
 refine⟨by simp[d.1],λj y e f g=>?_⟩;cases j with
 | zero=>grind
 | succ j=>exact d.2 j y e (by simpa using f) (by simpa using g)
def LJ.rep{r k:List C}(h:Mj r k):LJ (.s .own (List.replicate n r)) (.s .own (List.replicate n k)):=by
 refine .own_ _ _ (by simp) (λi a b d e=>?_) (λi j a b c p d e l o=>?_)
 ·have f:=List.mem_replicate.1 (C2 d)
  have g:=List.mem_replicate.1 (C2 e);rw[f.2,g.2];exact h.1
 have f:=List.mem_replicate.1 (C2 d);have g:=List.mem_replicate.1 (C2 e);rw[f.2]at l;rw[g.2]at o;exact h.2 j c p l o
theorem Qg{w:World}{S Y:ah}{c:C}{v:Value}(h:dG w S Y c v):∀t,LJ c t->dG w S Y t v:=by
 induction h with
 | z F a=>
  intro t j;cases j with
  | rfl_=>exact .z _ _
  | z_=>exact .nil _ _ _ trivial
 | nil F o a K=>
  intro t j;cases j with
  | rfl_=>exact .nil _ _ _ K
  | own_ d e E=>obtain rfl:e=[]:=S7 (by simpa using E.symm);exact .nil _ _ _ trivial
 | own F o g k n y d u f K J L p A D R T j G X=>
  intro t M;cases M with
  | rfl_=>exact .own _ o g k n y d u f K J L p A D R T j G
  | own_ d e E Z U=>
   have V:∀(i:Nat)(W:List C),e[i]? = some W->∃r,d[i]? = some r:=ψ
   refine .own _ .own g k n y e u f trivial (E.symm.trans J) (λW hr'=>?_) p A D R T j ψ
   all_goals grind [List.mem_iff_getElem?]
 | v F x N=>intro t j;cases j;exact .v _ _ N
 | x F u N=>intro t j;cases j;exact .x _ _ N
 | V F g O k n y d u J L p hS G X=>intro t j;cases j;exact .V _ g O k n y d u J L p hS G
 | m F b l es q D P he Q B=>intro t j;cases j;exact .m _ b l es q D P he Q B
 | it F r b since c0 l seen q cur left D U P B G Q E H=>intro t j;cases j;exact .it _ r b since c0 l seen q cur left D U P B G Q E H
def WK(cs a:List C):Prop:=M4 cs a\/Mj cs a
inductive jX(k k':Kd)(cs cs':List C):Prop
 |mk_ (h:k=k'/\WK cs cs')
def mW:∀(cs:List C),M4 cs cs
 | []=>trivial
 | c::cs=>by
  refine⟨?_,mW cs⟩;cases c with
  | s o a=>cases o<;>rfl
  | x=>trivial
  | _=>rfl
variable{k:Kd}
def jX.mk{b:Kd}(h1:k=b)(c:cs=a):jX k b cs a:=by refine .mk_ ?_;exact⟨h1,.inl (c ▸ mW cs)⟩
def jX.wk{b:Kd}(h1:k=b)(c:M4 cs a):jX k b cs a:=.mk_ ⟨h1,.inl c⟩
def jX.dk{b:Kd}(h1:k=b)(c:Mj cs a):jX k b cs a:=.mk_ ⟨h1,.inr c⟩
def jX.out{b:Kd}(h:jX k b cs a):k=b/\WK cs a:=by obtain⟨h⟩:=h;exact h
theorem WK.len(h:WK cs a):cs.length=a.length:=h.elim (λh=>(tz h).1) (λh=>h.1)
theorem WK.row{w:World}{S Y:ah}{c:List C}{u:Nat->Value}(a:WK cs c)(h:cL w S Y cs u):cL w S Y c u:=by
 rcases a with a|a
 ·exact BK a h
 obtain⟨f,k,l,n⟩:=h;refine⟨f,λj i b=>?_,λj b=>l j (by rw[a.1];exact b),λj o b e=>n j o (by rw[a.1];exact b) (by rw[a.1];exact e)⟩;have g:=(U2.1 b).1;have d:cs[j]? = some (cs[j]'(by rw[a.1];exact g)):=ψ
 exact Qg (k j _ d) i (a.2 j _ i d b)
def Qw(TE:Nat->Option TI)(c:List ResultVar)(k:Kd)(rcs:List C):Exit->(Nat->AV)->Prop:=λe F=>
 match e with
 | .normal=>resA TE F c [] λa b=>jX (kr a) k b rcs
 | .ret=>resA TE F c [] λa b=>jX (kr a) k b rcs
 | _=>False
def QD(F:Nat->AV)(t:Nat)(rcs:List C):Prop:=
 match F t with
 | .H .box cs=>jX .box .box cs rcs
 | .ref a 0 []=>(match F a with
   | .H .box cs=>jX .box .box cs rcs
   | _=>False)
 | _=>False
def Tm(t:Nat)(rcs:List C):Exit->(Nat->AV)->Prop:=λe F=>
 match e with
 | .normal=>QD F t rcs
 | .ret=>QD F t rcs
 | _=>False
section
variable{P:Program}{w0 w w1:World}{M S0 S:ah}{N:eZ}{φ:Nat->ah}{F:Nat->AV}{a:Act}{TE:Nat->Option TI}
theorem bg.resOne(h:bg w0 M S0 N S φ F a w)(n:∀t i,TE t=some i->gV P t i){r:ResultVar}{K:Option Nat->List C->Prop}(b:resOne TE F r K) :
  ∃ag cs v,K ag cs/\b9 w S (φ (ru r)) ag cs v/\(Fo a.tmps r).run P w=.ok v w:=by
 cases r with
 | tmp t=>
  have e:=h.slot t;simp only[Ab.resOne]at b;cases p:F t with
  | H k cs=>
   rw[p]at b e;obtain⟨E,Y,G,j,H,A,l⟩:=e;cases k with
   | one=>exact⟨none,cs,tvs a t,b,⟨A,_,rfl,l.mono (λ_ _ h=>h) j⟩,rfl⟩
   | agg=>
    obtain⟨arr,q,u⟩:=A;refine⟨some cs.length,cs,tvs a t,b,⟨rfl,cj w .agg (tvs a t),?_,l.mono (λ_ _ h=>h) j⟩,rfl⟩;rw[q];have:=pL arr;rw[u]at this;exact this
   | _=>exact b.elim
  | _=>grind
 | cell t T=>
  have e:=h.slot t;simp only[Ab.resOne]at b;split at b
  case h_2=>exact b.elim
  rename_i i J;have L:=n _ _ J;cases B:(i.agg || Nat.beq i.size 1) with
  | false=>grind
  | true=>
   rw[B]at b;simp only[cond_true]at b;cases p:F t with
   | H k cs=>
    rw[p]at b e;cases k with
    | box=>
     simp only at b;cases D:Nat.beq cs.length i.size with
     | false=>grind
     | true=>
      rw[D]at b;have O:=I2 D;obtain⟨E,Y,G,j,H,⟨g,o,q,Q⟩,l⟩:=e;have c:∀d,d<i.size->cel w g (o+d)=some (cj w .box (tvs a t) d):=λd R=>by grind [cj]
      have f:=y5 (w:=w) L B c;refine⟨_,cs,_,b,⟨by grind [p9],_,rfl,l.mono (λ_ _ h=>h) j⟩,?_⟩;have y:a.tmps.getD t undef=.pointer (some ⟨g,o,none⟩):=q;simp only[Fo,y,asAddr];exact f
    | _=>exact b.elim
   | _=>grind
def GO{ag:Option Nat}{cs:List C}{v:Value}{Y:ah}(h:b9 w S Y ag cs v):∃u,v.cells.toList=(List.range cs.length).map u/\cL w S Y cs u/\v=mkv ag u:=by
 obtain⟨a,u,rfl,b⟩:=h;refine⟨u,?_,b,rfl⟩;rw[pV (λe=>by subst e;exact b.one (by simp at a;omega)),a]
theorem Hz{d e:ah}{cs a:List C}{u g:Nat->Value}(h:cL w S d cs u)(h':cL w S e a g)(p:∀b o,d b o->¬e b o) :
  cL w S (λb o=>d b o\/e b o) (cs++a) (λj=>if j<cs.length then u j else g (j - cs.length)):=by
 obtain⟨f,q,r,t⟩:=h;obtain⟨i,k,l,n⟩:=h';refine⟨λj=>if j<cs.length then f j else i (j - cs.length),λj c y=>?_,ψ,ψ⟩
 all_goals grind
theorem bg.resA(h:bg w0 M S0 N S φ F a w)(e:∀t i,TE t=some i->gV P t i):∀{p:List ResultVar}{seen:List Nat}{K:List (Option Nat)->List C->Prop},resA TE F p seen K->
  ∃sh cs vs u,K sh cs/\(p.mapM (Fo a.tmps)).run P w=.ok vs w/\x5 sh vs/\sh.length=p.length/\yl sh=cs.length/\
   (vs.flatMap λv=>v.cells.toList)=(List.range cs.length).map u/\(∀ag,sh=[ag]->∃v,vs=[v]/\b9 w S (λb o=>∃t,t∉seen/\φ t b o) ag cs v)/\cL w S (λb o=>∃t,t∉seen/\φ t b o) cs u
 | [],seen,K,c=>⟨[],[],[],λ_=>undef,c,rfl,trivial,rfl,rfl,rfl,ψ,cL.nil _ _ _ _⟩
 | r::p,seen,K,c=>by
  simp only[Ab.resA]at c;cases d:seen.any (Nat.beq (ru r)) with
  | true=>grind
  | false=>
   rw[d]at c;simp only[cond_false]at c;have L:ru r∉seen:=λY=>by grind [Nat.beq_refl]
   obtain⟨ag,cs,v,c,q,G⟩:=h.resOne e c;obtain⟨sh,f,vs,O,Q,y,A,B,R,hcells,-,g⟩:=bg.resA h e c;obtain⟨u,D,H,k⟩:=GO q;have T:∀b o,φ (ru r) b o->¬∃t,t∉ru r::seen/\φ t b o:=λb o U ⟨t,Z,E⟩=>h.dis _ _ ψ b o U E
   refine⟨ag::sh,cs++f,v::vs,λj=>if j<cs.length then u j else O (j - cs.length),Q,?_,?_,by simp[B],?_,?_,?_,?_⟩
   ·simp_all
   ·obtain⟨V,-⟩:=q
    cases ag with
    | none=>
     refine⟨?_,A⟩;rw[k];have J:(u 0).oneCell'=true:=H.one (by simp at V;omega);show(u 0).cells = #[u 0];cases W:u 0<;>first|(rw[W]at J;cases J;done)|rfl
    | some n=>exact⟨⟨_,by rw[k];rfl,by simp⟩,A⟩
   ·rw[ry,U3,R,q.1]
   ·simp only[X6,D,hcells,U3]
    apply List.ext_getElem?
    grind
   ·intro X l
    simp only[List.cons.injEq]at l;obtain⟨rfl,rfl⟩:=l;cases vs with
    | cons _ _=>exact A.elim
    | nil=>
     have:f=[]:=S7 (by simp_all);subst this;exact⟨v,rfl,by rw[List.append_nil];exact q.mono (λ_ _ h=>h) ψ⟩
   exact(Hz H g T).mono (λ_ _ h=>h) ψ
theorem tJ:∀{A:List RA}{vs:List Value}(i:Nat),yK w S A vs->∀t,(lay (vT i A) t=.dead)\/(∃a v,i<=t/\vs[t - i]? = some v/\lay (vT i A) t=TT a/\nO w S a v)
 | [],_,i,_,t=>.inl rfl
 | a::A,[],i,h,t=>h.elim
 | a::A,v::vs,i,h,t=>by
  simp only[vT,lay];cases b:Nat.beq t i with
  | true=>
   have:=I2 b;subst this;exact .inr ⟨a,v,I3 _,by simp,rfl,h.1⟩
  | false=>
   have c:t≠i:=λe=>by simp_all
   rcases tJ (i+1) h.2 t with d|⟨f,g,d,j,k⟩
   all_goals grind
theorem nO.slot{A:RA}{v:Value}(h:nO w S A v){tv:Nat->Value} : cK w S F tv NO (TT A) v:=by
 cases A with
 | val f a=>exact b9.slot h
 | ptr a=>obtain⟨g,b,u,c,d,e⟩:=h;exact⟨g,b,u,by rw[c,Nat.add_zero],d,e⟩
 | fn Ok=>exact h
def Dm:∀{A:List RA}{vs:List Value},yK w S A vs->A.length=vs.length
 | [],[],_=>rfl
 | _::_,_::_,h=>by simp[Dm h.2]
 | [],_::_,h=>h.elim
 | _::_,[],h=>h.elim
variable{ck:Nat->Array Oper->Bool}{rcs: List C}{D: Nat -> Array Oper -> ((Nat -> AV) -> Prop) -> (Nat -> AV) -> Prop}
theorem Kl{f : Nat}{d : Func}{c : Code}{sh : Bool}{A : List RA}{k : Kd}(K : ∀t i, TE t = some i -> gV P t i)(hf : P.funcs[f]? = some d)(hn : (d.name == "runtime.NumGoroutine") = false)(p:d.body=some c)(hD:xl P N ck D)(hc:gj ck c=true)(hN:A.length+(d.ntmps - A.length)=N.n)(hkp:N.kp=[])(U:sh=true\/hC rcs)(hp:aw P TE N D c (Qw TE d.results.toList k rcs) (lay (vT 0 A))):ay P f sh A k rcs:=by
 refine⟨⟨d,hf,hn,by rw[p];rfl⟩,λw S r hS hA=>?_⟩;have hlen:=Dm hA;refine calls_of_wp hf p ?_;have V:St w NO S N (lay (vT 0 A)) {tmps:=r.toArray++Array.replicate (d.ntmps - r.toArray.size) undef,defers:=[]} w:=by
  refine⟨S,λ_=>NO,λt=>?_,λ_ _ _ _ _ h=>h.elim,λ_ _ _ h=>h.elim,λ_ _ _ h=>h.elim,λ_ _ h=>h,ψ,Ca _ _,by simp;omega,rfl,ψ⟩;rcases tJ 0 hA t with y|⟨A0,v,-,B,G,h4⟩
  ·rw[y];trivial
  rw[G];have hv:tvs {tmps:=r.toArray++Array.replicate (d.ntmps - r.toArray.size) undef,defers:=[]} t=v:=by
   have hlt:=(U2.1 B).1;simp only[tvs,W6]
   grind
  grind [nO.slot]
 refine iN K hD c hc _ _ _ _ w hp V λe F' J g W Z=>?_
 obtain⟨S',φ',h⟩:=Z;have fin:resA TE F' d.results.toList [] (λsh L=>jX (kr sh) k L rcs)->J.defers=[]/\∃v,(results d J.tmps).run P g=.ok v g/\(∃v',Ending.returned v=.returned v'/\bx NO w g/\∃X S1:ah,(∀b o,X b o->b<g.heap.size/\w.heap.size<=b)/\
     (∀b o,S1 b o->(sh=true/\S b o)\/(b<g.heap.size/\w.heap.size<=b))/\(∀b o,X b o->¬S1 b o)/\fD g NO k rcs.length v'/\cL g S1 X rcs (cj g k v')):=by
  intro hr;obtain⟨shs,L,a,u,M,hrun,q,hln,R,hcells,l,O⟩:=h.resA K hr;obtain⟨rfl,hwk⟩:=M.out;refine⟨h.defers,?_⟩;have H:(results d J.tmps).run P g=.ok (if h:a.toArray.size=1 then a.toArray[0] else .tuple a.toArray) g:=by
   have e:results d J.tmps=(do let r <-d.results.mapM (Fo J.tmps);pure (if h:r.size=1 then r[0] else .tuple r)):=by
    unfold results
    congr 1
   rw[e,<-Array.toArray_toList (xs:=d.results),List.mapM_toArray]
   simp_all
  refine⟨_,H,_,rfl,h.old,λb o=>∃t,φ' t b o,λb o=>(sh=true/\S' b o)\/(S' b o/\w.heap.size<=b),λb o ⟨t,p⟩=>⟨(h.ex t b o p).1,(h.ex t b o p).2.resolve_right (λh=>h)⟩,λb o p=>?_,λb o ⟨t,p⟩ hb'=>h.disS t b o p ψ,?_⟩
  ·rcases p with⟨y,B⟩|⟨y,B⟩
   ·rcases(h.sup b o B).2 with G|G|G
    ·grind
    ·exact .inr ⟨(h.sup b o B).1,G⟩
    exact G.elim
   exact .inr ⟨(h.sup b o y).1,B⟩
  have Q:fD g NO (kr shs) L.length (if h:a.toArray.size=1 then a.toArray[0] else .tuple a.toArray)/\cL g S' (λb o=>∃t,φ' t b o) L (cj g (kr shs) (if h:a.toArray.size=1 then a.toArray[0] else .tuple a.toArray)):=by
   have E:∀b o,(∃t,t∉([]:List Nat)/\φ' t b o)->∃t,φ' t b o:=ψ
   match shs,q,l,R with
   | [],q,_,R=>
    cases a with
    | cons _ _=>exact q.elim
    | nil=>
     have:L=[]:=ψ
     subst this;exact⟨⟨_,rfl,trivial,rfl⟩,cL.nil _ _ _ _⟩
   | [T],_,l,_=>
    obtain⟨v,rfl,hv⟩:=l T rfl;have:=(hv.mono (λ_ _ h=>h) E).slot (F:=F') (tv:=tvs J);obtain⟨X1,Y,y,B,G,h4,h5⟩:=this;refine⟨?_,h5.mono (λ_ _ h=>h) B⟩;cases T<;>exact h4
   | T::ag2::sh,q,_,R=>
    have hsz:¬a.toArray.size=1:=by
     match a,q with
     | [],q=>simp
     | [v],q=>cases T<;>cases ag2<;>exact q.2.elim
     | _::_::_,_=>simp
    rw[dif_neg hsz];refine⟨⟨_,rfl,q,R⟩,(O.mono (λ_ _ h=>h) E).congr λj hj=>?_⟩;simp only[cj,kr,mO,hcells];simp[List.getD,hj]
  replace Q:=CL Q.1 (hwk.row Q.2);refine⟨by grind [WK.len],?_⟩;rcases U with y|y
  ·exact Q.2.mono ψ (λ_ _ h=>h)
  exact(Q.2.fresh y).mono (λ_ _ h=>h.elim) (λ_ _ h=>h)
 cases e with
 | normal=>exact fin W
 | ret=>exact fin W
 | _=>exact W.elim
theorem KB{f t : Nat}{j : Func}{c : Code}{A : List RA}(K : ∀t i, TE t = some i -> gV P t i)(hf : P.funcs[f]? = some j)(hn : (j.name == "runtime.NumGoroutine") = false)(a:j.body=some c)(hD:xl P N ck D)(hc:gj ck c=true)(hN:A.length+(j.ntmps - A.length)=N.n)(hkp:N.kp=[])(hr:j.results = #[.tmp t])(hp:aw P TE N D c (Tm t rcs) (lay (vT 0 A))):re P f true A .box rcs:=by
 refine⟨⟨j,hf,hn,by rw[a];rfl⟩,λw S F hS hA=>?_⟩;have hlen:=Dm hA;refine calls_of_wp hf a ?_;have L:St w NO S N (lay (vT 0 A)) {tmps:=F.toArray++Array.replicate (j.ntmps - F.toArray.size) undef,defers:=[]} w:=by
  refine⟨S,λ_=>NO,λt=>?_,λ_ _ _ _ _ h=>h.elim,λ_ _ _ h=>h.elim,λ_ _ _ h=>h.elim,λ_ _ h=>h,ψ,Ca _ _,by simp;omega,rfl,ψ⟩;rcases tJ 0 hA t with G|⟨A0,v,-,H,J,h4⟩
  ·rw[G];trivial
  rw[J];have hv:tvs {tmps:=F.toArray++Array.replicate (j.ntmps - F.toArray.size) undef,defers:=[]} t=v:=by
   have hlt:=(U2.1 H).1;simp only[tvs,W6]
   grind
  grind [nO.slot]
 refine iN K hD c hc _ _ _ _ w hp L λe F' q k M O=>?_
 obtain⟨S',φ',h⟩:=O;have fin:QD F' t rcs->q.defers=[]/\∃v,(results j q.tmps).run P k=.ok v k/\(∃Q,Ending.returned v=.returned Q/\bx NO w k/\∃X R:ah,(∀b o,X b o->b<k.heap.size/\w.heap.size<=b)/\
     (∀b o,R b o->(true=true/\S b o)\/(b<k.heap.size/\w.heap.size<=b))/\(∀b o,X b o->¬R b o)/\∃r Y:ah,(∀b o,r b o->X b o)/\(∀b o,Y b o->X b o)/\(∀b o,r b o->¬Y b o)/\fD k r .box rcs.length Q/\cL k R Y rcs (cj k .box Q)):=by
  intro l;have core:∃(d:Nat)(u:List C),tvs q t=tvs q d/\F' d=.H .box u/\jX .box .box u rcs:=by
   unfold QD at l;split at l
   ·grind
   ·rename_i d T
    split at l
    case h_2=>exact l.elim
    rename_i u y;refine⟨d,u,?_,y,l⟩;have B:=h.slot t;rw[T]at B;obtain⟨k0,cs0,r0,j0,g0,o0,U,-,e3,e4⟩:=B;have E:=h.slot d;rw[y]at E;rw[y]at U;simp only[AV.H.injEq]at U;obtain⟨rfl,rfl⟩:=U;obtain⟨r,Y,G,H,J,⟨g,o,hv,-⟩,h5⟩:=E
    grind [plc,oG]
   exact l.elim
  obtain⟨d,u,V,y,l⟩:=core;have W:=l.out.2;have E:=h.slot d;rw[y]at E;obtain⟨r,Y,G,H,J,h4,h5⟩:=E;refine⟨h.defers,tvs q d,?_,tvs q d,rfl,h.old,φ' d,λb o=>S' b o/\(S b o\/w.heap.size<=b),λb o a=>⟨(h.ex d b o a).1,(h.ex d b o a).2.resolve_right (λh=>h)⟩,λb o a=>?_,λb o a Z=>h.disS d b o a Z.1,r,Y,G,H,J,?_,?_⟩
  ·rw[<-V];simp[results,hr,tvs]
  ·rcases a.2 with p|p
   ·grind
   exact .inr ⟨(h.sup b o a.1).1,p⟩
  ·grind [WK.len]
  exact(W.row h5).mono (λb o a=>⟨a,by
    rcases(h.sup b o a).2 with p|p|p
    · exact .inl p
    · exact .inr p
    exact p.elim⟩) (λ_ _ h=>h)
 cases e with
 | normal=>exact fin M
 | ret=>exact fin M
 | _=>exact M.elim
end
def DF(P:Program)(TE:Nat->Option TI)(N:eZ)(tb:List (Nat × Nat × List Nat))(id:Nat)(ops:Array Oper)(K:(Nat->AV)->Prop)(F:Nat->AV):Prop:=
 match yi tb (id+1048576) with
 | some (t,offs)=>so t offs (DD P TE N tb id ops K) F
 | none=>DD P TE N tb id ops K F
variable{P:Program}
def r9{TE:Nat->Option TI}(a:∀t i,TE t=some i->gV P t i)(e:P.follows .mixedOrders=true)(N:eZ)(tb:List (Nat × Nat × List Nat)):xl P N (nN tb) (DF P TE N tb):=
 λ_ _ b _ _ _ _ _ _ _ _ c f g=>by
  unfold DF at c;split at c
  ·obtain⟨j,h,d⟩:=yz c f
   exact xP a e b h d g
  exact xP a e b c f g
def Ja:List (Nat × TI)->Nat->Option TI
 | [],_=>none
 | p::l,t=>bif Nat.beq t p.1 then some p.2 else Ja l t
def Rg(P:Program):List (Nat × TI)->Prop
 | []=>True
 | p::l=>gV P p.1 p.2/\Rg P l
def FX{P:Program} : ∀{l:List (Nat × TI)},Rg P l->∀t i,Ja l t=some i->gV P t i
 | [],_,t,i,h=>by cases h
 | p::l,b,t,i,h=>by
  simp only[Ja]at h;cases a:Nat.beq t p.1 with
  | true=>
   rw[a]at h;simp only[cond_true,Z0]at h;have:=I2 a;subst this h;exact b.1
  | false=>rw[a]at h;exact FX b.2 t i h
def TY:TypeDesc->Prop
 | .struct _=>False
 | .array _ _=>False
 | _=>True
variable{t:Nat}
def B7{i:TI}{d:TypeDesc}(h:P.underlying t=some d)(k:i.kind=.sc d:=by rfl)(a:(P.info? t).map (λx=>(x.zero.map (·.cells.toList),x.size,x.bytes))=some (some (i.zero.map cval),i.size,i.bytes):=by kernel_rfl)(z:kq i.zero:=by repeat' first|exact trivial|refine CL rfl ?_)(n:TY d:=by trivial):gV P t i:=⟨a,z,by rw[k];refine⟨h,?_⟩;revert n;cases d<;>exact id⟩
def uy{e:Nat}{i:TI}(h:P.underlying t=some (.slice e))(k:i.kind=.sl e:=by rfl)(a:(P.info? t).map (λx=>(x.zero.map (·.cells.toList),x.size,x.bytes))=some (some (i.zero.map cval),i.size,i.bytes):=by kernel_rfl)(z:kq i.zero:=by repeat' first|exact trivial|refine CL rfl ?_):gV P t i:=⟨a,z,by rw[k];exact h⟩
def f7{i:TI}{fs}(h:P.underlying t=some (.struct fs))(k:i.kind=.st (fs.toList.map (λf=>(f.offset,f.type))):=by rfl)(a:(P.info? t).map (λx=>(x.zero.map (·.cells.toList),x.size,x.bytes))=some (some (i.zero.map cval),i.size,i.bytes):=by kernel_rfl)(z:kq i.zero:=by repeat' first|exact trivial|refine CL rfl ?_):gV P t i:=⟨a,z,by rw[k];exact⟨_,h,rfl⟩⟩
def Uc{e:Nat}{i:TI}{v:Value}(h:P.underlying t=some (.map 3 e))(d:P.underlying 3=some (.int .i64))(k:i.kind=.mp 3 e v:=by rfl)(a:(P.info? t).map (λx=>(x.zero.map (·.cells.toList),x.size,x.bytes))=some (some (i.zero.map cval),i.size,i.bytes):=by kernel_rfl)(z:kq i.zero:=by repeat' first|exact trivial|refine CL rfl ?_)(b:(P.info? e).bind (·.zero)=some v:=by kernel_rfl)(c:v.oneCell'=true:=by rfl):gV P t i:=⟨a,z,by rw[k];exact⟨h,d,b,c⟩⟩
def ti3:TI:=⟨1,8,[.v (.int .i64 0)],.sc (.int .i64)⟩
def ti4:TI:=⟨1,1,[.v (.bool false)],.sc .bool⟩
def ti2:TI:=⟨1,8,[.v (.int .i64 0)],.sc (.int .i64)⟩
def ti5:TI:=⟨1,1,[.v (.int .u8 0)],.sc (.int .u8)⟩
def ti6:TI:=⟨1,1,[.v (.int .u8 0)],.sc (.int .u8)⟩
def ti7:TI:=⟨4,24,[.v (.int .i64 0),.v (.int .i64 0),.v (.bool false),.v (.int .u8 0)],.st [(0,2),(1,3),(2,4),(3,6)]⟩
def ti8:TI:=⟨4,24,[.v (.int .i64 0),.v (.int .i64 0),.v (.bool false),.v (.int .u8 0)],.st [(0,2),(1,3),(2,4),(3,6)]⟩
def ti9:TI:=⟨1,16,[.v (.string ⟨#[]⟩)],.sc .string⟩
def ti10:TI:=⟨1,16,[.v (.string ⟨#[]⟩)],.sc .string⟩
def ti11:TI:=⟨1,16,[.v (.string ⟨#[]⟩)],.sc .string⟩
def ti12:TI:=⟨1,8,[.v (.int .u64 0)],.sc (.int .u64)⟩
def ti13:TI:=⟨2,24,[.v (.string ⟨#[]⟩),.v (.int .u64 0)],.st [(0,9),(1,12)]⟩
def ti14:TI:=⟨2,24,[.v (.string ⟨#[]⟩),.v (.int .u64 0)],.st [(0,9),(1,12)]⟩
def ti21:TI:=⟨1,4,[.v (.int .i32 0)],.sc (.int .i32)⟩
def ti22:TI:=⟨1,24,[.z],.sl 5⟩
def ti24:TI:=⟨1,24,[.z],.sl 33⟩
def ti25:TI:=⟨1,24,[.z],.sl 4⟩
def ti26:TI:=⟨2,48,[.z,.z],.st [(0,24),(1,25)]⟩
def ti27:TI:=⟨2,48,[.z,.z],.st [(0,24),(1,25)]⟩
def ti28:TI:=⟨1,24,[.z],.sl 82⟩
def ti29:TI:=⟨1,24,[.z],.st [(0,28)]⟩
def ti30:TI:=⟨1,24,[.z],.st [(0,28)]⟩
def ti31:TI:=⟨3,72,[.z,.z,.z],.st [(0,27),(2,30)]⟩
def ti32:TI:=⟨3,72,[.z,.z,.z],.st [(0,27),(2,30)]⟩
def ti33:TI:=⟨1,24,[.z],.sl 3⟩
def ti34:TI:=⟨5,104,[.z,.z,.z,.v (.int .i64 0),.z],.st [(0,32),(3,3),(4,33)]⟩
def ti35:TI:=⟨5,104,[.z,.z,.z,.v (.int .i64 0),.z],.st [(0,32),(3,3),(4,33)]⟩
def ti36:TI:=⟨1,24,[.z],.sl 180⟩
def ti37:TI:=⟨1,24,[.z],.sl 267⟩
def ti38:TI:=⟨1,24,[.z],.sl 175⟩
def ti39:TI:=⟨1,24,[.z],.sl 74⟩
def ti40:TI:=⟨1,24,[.z],.sl 158⟩
def ti41:TI:=⟨1,24,[.z],.sl 192⟩
def ti42:TI:=⟨2,48,[.z,.z],.st [(0,41),(1,24)]⟩
def ti43:TI:=⟨2,48,[.z,.z],.st [(0,41),(1,24)]⟩
def ti44:TI:=⟨1,24,[.z],.sl 190⟩
def ti45:TI:=⟨2,32,[.v (.int .i64 0),.z],.st [(0,3),(1,44)]⟩
def ti46:TI:=⟨2,32,[.v (.int .i64 0),.z],.st [(0,3),(1,44)]⟩
def ti47:TI:=⟨3,40,[.v (.int .i64 0),.v (.int .i64 0),.z],.st [(0,3),(1,3),(2,33)]⟩
def ti48:TI:=⟨3,40,[.v (.int .i64 0),.v (.int .i64 0),.z],.st [(0,3),(1,3),(2,33)]⟩
def ti49:TI:=⟨5,56,[.v (.int .i64 0),.v (.int .i64 0),.z,.v (.int .i64 0),.v (.int .i64 0)],.st [(0,48),(3,3),(4,3)]⟩
def ti50:TI:=⟨5,56,[.v (.int .i64 0),.v (.int .i64 0),.z,.v (.int .i64 0),.v (.int .i64 0)],.st [(0,48),(3,3),(4,3)]⟩
def ti51:TI:=⟨24,400,[.z,.z,.z,.v (.int .i64 0),.z,.z,.z,.z,.z,.z,.z,.z,.v (.int .i64 0),.z,.v (.int .i64 0),.v (.int .i64 0),.v (.int .i64 0),.v (.int .i64 0),.v (.bool false),.v (.int .i64 0),.v (.int .i64 0),.z,.v (.int .i64 0),.v (.int .i64 0)],.st [(0,35),(5,36),(6,37),(7,38),(8,39),(9,40),(10,43),(12,46),(14,3),(15,3),(16,3),(17,3),(18,4),(19,50)]⟩
def ti52:TI:=⟨24,400,[.z,.z,.z,.v (.int .i64 0),.z,.z,.z,.z,.z,.z,.z,.z,.v (.int .i64 0),.z,.v (.int .i64 0),.v (.int .i64 0),.v (.int .i64 0),.v (.int .i64 0),.v (.bool false),.v (.int .i64 0),.v (.int .i64 0),.z,.v (.int .i64 0),.v (.int .i64 0)],.st [(0,35),(5,36),(6,37),(7,38),(8,39),(9,40),(10,43),(12,46),(14,3),(15,3),(16,3),(17,3),(18,4),(19,50)]⟩
def ti53:TI:=⟨1,24,[.z],.sl 325⟩
def ti54:TI:=⟨2,32,[.v (.int .i64 0),.z],.st [(0,3),(1,53)]⟩
def ti55:TI:=⟨2,32,[.v (.int .i64 0),.z],.st [(0,3),(1,53)]⟩
def ti56:TI:=⟨26,432,[.z,.z,.z,.v (.int .i64 0),.z,.z,.z,.z,.z,.z,.z,.z,.v (.int .i64 0),.z,.v (.int .i64 0),.v (.int .i64 0),.v (.int .i64 0),.v (.int .i64 0),.v (.bool false),.v (.int .i64 0),.v (.int .i64 0),.z,.v (.int .i64 0),.v (.int .i64 0),.v (.int .i64 0),.z],.st [(0,52),(24,55)]⟩
def ti57:TI:=⟨26,432,[.z,.z,.z,.v (.int .i64 0),.z,.z,.z,.z,.z,.z,.z,.z,.v (.int .i64 0),.z,.v (.int .i64 0),.v (.int .i64 0),.v (.int .i64 0),.v (.int .i64 0),.v (.bool false),.v (.int .i64 0),.v (.int .i64 0),.z,.v (.int .i64 0),.v (.int .i64 0),.v (.int .i64 0),.z],.st [(0,52),(24,55)]⟩
def ti73:TI:=⟨4,32,[.v (.int .i64 0),.v (.int .i64 0),.v (.int .i64 0),.v (.int .i64 0)],.st [(0,3),(1,3),(2,3),(3,3)]⟩
def ti74:TI:=⟨4,32,[.v (.int .i64 0),.v (.int .i64 0),.v (.int .i64 0),.v (.int .i64 0)],.st [(0,3),(1,3),(2,3),(3,3)]⟩
def ti77:TI:=⟨1,24,[.z],.sl 168⟩
def ti81:TI:=⟨2,16,[.v (.int .i64 0),.v (.int .i64 0)],.st [(0,3),(1,3)]⟩
def ti82:TI:=⟨2,16,[.v (.int .i64 0),.v (.int .i64 0)],.st [(0,3),(1,3)]⟩
def ti86:TI:=⟨5,56,[.v (.int .i64 0),.v (.int .i64 0),.v (.int .i64 0),.v (.int .i64 0),.z],.st [(0,3),(1,3),(2,3),(3,3),(4,33)]⟩
def ti87:TI:=⟨5,56,[.v (.int .i64 0),.v (.int .i64 0),.v (.int .i64 0),.v (.int .i64 0),.z],.st [(0,3),(1,3),(2,3),(3,3),(4,33)]⟩
def ti88:TI:=⟨1,24,[.z],.sl 199⟩
def ti97:TI:=⟨2,48,[.z,.z],.st [(0,24),(1,25)]⟩
def ti98:TI:=⟨1,24,[.z],.sl 515⟩
def ti99:TI:=⟨1,24,[.z],.st [(0,98)]⟩
def ti100:TI:=⟨1,24,[.z],.st [(0,98)]⟩
def ti101:TI:=⟨3,72,[.z,.z,.z],.st [(0,97),(2,100)]⟩
def ti102:TI:=⟨3,72,[.z,.z,.z],.st [(0,97),(2,100)]⟩
def ti103:TI:=⟨5,104,[.z,.z,.z,.v (.int .i64 0),.z],.st [(0,102),(3,3),(4,33)]⟩
def ti104:TI:=⟨5,104,[.z,.z,.z,.v (.int .i64 0),.z],.st [(0,102),(3,3),(4,33)]⟩
def ti105:TI:=⟨1,24,[.z],.sl 343⟩
def ti106:TI:=⟨1,24,[.z],.sl 345⟩
def ti107:TI:=⟨1,24,[.z],.sl 347⟩
def ti108:TI:=⟨1,24,[.z],.sl 349⟩
def ti109:TI:=⟨1,24,[.z],.sl 336⟩
def ti110:TI:=⟨1,24,[.z],.sl 436⟩
def ti111:TI:=⟨2,48,[.z,.z],.st [(0,110),(1,24)]⟩
def ti112:TI:=⟨2,48,[.z,.z],.st [(0,110),(1,24)]⟩
def ti113:TI:=⟨1,24,[.z],.sl 441⟩
def ti114:TI:=⟨2,32,[.v (.int .i64 0),.z],.st [(0,3),(1,113)]⟩
def ti115:TI:=⟨2,32,[.v (.int .i64 0),.z],.st [(0,3),(1,113)]⟩
def ti116:TI:=⟨3,40,[.v (.int .i64 0),.v (.int .i64 0),.z],.st [(0,3),(1,3),(2,33)]⟩
def ti117:TI:=⟨5,56,[.v (.int .i64 0),.v (.int .i64 0),.z,.v (.int .i64 0),.v (.int .i64 0)],.st [(0,116),(3,3),(4,3)]⟩
def ti118:TI:=⟨5,56,[.v (.int .i64 0),.v (.int .i64 0),.z,.v (.int .i64 0),.v (.int .i64 0)],.st [(0,116),(3,3),(4,3)]⟩
def ti119:TI:=⟨24,400,[.z,.z,.z,.v (.int .i64 0),.z,.z,.z,.z,.z,.z,.z,.z,.v (.int .i64 0),.z,.v (.int .i64 0),.v (.int .i64 0),.v (.int .i64 0),.v (.int .i64 0),.v (.bool false),.v (.int .i64 0),.v (.int .i64 0),.z,.v (.int .i64 0),.v (.int .i64 0)],.st [(0,104),(5,105),(6,106),(7,107),(8,108),(9,109),(10,112),(12,115),(14,3),(15,3),(16,3),(17,3),(18,4),(19,118)]⟩
def ti120:TI:=⟨24,400,[.z,.z,.z,.v (.int .i64 0),.z,.z,.z,.z,.z,.z,.z,.z,.v (.int .i64 0),.z,.v (.int .i64 0),.v (.int .i64 0),.v (.int .i64 0),.v (.int .i64 0),.v (.bool false),.v (.int .i64 0),.v (.int .i64 0),.z,.v (.int .i64 0),.v (.int .i64 0)],.st [(0,104),(5,105),(6,106),(7,107),(8,108),(9,109),(10,112),(12,115),(14,3),(15,3),(16,3),(17,3),(18,4),(19,118)]⟩
def ti126:TI:=⟨5,56,[.v (.int .i64 0),.v (.int .i64 0),.v (.int .i64 0),.v (.int .i64 0),.z],.st [(0,3),(1,3),(2,3),(3,3),(4,33)]⟩
def ti127:TI:=⟨1,24,[.z],.sl 254⟩
def ti157:TI:=⟨1,24,[.z],.st [(0,24)]⟩
def ti158:TI:=⟨1,24,[.z],.st [(0,24)]⟩
def ti167:TI:=⟨3,24,[.v (.int .i64 0),.v (.int .i64 0),.v (.int .i64 0)],.st [(0,3),(1,3),(2,3)]⟩
def ti168:TI:=⟨3,24,[.v (.int .i64 0),.v (.int .i64 0),.v (.int .i64 0)],.st [(0,3),(1,3),(2,3)]⟩
def ti174:TI:=⟨3,24,[.v (.int .i64 0),.v (.int .i64 0),.v (.int .i64 0)],.st [(0,3),(1,3),(2,3)]⟩
def ti175:TI:=⟨3,24,[.v (.int .i64 0),.v (.int .i64 0),.v (.int .i64 0)],.st [(0,3),(1,3),(2,3)]⟩
def ti179:TI:=⟨2,16,[.v (.int .i64 0),.v (.int .i64 0)],.st [(0,3),(1,3)]⟩
def ti180:TI:=⟨2,16,[.v (.int .i64 0),.v (.int .i64 0)],.st [(0,3),(1,3)]⟩
def ti185:TI:=⟨2,16,[.v (.int .i64 0),.v (.int .i64 0)],.st [(0,3),(1,3)]⟩
def ti186:TI:=⟨2,16,[.v (.int .i64 0),.v (.int .i64 0)],.st [(0,3),(1,3)]⟩
def ti189:TI:=⟨3,24,[.v (.int .i64 0),.v (.int .i64 0),.v (.int .i64 0)],.st [(0,3),(1,3),(2,3)]⟩
def ti190:TI:=⟨3,24,[.v (.int .i64 0),.v (.int .i64 0),.v (.int .i64 0)],.st [(0,3),(1,3),(2,3)]⟩
def ti192:TI:=⟨1,24,[.z],.sl 186⟩
def ti198:TI:=⟨5,40,[.v (.int .i64 0),.v (.int .i64 0),.v (.int .i64 0),.v (.int .i64 0),.v (.int .i64 0)],.st [(0,3),(1,3),(2,3),(3,3),(4,3)]⟩
def ti199:TI:=⟨5,40,[.v (.int .i64 0),.v (.int .i64 0),.v (.int .i64 0),.v (.int .i64 0),.v (.int .i64 0)],.st [(0,3),(1,3),(2,3),(3,3),(4,3)]⟩
def ti210:TI:=⟨8,64,[.v (.int .i64 0),.v (.int .i64 0),.v (.int .i64 0),.v (.int .i64 0),.v (.int .i64 0),.v (.int .i64 0),.v (.int .i64 0),.v (.int .i64 0)],.st [(0,3),(1,3),(2,3),(3,3),(4,3),(5,3),(6,3),(7,3)]⟩
def ti211:TI:=⟨8,64,[.v (.int .i64 0),.v (.int .i64 0),.v (.int .i64 0),.v (.int .i64 0),.v (.int .i64 0),.v (.int .i64 0),.v (.int .i64 0),.v (.int .i64 0)],.st [(0,3),(1,3),(2,3),(3,3),(4,3),(5,3),(6,3),(7,3)]⟩
def ti254:TI:=⟨5,40,[.v (.int .i64 0),.v (.int .i64 0),.v (.int .i64 0),.v (.int .i64 0),.v (.int .i64 0)],.st [(0,3),(1,3),(2,3),(3,3),(4,3)]⟩
def ti256:TI:=⟨3,40,[.z,.v (.int .i64 0),.v (.int .i64 0)],.st [(0,22),(1,3),(2,3)]⟩
def ti257:TI:=⟨3,40,[.z,.v (.int .i64 0),.v (.int .i64 0)],.st [(0,22),(1,3),(2,3)]⟩
def ti266:TI:=⟨3,24,[.v (.int .i64 0),.v (.int .i64 0),.v (.int .i64 0)],.st [(0,3),(1,3),(2,3)]⟩
def ti267:TI:=⟨3,24,[.v (.int .i64 0),.v (.int .i64 0),.v (.int .i64 0)],.st [(0,3),(1,3),(2,3)]⟩
def ti281:TI:=⟨1,8,[.v (.map none)],.mp 3 4 (.bool false)⟩
def ti289:TI:=⟨4,32,[.v (.int .i64 0),.v (.int .i64 0),.v (.int .i64 0),.v (.int .i64 0)],.st [(0,3),(1,3),(2,3),(3,3)]⟩
def ti290:TI:=⟨4,32,[.v (.int .i64 0),.v (.int .i64 0),.v (.int .i64 0),.v (.int .i64 0)],.st [(0,3),(1,3),(2,3),(3,3)]⟩
def ti292:TI:=⟨1,8,[.v (.map none)],.mp 3 3 (.int .i64 0)⟩
def ti304:TI:=⟨1,8,[.v (.int .u64 0)],.sc (.int .u64)⟩
def ti324:TI:=⟨2,32,[.v (.int .i64 0),.z],.st [(0,3),(1,33)]⟩
def ti325:TI:=⟨2,32,[.v (.int .i64 0),.z],.st [(0,3),(1,33)]⟩
def ti336:TI:=⟨1,24,[.z],.st [(0,24)]⟩
def ti343:TI:=⟨2,16,[.v (.int .i64 0),.v (.int .i64 0)],.st [(0,3),(1,3)]⟩
def ti345:TI:=⟨3,24,[.v (.int .i64 0),.v (.int .i64 0),.v (.int .i64 0)],.st [(0,3),(1,3),(2,3)]⟩
def ti347:TI:=⟨3,24,[.v (.int .i64 0),.v (.int .i64 0),.v (.int .i64 0)],.st [(0,3),(1,3),(2,3)]⟩
def ti349:TI:=⟨4,32,[.v (.int .i64 0),.v (.int .i64 0),.v (.int .i64 0),.v (.int .i64 0)],.st [(0,3),(1,3),(2,3),(3,3)]⟩
def ti398:TI:=⟨1,24,[.z],.sl 404⟩
def ti403:TI:=⟨2,16,[.v (.int .i64 0),.v (.int .i64 0)],.st [(0,3),(1,3)]⟩
def ti404:TI:=⟨2,16,[.v (.int .i64 0),.v (.int .i64 0)],.st [(0,3),(1,3)]⟩
def ti408:TI:=⟨1,8,[.v (.int .i64 0)],.sc (.int .i64)⟩
def ti415:TI:=⟨1,4,[.v (.int .u32 0)],.sc (.int .u32)⟩
def ti417:TI:=⟨1,8,[.v (.int .u64 0)],.sc (.int .u64)⟩
def ti436:TI:=⟨1,24,[.z],.sl 491⟩
def ti441:TI:=⟨3,24,[.v (.int .i64 0),.v (.int .i64 0),.v (.int .i64 0)],.st [(0,3),(1,3),(2,3)]⟩
def ti470:TI:=⟨1,8,[.v (.int .u64 0)],.sc (.int .u64)⟩
def ti491:TI:=⟨2,16,[.v (.int .i64 0),.v (.int .i64 0)],.st [(0,3),(1,3)]⟩
def ti515:TI:=⟨2,16,[.v (.int .i64 0),.v (.int .i64 0)],.st [(0,3),(1,3)]⟩
def ti528:TI:=⟨0,0,[],.st [(0,527)]⟩
def ti529:TI:=⟨0,0,[],.st [(0,527)]⟩
def ti531:TI:=⟨1,1,[.v (.int .u8 0)],.sc (.int .u8)⟩
def ti532:TI:=⟨1,1,[.v (.int .u8 0)],.sc (.int .u8)⟩
def ti535:TI:=⟨1,4,[.v (.int .i32 0)],.sc (.int .i32)⟩
def ti536:TI:=⟨1,4,[.v (.int .i32 0)],.sc (.int .i32)⟩
def tab:List (Nat × TI):=[(3,ti3),(4,ti4),(2,ti2),(5,ti5),(6,ti6),(7,ti7),(8,ti8),(9,ti9),(10,ti10),(11,ti11),(12,ti12),(13,ti13),(14,ti14),(21,ti21),(22,ti22),(24,ti24),(25,ti25),(26,ti26),(27,ti27),(28,ti28),(29,ti29),(30,ti30),(31,ti31),(32,ti32),(33,ti33),(34,ti34),(35,ti35),(36,ti36),(37,ti37),(38,ti38),(39,ti39),(40,ti40),(41,ti41),(42,ti42),(43,ti43),(44,ti44),(45,ti45),(46,ti46),(47,ti47),(48,ti48),(49,ti49),(50,ti50),(51,ti51),(52,ti52),(53,ti53),(54,ti54),(55,ti55),(56,ti56),(57,ti57),(73,ti73),(74,ti74),(77,ti77),(81,ti81),(82,ti82),(86,ti86),(87,ti87),(88,ti88),(97,ti97),(98,ti98),(99,ti99),(100,ti100),(101,ti101),(102,ti102),(103,ti103),(104,ti104),(105,ti105),(106,ti106),(107,ti107),(108,ti108),(109,ti109),(110,ti110),(111,ti111),(112,ti112),(113,ti113),(114,ti114),(115,ti115),(116,ti116),(117,ti117),(118,ti118),(119,ti119),(120,ti120),(126,ti126),(127,ti127),(157,ti157),(158,ti158),(167,ti167),(168,ti168),(174,ti174),(175,ti175),(179,ti179),(180,ti180),(185,ti185),(186,ti186),(189,ti189),(190,ti190),(192,ti192),(198,ti198),(199,ti199),(210,ti210),(211,ti211),(254,ti254),(256,ti256),(257,ti257),(266,ti266),(267,ti267),(281,ti281),(289,ti289),(290,ti290),(292,ti292),(304,ti304),(324,ti324),(325,ti325),(336,ti336),(343,ti343),(345,ti345),(347,ti347),(349,ti349),(398,ti398),(403,ti403),(404,ti404),(408,ti408),(415,ti415),(417,ti417),(436,ti436),(441,ti441),(470,ti470),(491,ti491),(515,ti515),(528,ti528),(529,ti529),(531,ti531),(532,ti532),(535,ti535),(536,ti536)]
abbrev zzA:=ay Tryz.prog
abbrev zzB:=aK Tryz.prog
def RO:Rg Tryz.prog tab:=⟨B7 Tryz.underlying3,B7 Tryz.underlying4,B7 Tryz.underlying2,B7 Tryz.underlying5,B7 Tryz.underlying6,f7 Tryz.underlying7,f7 Tryz.underlying8,B7 Tryz.underlying9,B7 Tryz.underlying10,B7 Tryz.underlying11,B7 Tryz.underlying12,f7 Tryz.underlying13,f7 Tryz.underlying14,B7 Tryz.underlying21,uy Tryz.underlying22,uy Tryz.underlying24,uy Tryz.underlying25,f7 Tryz.underlying26,f7 Tryz.underlying27,uy Tryz.underlying28,f7 Tryz.underlying29,f7 Tryz.underlying30,f7 Tryz.underlying31,f7 Tryz.underlying32,uy Tryz.underlying33,f7 Tryz.underlying34,f7 Tryz.underlying35,uy Tryz.underlying36,uy Tryz.underlying37,uy Tryz.underlying38,uy Tryz.underlying39,uy Tryz.underlying40,uy Tryz.underlying41,f7 Tryz.underlying42,f7 Tryz.underlying43,uy Tryz.underlying44,f7 Tryz.underlying45,f7 Tryz.underlying46,f7 Tryz.underlying47,f7 Tryz.underlying48,f7 Tryz.underlying49,f7 Tryz.underlying50,f7 Tryz.underlying51,f7 Tryz.underlying52,uy Tryz.underlying53,f7 Tryz.underlying54,f7 Tryz.underlying55,f7 Tryz.underlying56,f7 Tryz.underlying57,f7 Tryz.underlying73,f7 Tryz.underlying74,uy Tryz.underlying77,f7 Tryz.underlying81,f7 Tryz.underlying82,f7 Tryz.underlying86,f7 Tryz.underlying87,uy Tryz.underlying88,f7 Tryz.underlying97,uy Tryz.underlying98,f7 Tryz.underlying99,f7 Tryz.underlying100,f7 Tryz.underlying101,f7 Tryz.underlying102,f7 Tryz.underlying103,f7 Tryz.underlying104,uy Tryz.underlying105,uy Tryz.underlying106,uy Tryz.underlying107,uy Tryz.underlying108,uy Tryz.underlying109,uy Tryz.underlying110,f7 Tryz.underlying111,f7 Tryz.underlying112,uy Tryz.underlying113,f7 Tryz.underlying114,f7 Tryz.underlying115,f7 Tryz.underlying116,f7 Tryz.underlying117,f7 Tryz.underlying118,f7 Tryz.underlying119,f7 Tryz.underlying120,f7 Tryz.underlying126,uy Tryz.underlying127,f7 Tryz.underlying157,f7 Tryz.underlying158,f7 Tryz.underlying167,f7 Tryz.underlying168,f7 Tryz.underlying174,f7 Tryz.underlying175,f7 Tryz.underlying179,f7 Tryz.underlying180,f7 Tryz.underlying185,f7 Tryz.underlying186,f7 Tryz.underlying189,f7 Tryz.underlying190,uy Tryz.underlying192,f7 Tryz.underlying198,f7 Tryz.underlying199,f7 Tryz.underlying210,f7 Tryz.underlying211,f7 Tryz.underlying254,f7 Tryz.underlying256,f7 Tryz.underlying257,f7 Tryz.underlying266,f7 Tryz.underlying267,Uc Tryz.underlying281 Tryz.underlying3,f7 Tryz.underlying289,f7 Tryz.underlying290,Uc Tryz.underlying292 Tryz.underlying3,B7 Tryz.underlying304,f7 Tryz.underlying324,f7 Tryz.underlying325,f7 Tryz.underlying336,f7 Tryz.underlying343,f7 Tryz.underlying345,f7 Tryz.underlying347,f7 Tryz.underlying349,uy Tryz.underlying398,f7 Tryz.underlying403,f7 Tryz.underlying404,B7 Tryz.underlying408,B7 Tryz.underlying415,B7 Tryz.underlying417,uy Tryz.underlying436,f7 Tryz.underlying441,B7 Tryz.underlying470,f7 Tryz.underlying491,f7 Tryz.underlying515,f7 Tryz.underlying528,f7 Tryz.underlying529,B7 Tryz.underlying531,B7 Tryz.underlying532,B7 Tryz.underlying535,B7 Tryz.underlying536,trivial⟩
def TE:Nat->Option TI:=Ja tab
def qK:∀t i,TE t=some i->gV Tryz.prog t i:=FX RO
def R2:C->Value->C
 | .s .own rows,v=>.s (.tag v) rows
 | c,_=>c
def vK(u:Nat->Value):Nat->List C->List C
 | _,[]=>[]
 | j,c::cs=>R2 c (u j)::vK u (j+1) cs
def xA(u:Nat->Nat->Value):Nat->List MA->List (Nat × AV)
 | _,[]=>[]
 | i,.val a cs::A=>(i,.H (lL a) cs)::xA u (i+1) A
 | i,.mut a cs::A=>(i,.H (lL a) (vK (u i) 0 cs))::xA u (i+1) A
 | i,.ptr cs::A=>(i,.H .box cs)::xA u (i+1) A
def JO(p:Nat->Value):Nat->List MA->List (Nat × Value)
 | _,[]=>[]
 | i,.ptr _::A=>(i,p i)::JO p (i+1) A
 | i,_::A=>JO p (i+1) A
def Ez:Nat->List MA->List (Nat × Nat)->List (Option Nat)
 | i,.val _ _::A,_::pl=>none::Ez (i+1) A pl
 | i,.mut _ _::A,p::pl=>some p.1::Ez (i+1) A pl
 | i,.ptr _::A,_::pl=>some i::Ez (i+1) A pl
 | _,_,_=>[]
def HJ:List (Option Nat)->Bool
 | []=>true
 | none::l=>HJ l
 | some t::l=>l.all (λx=>match x with|some a=>!Nat.beq t a|none=>true)&&HJ l
def sles:List (Option Nat)->List Nat
 | []=>[]
 | none::l=>sles l
 | some t::l=>t::sles l
def TL(v:Value)(c y o:C):Prop:=
 match c with
 | .s .own _=>(match y with|.s (.tag v') rows=>v'=v/\o=.s .own rows|_=>False)
 | .s (.tag _) _=>False
 | .m _=>False
 | .it _ _=>False
 | c=>o=c
def QV(u:Nat->Value):Nat->List C->List C->List C->Prop
 | _,[],_,o=>o=[]
 | j,c::cs,y::xs,o::os=>TL (u j) c y o/\QV u (j+1) cs xs os
 | _,_,_,_=>False
def iz(u:Nat->Nat->Value)(F:Nat->AV):Nat->List MA->List (Nat × Nat)->List MA->Prop
 | _,[],_,[]=>True
 | i,.val _ _::A,_::pl,.val _ _::B=>iz u F (i+1) A pl B
 | i,.mut ag cs::A,p::pl,.mut a out::B=>(a=ag/\match F p.1 with|.H _ xs=>QV (u i) 0 cs (xs.drop p.2) out|_=>False)/\iz u F (i+1) A pl B
 | i,.ptr _::A,_::pl,.ptr out::B=>(match F i with|.H .box xs=>xs=out|_=>False)/\iz u F (i+1) A pl B
 | _,_,_,_=>False
inductive aR(k k':Kd)(cs cs':List C)(Q:Prop):Prop
 |mk_ (h:k=k'/\cs=cs'/\Q)
theorem aR.mk{b:Kd}{Q:Prop}(h1:k=b)(c:cs=a)(d:Q):aR k b cs a Q:=by refine .mk_ ?_;grind
def CG:type_of% @aR.mk:=@aR.mk
def aR.out{b:Kd}{Q:Prop}(h:aR k b cs a Q):k=b/\cs=a/\Q:=by obtain⟨h⟩:=h;exact h
def RI(TE:Nat->Option TI)(d:List ResultVar)(k:Kd)(rcs:List C)(u:Nat->Nat->Value)(A B:List MA)(a:List (Nat × Nat)):Exit->(Nat->AV)->Prop:=λe F=>
 match e with
 | .normal=>resA TE F d (sles (Ez 0 A a)) λb c=>aR (kr b) k c rcs (iz u F 0 A a B)
 | .ret=>resA TE F d (sles (Ez 0 A a)) λb c=>aR (kr b) k c rcs (iz u F 0 A a B)
 | _=>False
section
variable{P:Program}{w0 w w1:World}{M S0 S:ah}{N:eZ}{φ:Nat->ah}{F:Nat->AV}{a:Act}{TE:Nat->Option TI}
theorem dG.tag{Y:ah}{c:C}{v:Value}(h:dG w S Y c v):dG w S Y (R2 c v) v:=by
 cases h with
 | nil _ o a B=>cases o with
  | own=>exact .nil _ _ _ rfl
  | _=>exact .nil _ _ _ B
 | own _ o g k n l e u f B D E i p t K L M y=>cases o with
  | own=>exact .own _ _ g k n l e u f rfl D E i p t K L M y
  | V=>exact B.elim
  | tag z=>exact .own _ _ g k n l e u f B D E i p t K L M y
 | v _ x F=>exact .v _ _ F
 | x _ u F=>exact .x _ _ F
 | z _ a=>exact .z _ _
 | V _ g G k n l e u D E i N y=>exact .V _ g G k n l e u D E i N y
 | m _ b d O j t H P J q=>exact .m _ b d O j t H P J q
 | it _ r b since Q d seen j cur left t R H q y J T A=>exact .it _ r b since Q d seen j cur left t R H q y J T A
def dG.untag{Y:ah}{z v:Value}{rows:List (List C)}(h:dG w S Y (.s (.tag z) rows) v):v=z/\dG w S Y (.s .own rows) v:=by
 cases h with
 | nil _ o a d=>exact⟨Eq.symm d,.nil _ _ _ trivial⟩
 | own _ o g k n e rows u f d i j b c l p q r t=>exact⟨Eq.symm d,.own _ _ g k n e rows u f trivial i j b c l p q r t⟩
theorem oL(u:Nat->Value):∀(j:Nat)(cs:List C),(vK u j cs).length=cs.length
 | _,[]=>rfl
 | j,c::cs=>by simp[vK,oL u (j+1) cs]
theorem F7(u:Nat->Value):∀(a:Nat)(cs:List C)(j:Nat),(vK u a cs)[j]? = (cs[j]?).map λc=>R2 c (u (a+j))
 | _,[],j=>by simp[vK]
 | a,c::cs,0=>by simp[vK]
 | a,c::cs,j+1=>by simp only[vK,List.getElem?_cons_succ];rw[F7 u (a+1) cs j,show a+1+j=a+(j+1) by omega]
variable{u:Nat->Value}
theorem cL.tag{Y:ah}{cs:List C}(h:cL w S Y cs u):cL w S Y (vK u 0 cs) u:=by
 obtain⟨f,i,b,d⟩:=h;refine⟨f,λj c a=>?_,λj a=>b j (by grind [oL]),λj e a g=>d j e (by grind [oL]) (by grind [oL])⟩
 grind [F7,dG.tag]
def celF(v:Value)(j:Nat):Value:=v.cells.toList.getD j undef
def b9.celF{Y:ah}{ag:Option Nat}{cs:List C}{v:Value}(h:b9 w S Y ag cs v):cs.length=ag.getD 1/\v=mkv ag (celF v)/\cL w S Y cs (celF v):=by
 obtain⟨b,u,c,d⟩:=h;have g:=pV (ag:=ag) (u:=u) (λe=>by subst e;exact d.one (by simp at b;omega));have f:∀j,j<ag.getD 1->Ab.celF v j=u j:=λj a=>by
  unfold Ab.celF;rw[c,g];simp[List.getD,a]
 exact⟨b,c.trans (j9 λj a=>(f j a).symm),d.congr λj a=>f j ω⟩
def QT(u:Nat->Nat->Value)(i:Nat):MA->AV
 | .val a cs=>.H (lL a) cs
 | .mut a cs=>.H (lL a) (vK (u i) 0 cs)
 | .ptr cs=>.H .box cs
theorem AD{u:Nat->Nat->Value} : ∀{A:List MA}{vs:List Value}{V:Nat->ah}(i:Nat),JM w S V A vs->∀t,(lay (xA u i A) t=.dead)\/(∃m v,i<=t/\vs[t - i]? = some v/\A[t - i]? = some m/\lay (xA u i A) t=QT u t m/\qn w S (V (t - i)) m v)
 | [],_,_,i,_,t=>.inl rfl
 | m::A,[],_,i,h,t=>h.elim
 | m::A,v::vs,V,i,h,t=>by
  have b:lay (xA u i (m::A)) t=bif Nat.beq t i then QT u i m else lay (xA u (i+1) A) t:=by cases m<;>rfl
  rw[b];cases c:Nat.beq t i with
  | true=>
   have:=I2 c;subst this;exact .inr ⟨m,v,I3 _,by simp,by simp,rfl,by rw[Nat.sub_self];exact h.1⟩
  | false=>
   have d:t≠i:=λe=>by simp_all
   rcases AD (i+1) h.2 t with a|⟨f,g,a,j,k,l,n⟩
   ·exact .inl a
   grind
def HY:∀{A:List MA}{vs:List Value}{V:Nat->ah},JM w S V A vs->A.length=vs.length
 | [],[],_,_=>rfl
 | _::_,_::_,_,h=>by simp[HY h.2]
 | [],_::_,_,h=>h.elim
 | _::_,[],_,h=>h.elim
theorem Jc{p:Nat->Value} : ∀{A:List MA}{i:Nat}{q:Nat × Value},q∈JO p i A->i<=q.1/\q.1<i+A.length/\q.2=p q.1
 | [],_,_,h=>by simp[JO]at h
 | m::A,i,q,h=>by
  have a:q∈JO p (i+1) A->i<=q.1/\q.1<i+(m::A).length/\q.2=p q.1:=λh=>by
   obtain⟨b,c,d⟩:=Jc h
   grind
  cases m with
  | ptr e=>
   rcases List.mem_cons.1 h with rfl|h
   all_goals grind
  | val=>exact a h
  | «mut»=>exact a h
theorem JL{p:Nat->Value} : ∀{A:List MA}{i n:Nat}{cs:List C},A[n]? = some (.ptr cs)->(i+n,p (i+n))∈JO p i A
 | [],_,n,_,h=>by simp at h
 | m::A,i,0,cs,h=>by grind [JO]
 | m::A,i,n+1,cs,h=>by
  have a:=JL (p:=p) (i:=i+1) (show A[n]? = some (.ptr cs) by simpa using h);rw[show i+1+n=i+(n+1) by omega]at a;cases m with
  | ptr cs=>exact O5 _ a
  | val=>exact a
  | «mut»=>exact a
def RG(φ:Nat->ah):Option (Option Nat)->ah
 | some (some t)=>φ t
 | _=>NO
theorem BA{u:Nat->Value} : ∀{b:Nat}{cs xs a:List C},QV u b cs xs a->cs.length=a.length/\∀(j:Nat)(c o:C),cs[j]? = some c->a[j]? = some o->∃y,(eg c=true->xs[j]? = some y)/\TL (u (b+j)) c y o
 | _,[],xs,a,h=>by grind [QV]
 | _,_::_,[],_,h=>by grind [QV]
 | _,_::_,_::_,[],h=>by grind [QV]
 | b,d::cs,e::xs,f::a,h=>by
  simp only[QV]at h;obtain⟨g,i⟩:=BA h.2
  grind
theorem Nj{S' Y r:ah}{E:Nat->Value}{cs xs t:List C}{off:Nat}(g:bo S w w1)(l:∀b o,S b o->S' b o)(h:cL w S Y cs u)(h':cL w1 S' r xs E)(F:QV u 0 cs (xs.drop off) t):cL w1 S' r t u:=by
 obtain⟨f,G,O,P⟩:=h;obtain⟨A,n,H,J⟩:=h';obtain⟨Q,K⟩:=BA F;refine⟨λj b o=>off+j<xs.length/\A (off+j) b o,λj c B=>?_,ψ,ψ⟩;have L:=(U2.1 B).1;have i:cs[j]? = some cs[j]:=ψ
 obtain⟨y,k,a⟩:=K j _ c i B;rw[Z6]at a;have d:=G j _ i;generalize cs[j]=p at i a d k;have keep:eg p=false->c=p->dG w1 S' (λb o=>off+j<xs.length/\A (off+j) b o) c (u j):=λM e=>by
  subst e;exact((d.bare (F':=NO) M).keep g (λ_ _ h=>h.elim)).mono l (λ_ _ h=>h.elim)
 cases p with
 | v R=>exact keep rfl a
 | x=>exact keep rfl a
 | z=>exact keep rfl a
 | m T=>exact a.elim
 | it=>exact a.elim
 | s o D=>
  cases o with
  | V=>exact keep rfl a
  | tag z=>exact a.elim
  | own=>
   have k:=k rfl;rw[List.getElem?_drop]at k;have N:=(U2.1 k).1;simp only[TL]at a;split at a
   case h_2=>exact a.elim
   rename_i U q;obtain⟨rfl,rfl⟩:=a;obtain⟨V,W⟩:=(n _ _ k).untag
   simp_all
theorem bg.backs{C:World}{S':ah}{u:Nat->Nat->Value}(h:bg w0 M S0 N S' φ F a C)(d:bo S w C)(f:∀b o,S b o->S' b o):∀{A:List MA}{g:List (Nat × Nat)}{B:List MA}{vs:List Value}{V:Nat->ah}{i:Nat},JM w S V A vs->
  (∀j v,vs[j]? = some v->u (i+j)=celF v)->(∀j v cs,vs[j]? = some v->A[j]? = some (.ptr cs)->tvs a (i+j)=v)->iz u F i A g B->BC C S' (λn=>RG φ (Ez i A g)[n]?) B vs
 | [],g,B,vs,V,i,l,r,t,c=>by
  cases vs with
  | cons _ _=>exact l.elim
  | nil=>cases B with
   | nil=>trivial
   | cons _ _=>grind [iz]
 | m::A,[],B,vs,V,i,l,r,t,c=>by grind [iz]
 | m::A,p::g,[],vs,V,i,l,r,t,c=>by grind [iz]
 | m::A,p::g,D::B,[],V,i,l,r,t,c=>l.elim
 | m::A,p::g,D::B,v::vs,V,i,l,r,t,c=>by
  have next:iz u F (i+1) A g B->BC C S' (λn=>RG φ (Ez (i+1) A g)[n]?) B vs:=λc=>
   bg.backs h d f l.2 (λj v T=>by rw[show i+1+j=i+(j+1) by omega];simp_all)
    (λj v cs T X=>by rw[show i+1+j=i+(j+1) by omega];simp_all) c
  cases m with
  | val U cs=>
   cases D with
   | val y W=>simp only[iz]at c;exact⟨trivial,next c⟩
   | ptr=>grind [iz]
   | «mut»=>grind [iz]
  | «mut» U cs=>
   cases D with
   | val=>grind [iz]
   | ptr=>grind [iz]
   | «mut» y out=>
    simp only[iz]at c;obtain⟨⟨rfl,e⟩,G⟩:=c;refine⟨?_,next G⟩;have E:=b9.celF (show b9 w S (V 0) y cs v from l.1);have H:u i=celF v:=r 0 v (by simp);have q:=h.slot p.1;cases J:F p.1 with
    | H k xs=>
     rw[J]at e q;simp only at e;rw[H]at e;obtain⟨O,Y,P,K,Q,R,L⟩:=q;refine⟨by grind [BA],celF v,E.2.1,?_⟩;exact(Nj d f E.2.2 L e).mono (λ_ _ h=>h) (λb o c=>by simpa[Ez,RG] using K b o c)
    | _=>grind
  | ptr cs=>
   cases D with
   | val=>grind [iz]
   | «mut»=>grind [iz]
   | ptr out=>
    simp only[iz]at c;refine⟨?_,next c.2⟩;have E:tvs a i=v:=t 0 v cs (by simp) (by simp);have q:=h.slot i;cases J:F i with
    | H k xs=>
     cases k with
     | box=>
      rw[J]at c q;have:=c.1;simp only at this;subst this;rw[E]at q;obtain⟨O,Y,P,K,Q,R,L⟩:=q;exact⟨O,Y,λb o c=>by simpa[Ez,RG] using P b o c,λb o c=>by simpa[Ez,RG] using K b o c,Q,R,L⟩
     | _=>grind
    | _=>grind
theorem uq:∀{l:List (Option Nat)},HJ l=true->∀(i a t c:Nat),i≠a->l[i]? = some (some t)->l[a]? = some (some c)->t≠c
 | [],_,i,a,t,c,_,h,_=>by simp at h
 | none::l,b,i,a,t,c,f,h,d=>by
  cases i with
  | zero=>simp at h
  | succ i=>cases a with
   | zero=>simp at d
   | succ a=>exact uq (l:=l) b i a t c ω (by simpa using h) (by simpa using d)
 | some g::l,b,i,a,t,c,f,h,d=>by
  simp only[HJ,I0]at b;have k:∀(n s:Nat),l[n]? = some (some s)->g≠s:=λn s j e=>by
   have:=v4.1 b.1 _ (C2 j)
   simp_all
  cases i with
  | zero=>
   grind
  | succ i=>cases a with
   | zero=>grind
   | succ a=>exact uq b.2 i a t c ω (by simpa using h) (by simpa using d)
theorem wo:∀{l:List (Option Nat)}{i t:Nat},l[i]? = some (some t)->t∈sles l
 | [],i,t,h=>by simp at h
 | none::l,i,t,h=>by
  cases i with
  | zero=>simp at h
  | succ i=>exact wo (l:=l) (i:=i) (by simpa using h)
 | some a::l,i,t,h=>by
  cases i with
  | zero=>grind [sles]
  | succ i=>exact O5 _ (wo (l:=l) (i:=i) (by simpa using h))
theorem yb{φ:Nat->ah}{x:Option (Option Nat)}{b o:Nat}(h:RG φ x b o):∃t,x=some (some t)/\φ t b o:=by
 match x,h with
 | some (some t),h=>exact⟨t,rfl,h⟩
 | some none,h=>exact h.elim
 | none,h=>exact h.elim
theorem Kk{f : Nat}{y : Func}{c : Code}{sh : Bool}{A B : List MA}{k : Kd}{rcs : List C}{mo : List (Nat × List Nat)}{n : Nat}(O : List (Nat × Nat))(hTE : ∀t i, TE t = some i -> gV P t i)(hf : P.funcs[f]? = some y)(hn : (y.name == "runtime.NumGoroutine") = false)(d:y.body=some c){ck:Nat->Array Oper->Bool}{D:eZ->Nat->Array Oper->((Nat->AV)->Prop)->(Nat->AV)->Prop}(hD:∀N,xl P N ck (D N))(hc:gj ck c=true)(hN:A.length+(y.ntmps - A.length)=n)(hok:HJ (Ez 0 A O)=true)(hsh:sh=true\/hC rcs)(hp:∀(u:Nat->Nat->Value)(p:Nat->Value),aw P TE ⟨n,JO p 0 A,mo⟩ (D ⟨n,JO p 0 A,mo⟩) c (RI TE y.results.toList k rcs u A B O) (lay (xA u 0 A))):aK P f sh A B k rcs:=by
 refine⟨⟨y,hf,hn,by rw[d];rfl⟩,λw S V E hS hV hVd hA=>?_⟩;have hlen:=HY hA;refine calls_of_wp hf d ?_
 let u:Nat->Nat->Value:=λi=>celF (E.getD i undef)
 let p:Nat->Value:=λi=>E.getD i undef
 have htv:∀t v,E[t]? = some v->tvs {tmps:=E.toArray++Array.replicate (y.ntmps - E.toArray.size) undef,defers:=[]} t=v:=λt v r=>by
  have Q:=(U2.1 r).1;simp only[tvs,W6]
  grind
 have hst:St w (λb o=>∃i,V i b o) S ⟨n,JO p 0 A,mo⟩ (lay (xA u 0 A)) {tmps:=E.toArray++Array.replicate (y.ntmps - E.toArray.size) undef,defers:=[]} w:=by
  refine⟨S,V,λt=>?_,hVd,ψ,ψ,λ_ _ h=>h,ψ,Ca _ _,by simp;omega,rfl,λq hq=>?_⟩
  ·rcases AD (u:=u) 0 hA t with J|⟨m,v,-,r,h2',K,U⟩
   ·rw[J];trivial
   rw[K];rw[Nat.sub_zero]at r U;rw[htv t v r];have hu:u t=celF v:=ψ
   cases m with
   | val M G=>exact(b9.mono (show b9 w S NO M G v from U) (λ_ _ h=>h) (λ_ _ h=>h.elim)).slot
   | «mut» M G=>
    obtain⟨e1,e2,e3⟩:=b9.celF (show b9 w S (V t) M G v from U);refine b9.slot ⟨by grind [oL],celF v,e2,?_⟩
    grind [cL.tag]
   | ptr G=>exact U
  obtain⟨-,J,r⟩:=Jc hq
  grind
 refine iN hTE (hD _) c hc _ _ _ _ w (hp u p) hst λe F' W l he hs'=>?_
 obtain⟨S',φ',h⟩:=hs';have fin:resA TE F' y.results.toList (sles (Ez 0 A O)) (λsh G=>aR (kr sh) k G rcs (iz u F' 0 A O B))->W.defers=[]/\∃v,(results y W.tmps).run P l=.ok v l/\(∃v',Ending.returned v=.returned v'/\bx (λb o=>∃i,V i b o) w l/\∃(X:ah)(Z:Nat->ah)(S1:ah),
     (∀b o,X b o->(∃i,V i b o)\/(b<l.heap.size/\w.heap.size<=b))/\(∀i b o,Z i b o->(∃i,V i b o)\/(b<l.heap.size/\w.heap.size<=b))/\
     (∀b o,S1 b o->(sh=true/\S b o)\/(∃i,V i b o)\/(b<l.heap.size/\w.heap.size<=b))/\
     (∀i i',i≠i'->∀b o,Z i b o->¬Z i' b o)/\(∀i b o,X b o->¬Z i b o)/\(∀b o,X b o->¬S1 b o)/\(∀i b o,Z i b o->¬S1 b o)/\
     fD l NO k rcs.length v'/\cL l S1 X rcs (cj l k v')/\BC l (λb o=>S b o\/S1 b o) Z B E):=by
  intro hr;obtain⟨shs,G,a,u',hfin,hrun,L,hln,hL,hcells,H,hrow⟩:=h.resA hTE hr;obtain⟨rfl,rfl,R⟩:=hfin.out;refine⟨h.defers,?_⟩;have T:(results y W.tmps).run P l=.ok (if h:a.toArray.size=1 then a.toArray[0] else .tuple a.toArray) l:=by
   have e:results y W.tmps=(do let E <-y.results.mapM (Fo W.tmps);pure (if h:E.size=1 then E[0] else .tuple E)):=by
    unfold results
    congr 1
   rw[e,<-Array.toArray_toList (xs:=y.results),List.mapM_toArray]
   simp_all
  have hex:∀t b o,φ' t b o->(∃i,V i b o)\/(b<l.heap.size/\w.heap.size<=b):=λt b o d=>(h.ex t b o d).2.elim (λh'=>.inr ⟨(h.ex t b o d).1,h'⟩) .inl
  have hsameS:bo S w l:=λb o d=>by
   have Q:=hS b o d;exact⟨h.old.cel b o Q ψ,h.old.fro b o Q ψ⟩
  have hm:=h.backs (u:=u) hsameS h.sub hA ψ (λj v G hj hc=>by
    have:=h.par _ (JL (p:=p) (i:=0) hc)
    grind) R
  refine⟨_,T,_,rfl,h.old,λb o=>∃t,t∉sles (Ez 0 A O)/\φ' t b o,λi=>RG φ' (Ez 0 A O)[i]?,λb o=>(sh=true/\S' b o)\/(S' b o/\((∃i,V i b o)\/w.heap.size<=b)),ψ,λi b o d=>?_,λb o d=>?_,λi i' hne b o d g=>?_,λi b o ⟨t,ht,d⟩ g=>?_,λb o ⟨t,_,d⟩ g=>h.disS t b o d ψ,λi b o d g=>?_,?_⟩
  ·grind [yb]
  ·rcases d with⟨J,r⟩|⟨J,r⟩
   ·rcases(h.sup b o r).2 with K|K|K
    ·grind
    ·exact .inr (.inr ⟨(h.sup b o r).1,K⟩)
    grind
   rcases r with r|r
   ·grind
   exact .inr (.inr ⟨(h.sup b o J).1,r⟩)
  ·obtain⟨t,e1,d⟩:=yb d
   obtain⟨t',e2,g⟩:=yb g;exact h.dis t t' (uq hok i i' t t' hne e1 e2) b o d g
  ·obtain⟨t',e2,g⟩:=yb g
   exact h.dis t t' (λe=>ht (by grind [wo])) b o d g
  ·obtain⟨t,-,d⟩:=yb d
   exact h.disS t b o d ψ
  have hk:fD l NO (kr shs) G.length (if h:a.toArray.size=1 then a.toArray[0] else .tuple a.toArray)/\cL l S' (λb o=>∃t,t∉sles (Ez 0 A O)/\φ' t b o) G (cj l (kr shs) (if h:a.toArray.size=1 then a.toArray[0] else .tuple a.toArray)):=by
   match shs,L,H,hL with
   | [],L,_,hL=>
    cases a with
    | cons _ _=>exact L.elim
    | nil=>
     have:G=[]:=ψ
     subst this;exact⟨⟨_,rfl,trivial,rfl⟩,cL.nil _ _ _ _⟩
   | [M],_,H,_=>
    obtain⟨v,rfl,hv⟩:=H M rfl;have:=hv.slot (F:=F') (tv:=tvs W);obtain⟨X1,Y,J,r,K,U,h5⟩:=this;refine⟨?_,h5.mono (λ_ _ h=>h) r⟩;cases M<;>exact U
   | M::ag2::sh,L,_,hL=>
    have hsz:¬a.toArray.size=1:=by
     match a,L with
     | [],L=>simp
     | [v],L=>cases M<;>cases ag2<;>exact L.2.elim
     | _::_::_,_=>simp
    rw[dif_neg hsz];refine⟨⟨_,rfl,L,hL⟩,hrow.congr λj hj=>?_⟩;simp only[cj,kr,mO,hcells];simp[List.getD,hj]
  refine⟨hk.1,?_,hm.mono λb o d=>?_⟩
  ·rcases hsh with J|J
   ·exact hk.2.mono ψ (λ_ _ h=>h)
   exact(hk.2.fresh J).mono (λ_ _ h=>h.elim) (λ_ _ h=>h)
  rcases(h.sup b o d).2 with K|K|K
  all_goals grind
 cases e with
 | normal=>exact fin he
 | ret=>exact fin he
 | _=>exact he.elim
end
abbrev I(z:Int):C:=.v (.int .i64 z)
abbrev B(b:Bool):C:=.v (.bool b)
def rI(_:dQ)(z:Int):List C:=[I z]
def rB(_:dQ)(b:Bool):List C:=[B b]
def qI(z:Int):hC (rI .own z):=⟨trivial,trivial⟩
def E7(b:Bool):hC (rB .own b):=⟨trivial,trivial⟩
def ng(z:Int):Prop:=-9223372036854775808<=z/\z<=9223372036854775807
def Ub(_:Bool):Prop:=True
def rJ : Tryz.prog.follows .mixedOrders=true:=by kernel_rfl
variable{tb: List (Nat × Nat × List Nat)}{rcs: List C}{A: List RA}{sh: Bool}{c: Code}{mo: List (Nat × List Nat)}{f: Nat}
def Tc{a : Func}(d : Tryz.prog.funcs[f]? = some a)(e : (a.name == "runtime.NumGoroutine") = false)(g : a.body = some c)(h : gj (nN tb) c = true)(i:A.length+(a.ntmps - A.length)=n)(b:sh=true\/hC rcs)(j:aw Tryz.prog TE ⟨n,[],mo⟩ (DF Tryz.prog TE ⟨n,[],mo⟩ tb) c (Qw TE a.results.toList k rcs) (lay (vT 0 A))):zzA f sh A k rcs:=
 Kl qK d e g (r9 qK rJ ⟨n,[],mo⟩ tb) h i rfl b j
def Tp{a : Func}{A B : List MA}(b : List (Nat × Nat))(g : Tryz.prog.funcs[f]? = some a)(h : (a.name == "runtime.NumGoroutine") = false)(i : a.body = some c)(j : gj (nN tb) c = true)(l:A.length+(a.ntmps - A.length)=n)(d:HJ (Ez 0 A b)=true)(e:sh=true\/hC rcs)(o:∀(u:Nat->Nat->Value)(p:Nat->Value),aw Tryz.prog TE ⟨n,JO p 0 A,mo⟩ (DF Tryz.prog TE ⟨n,JO p 0 A,mo⟩ tb) c (RI TE a.results.toList k rcs u A B b) (lay (xA u 0 A))):zzB f sh A B k rcs:=
 Kk b qK g h i (λN=>r9 qK rJ N tb) j l d e o
def Tg{a : Func}(b : Tryz.prog.funcs[f]? = some a)(d : (a.name == "runtime.NumGoroutine") = false)(e : a.body = some c)(g : gj (nN tb) c = true)(h:A.length+(a.ntmps - A.length)=n)(i:a.results = #[.tmp t])(j:aw Tryz.prog TE ⟨n,[],mo⟩ (DF Tryz.prog TE ⟨n,[],mo⟩ tb) c (Tm t rcs) (lay (vT 0 A))):re Tryz.prog f true A .box rcs:=
 KB qK b d e (r9 qK rJ ⟨n,[],mo⟩ tb) g h rfl i j
theorem fQ{x:Int}(h1 : -9223372036854775808<=x)(a:x<=9223372036854775807):IntKind.i64.wrap x=x:=IntWalk.i64_in x ω
def NT:RA->RA->Prop
 | .val ag cs,.val ag' cs'=>ag=ag'/\cs=cs'
 | .ptr cs,.ptr cs'=>cs=cs'
 | A,a=>A=a
theorem NT.eq{A a:RA}(h:NT A a):A=a:=by
 unfold NT at h
 grind
def zX:List RA->List RA->Prop
 | [],[]=>True
 | A::As,B::Bs=>NT A B/\zX As Bs
 | _,_=>False
theorem zX.eq:∀{A a:List RA},zX A a->A=a
 | [],[],_=>rfl
 | A::As,B::Bs,h=>by rw[NT.eq h.1,zX.eq h.2]
 | [],_::_,h=>h.elim
 | _::_,[],h=>h.elim
theorem Cl.eq{b:Bool}{a:List RA}{K:AV->Prop}(h:ay P f false a k rcs)(c:zX A a)(d:K (.H k rcs)):Cl P f b A K:=by grind [zX.eq,C8]
def CF:type_of% @Cl.eq:=@Cl.eq
def yJ{b:Nat}(h:n<=1048576)(a:b<=1000):n*b<=140737488355328:=Z4 (Nat.mul_le_mul h a) (by decide)
variable{X Y:Prop}
theorem Bf.NB{a b:Bool}(h1:a≠b->X)(c:a=b->Y):Bf (a != b) X Y:=by grind [Bf.P]
theorem Rw.one{off k j:Nat}{K:List C->Nat->Prop}{o:dQ}{rows:List (List C)}{r:List C}(h1:a[off]? = some (.s o rows))(c:rows[i]? = some r)(d:r.length=k)(b:K r j):Rw a off [(i,k,j)] K:=
 Rw.mk (r:=r) (j:=j) (by grind [cn]) b
def CH:type_of% @Rw.one:=@Rw.one
section
variable{α:Type}{A B:List α}
end
def aa{β:Type}{f:α->β}{l:List α}{k:Nat}{x:α}(h:l[k]? = some x):(l.map f)[k]? = some (f x):=by simp[h]
def aH(o:dQ)(x:List Int):List C:=[.s o (x.map (rI o))]
def dR(x:List Int):dJ (aH .own x)=aH .V x:=by simp[dJ,aH,rI,dJ]
theorem bP(x:List Int):hC (aH .own x):=⟨⟨.inl ψ,bj _ _ λy _=>qI y⟩,trivial⟩
def jo(x:List Int):Prop:=x.length<=9223372036854775807/\∀y∈x,ng y
def rT(x:List Int):Prop:=x.length<=1048576
def jq(o:dQ)(x:List (List Int)):List C:=[.s o (x.map (aH o))]
def RW(x:List (List Int)):dJ (jq .own x)=jq .V x:=by simp[dJ,jq,dR,<-bX,Y5]
def BF(x:List (List Int)):Prop:=x.length<=9223372036854775807/\∀y∈x,jo y
def xD(x:List (List Int)):Prop:=x.length<=1048576/\∀y∈x,rT y
def wS(o:dQ)(x:List Bool):List C:=[.s o (x.map (rB o))]
def Q4(x:List Bool):Prop:=x.length<=9223372036854775807/\∀y∈x,Ub y
def MS(x:List Bool):Prop:=x.length<=1048576
structure aX where
 T:List (List Int)
 a5:List Bool
deriving DecidableEq,Inhabited
def aX.enc(o:dQ)(x:aX):List C:=[.s o (x.T.map (aH o)),.s o (x.a5.map (rB o))]
def aX.enc_fz(x:aX):dJ (aX.enc .own x)=aX.enc .V x:=by simp[dJ,aX.enc,rB,dR,<-bX,Y5]
theorem aX.enc_fr(x:aX):hC (aX.enc .own x):=⟨⟨.inl ψ,bj _ _ λy _=>bP y⟩,⟨.inl ψ,bj _ _ λy _=>E7 y⟩,trivial⟩
def aX.wf(x:aX):Prop:=BF x.T/\Q4 x.a5
def aX.sml(x:aX):Prop:=xD x.T/\MS x.a5
structure bk where
 e:Int
 o:Int
deriving DecidableEq,Inhabited
def bk.enc(o:dQ)(x:bk):List C:=[I x.e,I x.o]
def bk.enc_fz(x:bk):dJ (bk.enc .own x)=bk.enc .V x:=by simp[dJ,bk.enc]
def bk.enc_fr(x:bk):hC (bk.enc .own x):=⟨trivial,trivial,trivial⟩
def bk.wf(x:bk):Prop:=ng x.e/\ng x.o
def bk.sml(_:bk):Prop:=True
def FP(o:dQ)(x:List bk):List C:=[.s o (x.map (bk.enc o))]
def KU(x:List bk):Prop:=x.length<=9223372036854775807/\∀y∈x,bk.wf y
def Hm(x:List bk):Prop:=x.length<=1048576/\∀y∈x,bk.sml y
structure aM where
 K:List bk
deriving DecidableEq,Inhabited
def aM.enc(o:dQ)(x:aM):List C:=[.s o (x.K.map (bk.enc o))]
def aM.enc_fz(x:aM):dJ (aM.enc .own x)=aM.enc .V x:=by simp[dJ,aM.enc,bk.enc_fz,<-bX,Y5]
def Cb:type_of% @aM.enc_fz:=@aM.enc_fz
theorem aM.enc_fr(x:aM):hC (aM.enc .own x):=⟨⟨.inl ψ,bj _ _ λy _=>bk.enc_fr y⟩,trivial⟩
def aM.wf(x:aM):Prop:=KU x.K
def aM.sml(x:aM):Prop:=Hm x.K
structure aY where
 W:aX
 R:aM
deriving DecidableEq,Inhabited
def aY.enc(o:dQ)(x:aY):List C:=[.s o (x.W.T.map (aH o)),.s o (x.W.a5.map (rB o)),.s o (x.R.K.map (bk.enc o))]
def aY.enc_fz(x:aY):dJ (aY.enc .own x)=aY.enc .V x:=by simp[dJ,aY.enc,bk.enc_fz,rB,dR,<-bX,Y5]
theorem aY.enc_fr(x:aY):hC (aY.enc .own x):=⟨⟨.inl ψ,bj _ _ λy _=>bP y⟩,⟨.inl ψ,bj _ _ λy _=>E7 y⟩,⟨.inl ψ,bj _ _ λy _=>bk.enc_fr y⟩,trivial⟩
def aY.wf(x:aY):Prop:=aX.wf x.W/\aM.wf x.R
def aY.sml(x:aY):Prop:=aX.sml x.W/\aM.sml x.R
structure am where
 F:aY
 Calls:Int
 a0:List Int
deriving DecidableEq,Inhabited
def am.enc(o:dQ)(x:am):List C:=[.s o (x.F.W.T.map (aH o)),.s o (x.F.W.a5.map (rB o)),.s o (x.F.R.K.map (bk.enc o)),I x.Calls,.s o (x.a0.map (rI o))]
def am.enc_fz(x:am):dJ (am.enc .own x)=am.enc .V x:=by simp[dJ,am.enc,bk.enc_fz,rB,rI,dR,<-bX,Y5]
def CQ:type_of% @am.enc_fz:=@am.enc_fz
theorem am.enc_fr(x:am):hC (am.enc .own x):=⟨⟨.inl ψ,bj _ _ λy _=>bP y⟩,⟨.inl ψ,bj _ _ λy _=>E7 y⟩,⟨.inl ψ,bj _ _ λy _=>bk.enc_fr y⟩,trivial,⟨.inl ψ,bj _ _ λy _=>qI y⟩,trivial⟩
def Cf:type_of% @am.enc_fr:=@am.enc_fr
def am.wf(x:am):Prop:=aY.wf x.F/\ng x.Calls/\jo x.a0
def am.sml(x:am):Prop:=aY.sml x.F/\rT x.a0
structure aB where
 At:Int
 a8:Int
deriving DecidableEq,Inhabited
def aB.enc(o:dQ)(x:aB):List C:=[I x.At,I x.a8]
def aB.enc_fz(x:aB):dJ (aB.enc .own x)=aB.enc .V x:=by simp[dJ,aB.enc]
def aB.enc_fr(x:aB):hC (aB.enc .own x):=⟨trivial,trivial,trivial⟩
def aB.wf(x:aB):Prop:=ng x.At/\ng x.a8
def aB.sml(_:aB):Prop:=True
def bv(o:dQ)(x:List aB):List C:=[.s o (x.map (aB.enc o))]
def ed(x:List aB):dJ (bv .own x)=bv .V x:=by simp[dJ,bv,aB.enc_fz,<-bX,Y5]
theorem i6(x:List aB):hC (bv .own x):=⟨⟨.inl ψ,bj _ _ λy _=>aB.enc_fr y⟩,trivial⟩
def KP(x:List aB):Prop:=x.length<=9223372036854775807/\∀y∈x,aB.wf y
def gw(x:List aB):Prop:=x.length<=1048576/\∀y∈x,aB.sml y
structure aA where
 Q:Int
 d:Int
 a9:Int
deriving DecidableEq,Inhabited
def aA.enc(o:dQ)(x:aA):List C:=[I x.Q,I x.d,I x.a9]
def aA.enc_fz(x:aA):dJ (aA.enc .own x)=aA.enc .V x:=by simp[dJ,aA.enc]
def aA.enc_fr(x:aA):hC (aA.enc .own x):=⟨trivial,trivial,trivial,trivial⟩
def aA.wf(x:aA):Prop:=ng x.Q/\ng x.d/\ng x.a9
def aA.sml(_:aA):Prop:=True
def cA(o:dQ)(x:List aA):List C:=[.s o (x.map (aA.enc o))]
def wM(x:List aA):dJ (cA .own x)=cA .V x:=by simp[dJ,cA,aA.enc_fz,<-bX,Y5]
theorem Ho(x:List aA):hC (cA .own x):=⟨⟨.inl ψ,bj _ _ λy _=>aA.enc_fr y⟩,trivial⟩
def NH(x:List aA):Prop:=x.length<=9223372036854775807/\∀y∈x,aA.wf y
def d9(x:List aA):Prop:=x.length<=1048576/\∀y∈x,aA.sml y
structure aD where
 Q:Int
 a2:Int
 q:Int
deriving DecidableEq,Inhabited
def aD.enc(o:dQ)(x:aD):List C:=[I x.Q,I x.a2,I x.q]
def aD.enc_fz(x:aD):dJ (aD.enc .own x)=aD.enc .V x:=by simp[dJ,aD.enc]
def aD.enc_fr(x:aD):hC (aD.enc .own x):=⟨trivial,trivial,trivial,trivial⟩
def aD.wf(x:aD):Prop:=ng x.Q/\ng x.a2/\ng x.q
def aD.sml(_:aD):Prop:=True
def cy(o:dQ)(x:List aD):List C:=[.s o (x.map (aD.enc o))]
def FW(x:List aD):dJ (cy .own x)=cy .V x:=by simp[dJ,cy,aD.enc_fz,<-bX,Y5]
def K5(x:List aD):Prop:=x.length<=9223372036854775807/\∀y∈x,aD.wf y
def dM(x:List aD):Prop:=x.length<=1048576/\∀y∈x,aD.sml y
structure bt where
 Id:Int
 Addr:Int
 q:Int
 a4:Int
deriving DecidableEq,Inhabited
def bt.enc(o:dQ)(x:bt):List C:=[I x.Id,I x.Addr,I x.q,I x.a4]
def bt.enc_fz(x:bt):dJ (bt.enc .own x)=bt.enc .V x:=by simp[dJ,bt.enc]
def bt.enc_fr(x:bt):hC (bt.enc .own x):=⟨trivial,trivial,trivial,trivial,trivial⟩
def bt.wf(x:bt):Prop:=ng x.Id/\ng x.Addr/\ng x.q/\ng x.a4
def bt.sml(_:bt):Prop:=True
def nA(o:dQ)(x:List bt):List C:=[.s o (x.map (bt.enc o))]
def L8(x:List bt):dJ (nA .own x)=nA .V x:=by simp[dJ,nA,bt.enc_fz,<-bX,Y5]
def Qy(x:List bt):Prop:=x.length<=9223372036854775807/\∀y∈x,bt.wf y
def M9(x:List bt):Prop:=x.length<=1048576/\∀y∈x,bt.sml y
structure aE where
 a:List (List Int)
deriving DecidableEq,Inhabited
def aE.enc(o:dQ)(x:aE):List C:=[.s o (x.a.map (aH o))]
def aE.enc_fz(x:aE):dJ (aE.enc .own x)=aE.enc .V x:=by simp[dJ,aE.enc,dR,<-bX,Y5]
def Ce:type_of% @aE.enc_fz:=@aE.enc_fz
theorem aE.enc_fr(x:aE):hC (aE.enc .own x):=⟨⟨.inl ψ,bj _ _ λy _=>bP y⟩,trivial⟩
def aE.wf(x:aE):Prop:=BF x.a
def aE.sml(x:aE):Prop:=xD x.a
def pH(o:dQ)(x:List aE):List C:=[.s o (x.map (aE.enc o))]
def KF(x:List aE):Prop:=x.length<=9223372036854775807/\∀y∈x,aE.wf y
def H1(x:List aE):Prop:=x.length<=1048576/\∀y∈x,aE.sml y
structure dw where
 To:Int
 Addr:Int
deriving DecidableEq,Inhabited
def dw.enc(o:dQ)(x:dw):List C:=[I x.To,I x.Addr]
def dw.enc_fz(x:dw):dJ (dw.enc .own x)=dw.enc .V x:=by simp[dJ,dw.enc]
def dw.enc_fr(x:dw):hC (dw.enc .own x):=⟨trivial,trivial,trivial⟩
def dw.wf(x:dw):Prop:=ng x.To/\ng x.Addr
def dw.sml(_:dw):Prop:=True
def cF(o:dQ)(x:List dw):List C:=[.s o (x.map (dw.enc o))]
def rK(x:List dw):dJ (cF .own x)=cF .V x:=by simp[dJ,cF,dw.enc_fz,<-bX,Y5]
theorem rG(x:List dw):hC (cF .own x):=⟨⟨.inl ψ,bj _ _ λy _=>dw.enc_fr y⟩,trivial⟩
def Ni(x:List dw):Prop:=x.length<=9223372036854775807/\∀y∈x,dw.wf y
def Ly(x:List dw):Prop:=x.length<=1048576/\∀y∈x,dw.sml y
def xh(o:dQ)(x:List (List dw)):List C:=[.s o (x.map (cF o))]
def KD(x:List (List dw)):Prop:=x.length<=9223372036854775807/\∀y∈x,Ni y
def HL(x:List (List dw)):Prop:=x.length<=1048576/\∀y∈x,Ly y
structure aN where
 U:List (List dw)
 y:List (List Int)
deriving DecidableEq,Inhabited
def aN.enc(o:dQ)(x:aN):List C:=[.s o (x.U.map (cF o)),.s o (x.y.map (aH o))]
def aN.enc_fz(x:aN):dJ (aN.enc .own x)=aN.enc .V x:=by simp[dJ,aN.enc,rK,dR,<-bX,Y5]
theorem aN.enc_fr(x:aN):hC (aN.enc .own x):=⟨⟨.inl ψ,bj _ _ λy _=>rG y⟩,⟨.inl ψ,bj _ _ λy _=>bP y⟩,trivial⟩
def aN.wf(x:aN):Prop:=KD x.U/\BF x.y
def aN.sml(x:aN):Prop:=HL x.U/\xD x.y
structure aT where
 Addr:Int
 d:Int
 b7:Int
deriving DecidableEq,Inhabited
def aT.enc(o:dQ)(x:aT):List C:=[I x.Addr,I x.d,I x.b7]
def aT.enc_fz(x:aT):dJ (aT.enc .own x)=aT.enc .V x:=by simp[dJ,aT.enc]
def aT.enc_fr(x:aT):hC (aT.enc .own x):=⟨trivial,trivial,trivial,trivial⟩
def aT.wf(x:aT):Prop:=ng x.Addr/\ng x.d/\ng x.b7
def aT.sml(_:aT):Prop:=True
def cX(o:dQ)(x:List aT):List C:=[.s o (x.map (aT.enc o))]
def EZ(x:List aT):dJ (cX .own x)=cX .V x:=by simp[dJ,cX,aT.enc_fz,<-bX,Y5]
theorem vr(x:List aT):hC (cX .own x):=⟨⟨.inl ψ,bj _ _ λy _=>aT.enc_fr y⟩,trivial⟩
def Kx(x:List aT):Prop:=x.length<=9223372036854775807/\∀y∈x,aT.wf y
def lC(x:List aT):Prop:=x.length<=1048576/\∀y∈x,aT.sml y
structure bM where
 c1:Int
 a6:List aT
deriving DecidableEq,Inhabited
def bM.enc(o:dQ)(x:bM):List C:=[I x.c1,.s o (x.a6.map (aT.enc o))]
def bM.enc_fz(x:bM):dJ (bM.enc .own x)=bM.enc .V x:=by simp[dJ,bM.enc,aT.enc_fz,<-bX,Y5]
theorem bM.enc_fr(x:bM):hC (bM.enc .own x):=⟨trivial,⟨.inl ψ,bj _ _ λy _=>aT.enc_fr y⟩,trivial⟩
def bM.wf(x:bM):Prop:=ng x.c1/\Kx x.a6
def bM.sml(x:bM):Prop:=lC x.a6
structure cx where
 a3:Int
 a1:Int
 T:List Int
deriving DecidableEq,Inhabited
def cx.enc(o:dQ)(x:cx):List C:=[I x.a3,I x.a1,.s o (x.T.map (rI o))]
def cx.enc_fz(x:cx):dJ (cx.enc .own x)=cx.enc .V x:=by simp[dJ,cx.enc,rI,<-bX,Y5]
theorem cx.enc_fr(x:cx):hC (cx.enc .own x):=⟨trivial,trivial,⟨.inl ψ,bj _ _ λy _=>qI y⟩,trivial⟩
def cx.wf(x:cx):Prop:=ng x.a3/\ng x.a1/\jo x.T
def cx.sml(x:cx):Prop:=rT x.T
structure cE where
 X:cx
 b0:Int
 b:Int
deriving DecidableEq,Inhabited
def cE.enc(o:dQ)(x:cE):List C:=[I x.X.a3,I x.X.a1,.s o (x.X.T.map (rI o)),I x.b0,I x.b]
def cE.enc_fz(x:cE):dJ (cE.enc .own x)=cE.enc .V x:=by simp[dJ,cE.enc,rI,<-bX,Y5]
theorem cE.enc_fr(x:cE):hC (cE.enc .own x):=⟨trivial,trivial,⟨.inl ψ,bj _ _ λy _=>qI y⟩,trivial,trivial,trivial⟩
def cE.wf(x:cE):Prop:=cx.wf x.X/\ng x.b0/\ng x.b
def cE.sml(x:cE):Prop:=cx.sml x.X
structure ac where
 G:am
 j:List aB
 J:List aA
 M:List aD
 O:List bt
 S:List aE
 w:aN
 a7:bM
 b3:Int
 b1:Int
 c0:Int
 b:Int
 u:Bool
 Y:cE
deriving DecidableEq,Inhabited
def ac.enc(o:dQ)(x:ac):List C:=[.s o (x.G.F.W.T.map (aH o)),.s o (x.G.F.W.a5.map (rB o)),.s o (x.G.F.R.K.map (bk.enc o)),I x.G.Calls,.s o (x.G.a0.map (rI o)),.s o (x.j.map (aB.enc o)),.s o (x.J.map (aA.enc o)),.s o (x.M.map (aD.enc o)),.s o (x.O.map (bt.enc o)),.s o (x.S.map (aE.enc o)),.s o (x.w.U.map (cF o)),.s o (x.w.y.map (aH o)),I x.a7.c1,.s o (x.a7.a6.map (aT.enc o)),I x.b3,I x.b1,I x.c0,I x.b,B x.u,I x.Y.X.a3,I x.Y.X.a1,.s o (x.Y.X.T.map (rI o)),I x.Y.b0,I x.Y.b]
def ac.enc_fz(x:ac):dJ (ac.enc .own x)=ac.enc .V x:=by simp[dJ,ac.enc,Ce,bk.enc_fz,aD.enc_fz,bt.enc_fz,aB.enc_fz,aA.enc_fz,aT.enc_fz,rB,rK,rI,dR,<-bX,Y5]
def CV:type_of% @ac.enc_fz:=@ac.enc_fz
theorem ac.enc_fr(x:ac):hC (ac.enc .own x):=⟨⟨.inl ψ,bj _ _ λy _=>bP y⟩,⟨.inl ψ,bj _ _ λy _=>E7 y⟩,⟨.inl ψ,bj _ _ λy _=>bk.enc_fr y⟩,trivial,⟨.inl ψ,bj _ _ λy _=>qI y⟩,⟨.inl ψ,bj _ _ λy _=>aB.enc_fr y⟩,⟨.inl ψ,bj _ _ λy _=>aA.enc_fr y⟩,⟨.inl ψ,bj _ _ λy _=>aD.enc_fr y⟩,⟨.inl ψ,bj _ _ λy _=>bt.enc_fr y⟩,⟨.inl ψ,bj _ _ λy _=>aE.enc_fr y⟩,⟨.inl ψ,bj _ _ λy _=>rG y⟩,⟨.inl ψ,bj _ _ λy _=>bP y⟩,trivial,⟨.inl ψ,bj _ _ λy _=>aT.enc_fr y⟩,trivial,trivial,trivial,trivial,trivial,trivial,trivial,⟨.inl ψ,bj _ _ λy _=>qI y⟩,trivial,trivial,trivial⟩
def ac.wf(x:ac):Prop:=am.wf x.G/\KP x.j/\NH x.J/\K5 x.M/\Qy x.O/\KF x.S/\aN.wf x.w/\bM.wf x.a7/\ng x.b3/\ng x.b1/\ng x.c0/\ng x.b/\Ub x.u/\cE.wf x.Y
def ac.sml(x:ac):Prop:=am.sml x.G/\gw x.j/\d9 x.J/\dM x.M/\M9 x.O/\H1 x.S/\aN.sml x.w/\bM.sml x.a7/\cE.sml x.Y
structure j8 where
 b5:Int
 c3:Int
 c7:Int
 c4:Int
deriving DecidableEq,Inhabited
def j8.enc(o:dQ)(x:j8):List C:=[I x.b5,I x.c3,I x.c7,I x.c4]
def j8.enc_fr(x:j8):hC (j8.enc .own x):=⟨trivial,trivial,trivial,trivial,trivial⟩
structure TZ where
 Id:Int
 q:Int
 Sum:Int
deriving DecidableEq,Inhabited
structure bD where
 Id:Int
 T:List Int
deriving DecidableEq,Inhabited
def bD.enc(o:dQ)(x:bD):List C:=[I x.Id,.s o (x.T.map (rI o))]
def bD.enc_fz(x:bD):dJ (bD.enc .own x)=bD.enc .V x:=by simp[dJ,bD.enc,rI,<-bX,Y5]
theorem bD.enc_fr(x:bD):hC (bD.enc .own x):=⟨trivial,⟨.inl ψ,bj _ _ λy _=>qI y⟩,trivial⟩
def bD.sml(x:bD):Prop:=rT x.T
def En(x:List bD):Prop:=x.length<=1048576/\∀y∈x,bD.sml y
structure aC where
 b:Int
 O:List bD
deriving DecidableEq,Inhabited
def aC.enc(o:dQ)(x:aC):List C:=[I x.b,.s o (x.O.map (bD.enc o))]
def aC.enc_fz(x:aC):dJ (aC.enc .own x)=aC.enc .V x:=by simp[dJ,aC.enc,bD.enc_fz,<-bX,Y5]
def Cg:type_of% @aC.enc_fz:=@aC.enc_fz
theorem aC.enc_fr(x:aC):hC (aC.enc .own x):=⟨trivial,⟨.inl ψ,bj _ _ λy _=>bD.enc_fr y⟩,trivial⟩
def aC.sml(x:aC):Prop:=En x.O
structure bp where
 Z:ac
 b2:aC
deriving DecidableEq,Inhabited
def bp.enc(o:dQ)(x:bp):List C:=[.s o (x.Z.G.F.W.T.map (aH o)),.s o (x.Z.G.F.W.a5.map (rB o)),.s o (x.Z.G.F.R.K.map (bk.enc o)),I x.Z.G.Calls,.s o (x.Z.G.a0.map (rI o)),.s o (x.Z.j.map (aB.enc o)),.s o (x.Z.J.map (aA.enc o)),.s o (x.Z.M.map (aD.enc o)),.s o (x.Z.O.map (bt.enc o)),.s o (x.Z.S.map (aE.enc o)),.s o (x.Z.w.U.map (cF o)),.s o (x.Z.w.y.map (aH o)),I x.Z.a7.c1,.s o (x.Z.a7.a6.map (aT.enc o)),I x.Z.b3,I x.Z.b1,I x.Z.c0,I x.Z.b,B x.Z.u,I x.Z.Y.X.a3,I x.Z.Y.X.a1,.s o (x.Z.Y.X.T.map (rI o)),I x.Z.Y.b0,I x.Z.Y.b,I x.b2.b,.s o (x.b2.O.map (bD.enc o))]
theorem bp.enc_fr(x:bp):hC (bp.enc .own x):=⟨⟨.inl ψ,bj _ _ λy _=>bP y⟩,⟨.inl ψ,bj _ _ λy _=>E7 y⟩,⟨.inl ψ,bj _ _ λy _=>bk.enc_fr y⟩,trivial,⟨.inl ψ,bj _ _ λy _=>qI y⟩,⟨.inl ψ,bj _ _ λy _=>aB.enc_fr y⟩,⟨.inl ψ,bj _ _ λy _=>aA.enc_fr y⟩,⟨.inl ψ,bj _ _ λy _=>aD.enc_fr y⟩,⟨.inl ψ,bj _ _ λy _=>bt.enc_fr y⟩,⟨.inl ψ,bj _ _ λy _=>aE.enc_fr y⟩,⟨.inl ψ,bj _ _ λy _=>rG y⟩,⟨.inl ψ,bj _ _ λy _=>bP y⟩,trivial,⟨.inl ψ,bj _ _ λy _=>aT.enc_fr y⟩,trivial,trivial,trivial,trivial,trivial,trivial,trivial,⟨.inl ψ,bj _ _ λy _=>qI y⟩,trivial,trivial,trivial,⟨.inl ψ,bj _ _ λy _=>bD.enc_fr y⟩,trivial⟩
structure Tf where
 a2:Int
 Mapped:Int
 W:Int
 Held:Int
 mM:Int
 Cached:Int
 c5:Int
 Posted:Int
deriving DecidableEq,Inhabited
def Lm{β:Type}{f:α->β}{l:List α}{K:Nat->Prop}(h:K l.length):Ln (l.map f).length K:=Ln.mk (C1 ..) h
def Wm{z:Int}{K:Int->Prop}(h : -9223372036854775808<=z/\z<=9223372036854775807)(a:K z):Wr .i64 z K:=CM (fQ h.1 h.2) a
variable{p:Prop}
def dT[Decidable p](h:p)(a:p->X):Bf (decide p) X Y:=.D a λe=>absurd h e
def dF[Decidable p](h:¬p)(a:¬p->Y):Bf (decide p) X Y:=.D (λe=>absurd e h) a
variable{b:Int}
def nT{a:Int}(h:a≠b)(c:a≠b->X):Bf (a != b) X Y:=.N c λe=>absurd e h
def nF{a:Int}(h:a=b)(c:a=b->Y):Bf (a != b) X Y:=.N (λe=>absurd h e) c
def eT{a:Int}(h:a=b)(c:a=b->X):Bf (a == b) X Y:=.E c λe=>absurd h e
def eF{a:Int}(h:a≠b)(c:a≠b->Y):Bf (a == b) X Y:=.E (λe=>absurd e h) c
def Bn{b:Bool}(h:Bf b Y X):Bf (!b) X Y:=.not h
def Bt(h:X):Bf true X Y:=.t rfl h
def Bu(h:Y):Bf false X Y:=.f rfl h
def Fm{b:Kd}(h1:k=b)(h:cs=a):jX k b cs a:=.mk h1 h
def dV[Decidable p](h:p)(a:X):Bf (decide p) X Y:=.D (λ_=>a) λe=>absurd h e
def dW[Decidable p](h:¬p)(a:Y):Bf (decide p) X Y:=.D (λe=>absurd e h) λ_=>a
def nV{a:Int}(h:a≠b)(c:X):Bf (a != b) X Y:=.N (λ_=>c) λe=>absurd e h
def nW{a:Int}(h:a=b)(c:Y):Bf (a != b) X Y:=.N (λe=>absurd h e) λ_=>c
def eV{a:Int}(h:a=b)(c:X):Bf (a == b) X Y:=.E (λ_=>c) λe=>absurd h e
def eW{a:Int}(h:a≠b)(c:Y):Bf (a == b) X Y:=.E (λe=>absurd e h) λ_=>c
structure KV(Y:Prop):Prop where
 out:Y
def gO(y:Y)(h:KV Y->X:=by intro y;(conv=>whnf);(first|with_reducible (first|refine Lm ?_|refine Wm ω ?_|refine Bn ?_|refine Fm rfl ?_)|refine Bt ?_|refine Bu ?_|fail);exact y.out):X:=h ⟨y⟩
def gP(y:Y)(h:KV Y->X:=by intro y;(conv=>whnf);(first|with_reducible (first|refine Lm ?_|refine Wm ω ?_|refine Bn ?_|refine Fm rfl ?_)|refine Bt ?_|refine Bu ?_|refine C8 (by assumption) ?_|refine CD (aa (by assumption)) ?_|refine CH rfl (aa (by assumption)) rfl ?_|refine CB ?_|fail);exact y.out):X:=h ⟨y⟩
def gD(y:Y)(h:KV Y->X:=by intro y;(conv=>whnf);(first|with_reducible (first|refine Lm ?_|refine Wm ω ?_|refine dV ω ?_|refine dW ω ?_|refine Bn ?_|refine Fm rfl ?_)|refine Bt ?_|refine Bu ?_|fail);exact y.out):X:=h ⟨y⟩
def gE(y:Y)(h:KV Y->X:=by intro y;(conv=>whnf);(first|with_reducible (first|refine Lm ?_|refine Wm ω ?_|refine dV ω ?_|refine dW ω ?_|refine Bn ?_|refine Fm rfl ?_)|refine Bt ?_|refine Bu ?_|refine C8 (by assumption) ?_|refine CD (aa (by assumption)) ?_|refine CH rfl (aa (by assumption)) rfl ?_|refine CB ?_|fail);exact y.out):X:=h ⟨y⟩
def gA(y:Y)(h:KV Y->X:=by intro y;(conv=>whnf);(first|with_reducible (first|refine Lm ?_|refine Wm ω ?_|refine dV ω ?_|refine dW ω ?_|refine nV ω ?_|refine nW ω ?_|refine eV ω ?_|refine eW ω ?_|refine Bn ?_|refine Fm rfl ?_)|refine Bt ?_|refine Bu ?_|fail);exact y.out):X:=h ⟨y⟩
def gB(y:Y)(h:KV Y->X:=by intro y;(conv=>whnf);(first|with_reducible (first|refine Lm ?_|refine Wm ω ?_|refine dV ω ?_|refine dW ω ?_|refine nV ω ?_|refine nW ω ?_|refine eV ω ?_|refine eW ω ?_|refine Bn ?_|refine Fm rfl ?_)|refine Bt ?_|refine Bu ?_|refine C8 (by assumption) ?_|refine CD (aa (by assumption)) ?_|refine CH rfl (aa (by assumption)) rfl ?_|refine CB ?_|fail);exact y.out):X:=h ⟨y⟩
def Ts{z1 z2:Int}(h:z1=z2):Qo (I z1) (I z2):=by subst h;rfl
def TF(c:C):Qo c c:=(mW [c]).1
def wA(h:X:=by repeat'(first|exact trivial|rfl|refine CL ?_ ?_)):X:=h
def wB(h:X:=by repeat'(first|exact trivial|rfl|refine CL ?_ ?_|(exact Ts (by first|omega|(simp only;omega)|(simp;omega))))):X:=h
def wC(h:X:=by repeat'(first|exact trivial|rfl|exact TF _|refine CL ?_ ?_|(exact Ts (by first|omega|(simp only;omega)|(simp;omega))))):X:=h
def fO(n : Nat){a : Func}(tb : List (Nat × Nat × List Nat))(d : Tryz.prog.funcs[f]? = some a)(e : a.body = some c)(g : aw Tryz.prog TE ⟨n, [], []⟩ (DF Tryz.prog TE ⟨n, [], []⟩ tb) c (Qw TE a.results.toList k rcs) (lay (vT 0 A)))(b : sh = true \/ hC rcs := by exact .inr ⟨trivial, trivial⟩)(h : (a.name == "runtime.NumGoroutine") = false := by kernel_rfl)(i : gj (nN tb) c = true := by kernel_rfl)(j : A.length + (a.ntmps - A.length) = n := by rfl) : zzA f sh A k rcs := Tc d h e i j b g
def fP(n : Nat){a : Func}(mo : List (Nat × List Nat))(tb : List (Nat × Nat × List Nat))(d : Tryz.prog.funcs[f]? = some a)(e : a.body = some c)(g : aw Tryz.prog TE ⟨n, [], mo⟩ (DF Tryz.prog TE ⟨n, [], mo⟩ tb) c (Qw TE a.results.toList k rcs) (lay (vT 0 A)))(b : sh = true \/ hC rcs := by exact .inr ⟨trivial, trivial⟩)(h : (a.name == "runtime.NumGoroutine") = false := by kernel_rfl)(i : gj (nN tb) c = true := by kernel_rfl)(j : A.length + (a.ntmps - A.length) = n := by rfl) : zzA f sh A k rcs := Tc d h e i j b g
def fM(n : Nat){a : Func}{A B : List MA}(mo : List (Nat × List Nat))(tb : List (Nat × Nat × List Nat))(b : List (Nat × Nat))(g : Tryz.prog.funcs[f]? = some a)(h : a.body = some c)(i : ∀(u : Nat -> Nat -> Value)(p : Nat -> Value), aw Tryz.prog TE ⟨n, JO p 0 A, mo⟩ (DF Tryz.prog TE ⟨n, JO p 0 A, mo⟩ tb) c (RI TE a.results.toList k rcs u A B b) (lay (xA u 0 A)))(d : sh = true \/ hC rcs := by exact .inr ⟨trivial, trivial⟩)(j : (a.name == "runtime.NumGoroutine") = false := by kernel_rfl)(l : gj (nN tb) c = true := by kernel_rfl)(o : A.length + (a.ntmps - A.length) = n := by rfl)(e : HJ (Ez 0 A b) = true := by rfl) : zzB f sh A B k rcs := Tp b g j h l o e d i
end Go.Proofs.YtiopgblagimpmaaGreat.Ab
