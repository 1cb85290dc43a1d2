/- A region that draws its order may be run in the text's order, where its operations are apart. No condition. -/
import Derived.Test.YtiopgblagimpmaaGreatKjb
import Derived.Orders
import Derived.Test.YtiopgblagimpmaaGreatKja
import Derived.KernelRfl
import Derived.Test.YtiopgblagimpmaaGreatProg
set_option linter.unusedVariables false
set_option linter.defProp false
set_option linter.unusedSimpArgs false
set_option linter.constructorNameAsVariable false
namespace Go.Proofs.YtiopgblagimpmaaGreat.Ab
open Go.RowKit
def cR(o:Oper)(i:Nat):Bool:=o.after.toList.any λe=>Region.binds .any e&&Nat.beq e.on i
def dd(ops:Array Oper)(i:Nat):Oper:=ops.getD i default
def below(n:Nat)(p:Nat->Bool):Bool:=(List.range n).all p
def sO(ops:Array Oper)(i j:Nat):Bool:=match(dd ops i).dst with|some d=>((dd ops j).looksAt ops).any (Nat.beq d)|none=>false
def DB:List Nat->Nat
 | []=>0
 | k::a=>2 ^ k ||| DB a
def ons(o:Oper):List Nat:=(o.after.toList.filter λe=>Region.binds .any e).map (·.on)
variable{α:Type}
def frc(n:Nat)(K:Nat->α):α:=match n with|0=>K 0|n+1=>K (n+1)
def Mq(n:Nat)(K:Nat->α):frc n K=K n:=by cases n<;>rfl
def clo(ops:Array Oper):Nat->Nat->Nat
 | 0,S=>S
 | k+1,S=>bif S.testBit k then frc (S ||| DB (ons (dd ops k))) (clo ops k) else clo ops k S
def Dx(ops:Array Oper)(m:Nat):Bool:=
 below ops.size λj=>((dd ops j).after.toList.all λe=>!Region.binds .any e || Nat.blt e.on j) &&
  (bif Nat.blt j m then below m (λi=>Nat.beq i j || ((cR (dd ops j) i || cR (dd ops i) j || (dd ops i).apart ops (dd ops j))&&(!sO ops i j || cR (dd ops j) i))) else frc (clo ops j (DB (ons (dd ops j)))) λS=>below j λi=>S.testBit i)
def wl:List (Nat × Nat × List Nat)->Nat->Option (Nat × List Nat)
 | [],_=>none
 | p::l,id=>bif Nat.beq id p.1 then some p.2 else wl l id
def fW(P:Program)(TE:Nat->Option TI)(N:eA)(ops:Array Oper)(o:Oper)(K:(Nat->AV)->Prop)(F:Nat->AV):Prop:=
 eU F ops o.guard (λF=>match o.dst with|some d=>cX P TE F o.op λa=>bN N F d a K|none=>False)
  (λF=>match o.dst with|some d=>bN N F d (.G (.tup []) []) K|none=>False)
def nj:Op->Option (Option Nat × Nat)
 | .buildSlice T 1 ps=>(match ps.toList with|[(0,.tmp s)]=>some (some T,s)|_=>none)
 | .move (.tmp s)=>some (none,s)
 | _=>none
def own1(T:Option Nat)(k:Kd)(cs:List C):Bool:=match T with
 | some _=>(match k with
   | .one=>(match cs with|[c]=>eP c|_=>false)
   | .agg=>(match cs with|[c]=>eP c|_=>false)
   | _=>false)
 | none=>(match k with|.tup _=>!bn cs|_=>false)
def Rn(TE:Nat->Option TI)(N:eA)(F:Nat->AV)(d:Nat)(T:Option Nat)(s:Nat)(K:(Nat->AV)->Prop):Prop:=match T with
 | some T=>fI TE N F d T 1 [(0,.tmp s)] K
 | none=>iw N F d (.tmp s) K
def Jz(F:Nat->AV)(o:Oper):Option (Option Nat × Nat):=
 match o.guard with
 | some _=>none
 | none=>match nj o.op with
  | none=>none
  | some p=>match F p.2 with
   | .G k cs=>bif own1 p.1 k cs then some p else none
   | .dead=>none
   | .ref ..=>none
   | .c0 ..=>none
   | .iref ..=>none
   | .fn ..=>none
   | .fv _=>none
def iN(ops:Array Oper)(o:Oper)(s:Nat):Bool:=
 ((List.range ops.size).any λk=>cR o k&&(match(dd ops k).dst with|some a=>Nat.beq a s|none=>false))&&Nat.ble (ops.toList.filter λk=>(k.looksAt ops).any (Nat.beq s)).length 1
def pJ(ds:List Nat)(o:Oper):Bool:=match o.dst with|some d=>ds.any (Nat.beq d)|none=>false
def twk:List Nat->List Nat
 | []=>[]
 | e::l=>bif Nat.ble 1000 e then(e - 1000)::twk l else []
def dec:List Nat->List (Nat × List Nat)
 | []=>[]
 | e::l=>bif Nat.ble 1000 e then dec l else(e,twk l)::dec l
def Qv:Op->Bool
 | .move (.tmp _)=>true
 | .assign _=>true
 | .extract ..=>true
 | .build ..=>true
 | .buildSlice ..=>true
 | .store ..=>true
 | .load ..=>true
 | .fieldAddr ..=>true
 | .field ..=>true
 | .binOp ..=>true
 | .unOp ..=>true
 | .call c=>(qg c).isSome
 | .slice _ _ none (some _) none=>true
 | _=>false
def oB:Op->Bool
 | .call c=>(match c.callee with|.value (.func _)=>true|_=>false)
 | _=>false
def xn(l:List (Nat × List Nat))(i:Nat):Bool:=l.any λp=>Nat.beq p.1 i
def uV(ops:Array Oper)(j i:Nat):Bool:=(clo ops j (DB (ons (dd ops j)))).testBit i
def Rp(o:Oper):Bool:=match o.guard with|none=>true|some _=>false
def RR(sch:List (Nat × List Nat))(i:Nat):Bool:=sch.any λp=>Nat.beq p.1 i&&!p.2.isEmpty
def R9(ops:Array Oper)(a b:Oper)(nm:Bool):Bool:=match b.dst with
 | none=>false
 | some c=>Rp a&&(Qv a.op || oB a.op)&&!(match a.dst with|some d=>Nat.beq d c|none=>false)&&!(a.looksAt ops).any (Nat.beq c)&&Rp b&&!(b.looksAt ops).any (Nat.beq c)&&(nm || match nj b.op with|none=>true|some p=>!iN ops b p.2)
def An(ops:Array Oper)(ds:List Nat)(nm:Nat->Bool)(i j:Nat):Bool:=
 bif pJ ds (dd ops j) then(bif pJ ds (dd ops i) then(cR (dd ops j) i || cR (dd ops i) j || (dd ops i).apart ops (dd ops j))&&(!sO ops i j || cR (dd ops j) i)&&!(match(dd ops i).dst with|some d=>(match(dd ops j).dst with|some e=>Nat.beq d e|none=>false)|none=>false) else true)
 else(bif pJ ds (dd ops i) then(uV ops j i || uV ops i j || R9 ops (dd ops j) (dd ops i) (nm i))&&(!sO ops i j || cR (dd ops j) i) else true)
def Fu(ops:Array Oper)(ds:List Nat):List (Nat × List Nat)->Bool
 | []=>true
 | k::l=>Nat.blt k.1 ops.size&&!xn l k.1&&((dd ops k.1).after.toList.all λe=>!Region.binds .any e || !(Nat.beq k.1 e.on || xn l e.on)) &&
  (pJ ds (dd ops k.1) || ((l.all λj=>uV ops j.1 k.1)&&(below ops.size λp=>!pJ ds (dd ops p) || xn l p || uV ops k.1 p || k.2.any (Nat.beq p))&&(!(l.any λj=>pJ ds (dd ops j.1)) || (Rp (dd ops k.1)&&(Qv (dd ops k.1).op || oB (dd ops k.1).op)))))&&Fu ops ds l
def B5(ops:Array Oper)(ds:List Nat)(sch:List (Nat × List Nat)):Bool:=
 (below ops.size λj=>((dd ops j).after.toList.all λe=>!Region.binds .any e || Nat.blt e.on j)&&xn sch j&&(!pJ ds (dd ops j) || (match nj (dd ops j).op with|none=>true|some p=>!iN ops (dd ops j) p.2 || ds.any (Nat.beq p.2)))&&below ops.size λi=>Nat.beq i j || An ops ds (RR sch) i j)&&Nat.beq sch.length ops.size&&Fu ops ds sch
def ni(tb:List (Nat × Nat × List Nat))(id:Nat)(ops:Array Oper):Bool:=
 match wl tb id with
 | some (m,ds)=>bif Nat.ble 65536 m then true else bif Nat.ble 256 m then B5 ops (ds.take (m - 256)) (dec (ds.drop (m - 256))) else(Nat.ble m ops.size&&below m λj=>match(dd ops j).dst with|some d=>ds.any (Nat.beq d)|none=>true)&&Dx ops m
 | none=>false
def lc(P:Program)(TE:Nat->Option TI)(N:eA)(ops:Array Oper)(o:Oper)(K:(Nat->AV)->Prop)(F:Nat->AV):Prop:=
 match Jz F o with
 | some p=>(match o.dst with|some d=>bif iN ops o p.2 then Rn TE N F d p.1 p.2 K else False|none=>False)
 | none=>fW P TE N ops o K F
def Mo(P:Program)(TE:Nat->Option TI)(N:eA)(ops:Array Oper):Nat->List Oper->((Nat->AV)->Prop)->(Nat->AV)->Prop
 | 0,l,K,F=>Kj P TE N ops l K F
 | _+1,[],K,F=>K F
 | m+1,o::l,K,F=>lc P TE N ops o (Mo P TE N ops m l K) F
def NM(ds:List Nat)(t:Nat):Bool:=ds.any (Nat.beq t)
def Td(ds:List Nat):AV->AV
 | .ref t off st=>bif NM ds t then .dead else .ref t off st
 | .c0 t off st ag=>bif NM ds t then .dead else .c0 t off st ag
 | .fn f caps=>bif caps.any (NM ds) then .dead else .fn f caps
 | .G k cs=>.G k cs
 | .iref r off=>.iref r off
 | .fv Ok=>.fv Ok
 | .dead=>.dead
def clr(ds:List Nat)(F:Nat->AV):Nat->AV:=λt=>Td ds (F t)
theorem Dd(ds:List Nat)(F:Nat->AV)(t:Nat):clr ds F t=bif ds.any (λd=>(F t).uses d) then .dead else F t:=by
 unfold clr;cases F t with
 | dead=>cases ds.any λd=>AV.uses d .dead<;>rfl
 | G k i=>
  have:ds.any (λd=>(AV.G k i).uses d)=false:=by
   rw[<-Z4,Y3]
   rintro⟨d,_,h⟩
   cases h
  rw[this];rfl
 | iref r a=>
  have:ds.any (λd=>(AV.iref r a).uses d)=false:=by
   rw[<-Z4,Y3]
   rintro⟨d,_,h⟩
   cases h
  rw[this];rfl
 | fv Ok=>
  have:ds.any (λd=>(AV.fv Ok).uses d)=false:=by
   rw[<-Z4,Y3]
   rintro⟨d,_,h⟩
   cases h
  rw[this];rfl
 | ref j a l=>rfl
 | c0 j a l n=>rfl
 | fn f caps=>
  have:ds.any (λd=>(AV.fn f caps).uses d)=caps.any (NM ds):=by
   rw[T4,Y3,Y3];constructor
   ·rintro⟨d,b,h⟩
    simp only[AV.uses,Y3]at h;obtain⟨c,e,g⟩:=h;exact⟨c,e,Y3.2 ⟨d,b,g⟩⟩
   rintro⟨c,e,h⟩
   obtain⟨d,b,g⟩:=Y3.1 h
   grind [AV.uses]
  rw[this];rfl
inductive Sm(a b:AV)(K:Prop):Prop
 |mk_ (h:a=b/\K)
def Sm.rf{a:AV}{K:Prop}(h:K):Sm a a K:=.mk_ ⟨rfl,h⟩
def C9:type_of% @Sm.rf:=@Sm.rf
def Sm.out{a b:AV}{K:Prop}(h:Sm a b K):a=b/\K:=h.1
def RD(P:Program)(TE:Nat->Option TI)(ops:Array Oper)(p:Nat)(K:Prop)(F:Nat->AV):Prop:=
 match(dd ops p).dst with
 | none=>False
 | some d=>(match Jz F (dd ops p) with
   | some _=>False
   | none=>cX P TE F (dd ops p).op λa=>Sm a (F d) K)
def LF(P:Program)(TE:Nat->Option TI)(ops:Array Oper):List Nat->Prop->(Nat->AV)->Prop
 | [],K,_=>K
 | p::l,K,F=>RD P TE ops p (LF P TE ops l K F) F
def MZ(P:Program)(TE:Nat->Option TI)(N:eA)(ops:Array Oper)(nm:Bool)(o:Oper)(K:(Nat->AV)->Prop)(F:Nat->AV):Prop:=
 match nm with
 | false=>lc P TE N ops o K F
 | true=>(match Jz F o with
   | some _=>False
   | none=>fW P TE N ops o K F)
def K7(P:Program)(TE:Nat->Option TI)(N:eA)(ops:Array Oper)(ds:List Nat)(nm:Nat->Bool):List (Nat × List Nat)->((Nat->AV)->Prop)->(Nat->AV)->Prop
 | [],K,F=>K F
 | k::l,K,F=>bif pJ ds (dd ops k.1) then MZ P TE N ops (nm k.1) (dd ops k.1) (K7 P TE N ops ds nm l K) F else iE P TE N ops (dd ops k.1) (λa=>LF P TE ops k.2 (K7 P TE N ops ds nm l K a) a) F
def Ph:List Nat->(List Nat->Prop)->Prop
 | [],K=>K []
 | a::l,K=>Ph l λb=>K (a::b)
def Jg:∀(l:List Nat)(K:List Nat->Prop),Ph l K=K l
 | [],_=>rfl
 | a::l,K=>by rw[Ph,Jg l]
def By(l:List Nat)(j:Nat):Bool:=l.any (Nat.beq j)
def Lj(ops:Array Oper)(done:List Nat):List Nat:=(List.range ops.size).filter λj=>!By done j&&((dd ops j).after.toList.all λe=>!Region.binds .any e || By done e.on)
def Tc(p:Nat->Prop):Nat->List Nat->Prop
 | i,[]=>p i
 | i,j::l=>p i/\Tc p j l
def Ti(l:List Nat)(K:Prop)(p:Nat->Prop):Prop:=match l with
 | []=>K
 | i::l=>Tc p i l
def Q2(P:Program)(TE:Nat->Option TI)(N:eA)(ops:Array Oper)(K:(Nat->AV)->Prop):Nat->List Nat->(Nat->AV)->Prop
 | 0,done,F=>Ti (Lj ops done) (K F) λ_=>False
 | n+1,done,F=>Ti (Lj ops done) (K F) λi=>iE P TE N ops (dd ops i) (Q2 P TE N ops K n (i::done)) F
def DD(P:Program)(TE:Nat->Option TI)(N:eA)(tb:List (Nat × Nat × List Nat))(id:Nat)(ops:Array Oper)(K:(Nat->AV)->Prop)(F:Nat->AV):Prop:=
 match wl tb id with
 | some (m,ds)=>bif Nat.ble 65536 m then Q2 P TE N ops K ops.size [] F else bif Nat.ble 256 m then Ph (ds.take (m - 256)) λa=>K7 P TE N ops a (RR (dec (ds.drop (m - 256)))) (dec (ds.drop (m - 256))) K (clr a F) else Mo P TE N ops m ops.toList K (clr ds F)
 | none=>False
variable{i n:Nat}
theorem gi{p:Nat->Bool}(h:below n p=true)(a:i<n):p i=true:=Z3.1 h i ψ
theorem cn{o:Oper} : cR o i=true↔∃e,e∈o.after/\Region.binds .any e=true/\e.on=i:=by grind [I2,Nat.beq_refl,cR]
theorem bu{ops:Array Oper}{o:Oper}(h:ops[i]? = some o):dd ops i=o:=by simp[dd,W5,h]
section
variable{P:Program}{w0 w w1:World}{M S0 S:af}{N:eA}{φ:Nat->af}{F:Nat->AV}{a:Act}{TE:Nat->Option TI}{ops:Array Oper}
variable{d:Nat}
theorem zo{b:Bool}(a:F d=.G .one [.v (.bool b)]):FH F d b=F:=by grind [I2,FH]
theorem hB(o:Oper)(t:Nat)(h:t∈dl o.op):t∈o.looksAt ops:=by grind [Go.Oper.looksAt,dl,tm]
structure Tf(P:Program)(TE:Nat->Option TI)(N:eA)(ops:Array Oper)(o:Oper)(F:Nat->AV)(d:Nat)(av:AV):Prop where
 dst:o.dst=some d
 lt:N.free d=true
 self:av.uses d=false
 from_:dS F (o.looksAt ops) av
 at_:∀F':Nat->AV,gz F F' (o.looksAt ops)->∀K':(Nat->AV)->Prop,K' (put F' d av)->fW P TE N ops o K' F'
def gz.refl(F:Nat->AV)(ts:List Nat):gz F F ts:=λ_ _=>⟨rfl,λ_ _ _ _ h=>h⟩
theorem CV:type_of% @gz.refl:=@gz.refl
variable{K:(Nat->AV)->Prop}{o:Oper}
theorem vI(h:fW P TE N ops o K F):∃d av,Tf P TE N ops o F d av/\K (put F d av):=by
 cases e:o.dst with
 | none=>
  exfalso;unfold fW at h;rw[e]at h;unfold eU at h
  grind [Bf.out]
 | some d=>
  have put1:∀{a:Nat->AV}{av:AV}{c:(Nat->AV)->Prop},N.free d=true->av.uses d=false->c (put a d av)->bN N a d av c:=λA B E=>by grind [bN]
  have put2:∀{a:Nat->AV}{av:AV}{c:(Nat->AV)->Prop},bN N a d av c->N.free d=true/\av.uses d=false/\c (put a d av):=fun {a av c} n=>by grind [bN]
  have pure1:cX P TE F o.op (λav=>bN N F d av K)->∃av,N.free d=true/\av.uses d=false/\K (put F d av)/\dS F (o.looksAt ops) av/\∀a:Nat->AV,gz F a (o.looksAt ops)->∀c:(Nat->AV)->Prop,c (put a d av)->cX P TE a o.op (λav=>bN N a d av c):=λn=>by
   obtain⟨av,A,B,E⟩:=jD n
   grind [dS.mono,hB,gz.mono]
  unfold fW at h;rw[e]at h;unfold eU at h;cases r:o.guard with
  | none=>
   rw[r]at h;obtain⟨av,i,k,l,w,C⟩:=pure1 h;exact⟨d,av,⟨e,i,k,w,λa f c t=>by unfold fW eU;simp_all⟩,l⟩
  | some p=>
   obtain⟨j,want⟩:=p;rw[r]at h;simp only at h;cases y:(ops[j]?).bind (·.dst) with
   | none=>grind
   | some u=>
    rw[y]at h;simp only at h;have q:u∈o.looksAt ops:=by grind [Go.Oper.looksAt]
    split at h
    case h_3=>exact h.elim
    case h_2=>
     rename_i J L g;obtain⟨i,k,l⟩:=put2 h;refine⟨d,.G (.tup []) [],⟨e,i,k,(λd e=>by cases e),λa f c t=>?_⟩,l⟩;unfold fW eU;rw[r,e];simp only;rw[y];simp only;rw[(f u q).1.trans g];exact put1 i k t
    rename_i b g;have same:∀{a:Nat->AV},gz F a (o.looksAt ops)->a u=.G .one [.v (.bool b)]:=λf=>(f u q).1.trans g
    have back:∀{a:Nat->AV}{c:(Nat->AV)->Prop},gz F a (o.looksAt ops)->(b=want->cX P TE a o.op (λav=>bN N a d av c))->(b = !want->bN N a d (.G (.tup []) []) c)->fW P TE N ops o c a:=fun {a c} f A B=>by
     unfold fW eU;rw[r,e];simp only;rw[y];simp only;rw[same f];simp only;refine Bf.P (λG=>?_) (λG=>?_)
     all_goals grind [zo]
    have D:=zo g;replace h:=Bf.out h;by_cases H:b=want
    ·have n:cX P TE F o.op (λav=>bN N F d av K):=ψ
     obtain⟨av,i,k,l,w,C⟩:=pure1 n;exact⟨d,av,⟨e,i,k,w,λa f c t=>back f (λ_=>C a f c t) ψ⟩,l⟩
    have n:bN N F d (.G (.tup []) []) K:=ψ
    obtain⟨i,k,l⟩:=put2 n;exact⟨d,.G (.tup []) [],⟨e,i,k,(λd e=>by cases e),ψ⟩,l⟩
def aft:AV->AV
 | .G k a=>.G k (splice a 0 (List.replicate a.length .x))
 | _=>.G .one [.x]
theorem Mw(v:AV)(e:Nat):(aft v).uses e=false:=by unfold aft;split<;>rfl
def eff(a:Option Nat)(d:Nat)(av:AV)(F:Nat->AV):Nat->AV:=λt=>if t=d then av else if a=some t then aft (F t) else F t
theorem Bg(av:AV)(a:∀t,(F t).uses d=false):put F d av=eff none d av F:=by grind [oM,ik,zD,eff]
variable{s:Nat}
theorem QF{v:AV}(h:v.uses s=false):rq s v=v:=by
 cases v with
 | c0 t a b c=>grind [AV.uses,rq]
 | ref t a b=>simp only[AV.uses]at h;cases b<;>simp[rq,h]
 | _=>rfl
theorem LV{k:Kd}{cs:List C}(av:AV)(a:F s=.G k cs)(c:∀t,(F t).uses d=false)(e:∀t,(F t).uses s=false):put (updH F s k (splice cs 0 (List.replicate cs.length .x))) d av=eff (some s) d av F:=by
 funext t
 unfold eff;by_cases h:t=d
 ·grind [oM]
 rw[ik _ _ h,C8 h];by_cases b:t=s
 ·subst b;rw[hJ,CA rfl,a];rfl
 grind [Nat.beq_eq,QF,zD,updH]
theorem GW{T:Nat}{k:Kd}{c:C}(o:k=.one\/k=.agg)(p:F s=.G k [c])(q:eP c=true)(h:fI TE N F d T 1 [(0,.tmp s)] K) :
  ∃av,N.free d=true/\(∀e,av.uses e=false)/\K (put (updH F s k [.x]) d av)/\∀(F':Nat->AV)(b:(Nat->AV)->Prop),F' s=.G k [c]->b (put (updH F' s k [.x]) d av)->fI TE N F' d T 1 [(0,.tmp s)] b:=by
 have key:∀F':Nat->AV,F' s=.G k [c]->∀b:(Nat->AV)->Prop,fI TE N F' d T 1 [(0,.tmp s)] b=GE TE T λ_ a=>bif Nat.ble (1*a.size) 16777216 then(bif Nat.beq 1 a.size&&Nat.ble (0*a.size+a.size) (rep a.zero 1).length then bN N (updH F' s k [.x]) d (.G .one [.s .own (chunk a.size 1 (splice (rep a.zero 1) (0*a.size) [c]))]) b else False) else False:=by
  intro F' f b;unfold fI
  congr 1
  funext e a
  rcases o with rfl|rfl<;>simp only[cY,fillW,Tg,uy,mF,f,gY,bn,q,cond_true,cond_false,gg,oV,List.length_singleton,List.replicate]
  all_goals rfl
 rw[key F p]at h;obtain⟨e,a,g,n⟩:=gT h;cases i:Nat.ble (1*a.size) 16777216 with
 | false=>grind
 | true=>
  cases j:(Nat.beq 1 a.size&&Nat.ble (0*a.size+a.size) (rep a.zero 1).length) with
  | false=>grind
  | true=>
   rw[i,j]at g;simp only[cond_true]at g;unfold bN at g;cases l:N.free d with
   | false=>grind
   | true=>
    rw[l]at g;refine⟨_,rfl,λ_=>rfl,g,λF' b f r=>?_⟩
    grind [bN]
variable{T:Option Nat}
theorem Rf{k:Kd}{cs:List C}(j:F s=.G k cs)(l:own1 T k cs=true)(h:Rn TE N F d T s K) :
  ∃av,N.free d=true/\(∀e,av.uses e=false)/\K (put (updH F s k (splice cs 0 (List.replicate cs.length .x))) d av)/\∀(F':Nat->AV)(a:(Nat->AV)->Prop),F' s=.G k cs->a (put (updH F' s k (splice cs 0 (List.replicate cs.length .x))) d av)->Rn TE N F' d T s a:=by
 cases T with
 | some T=>
  have f:(k=.one\/k=.agg)/\∃c,cs=[c]/\eP c=true:=by
   unfold own1 at l
   grind
  obtain⟨n,c,rfl,o⟩:=f;exact GW n j o h
 | none=>
  have f:∃b,k=.tup b/\bn cs=false:=by
   unfold own1 at l
   grind
  obtain⟨b,rfl,p⟩:=f;have key:∀F':Nat->AV,F' s=.G (.tup b) cs->∀a,Rn TE N F' d none s a=bN N (updH F' s (.tup b) (splice cs 0 (List.replicate cs.length .x))) d (.G (.tup b) cs) a:=λF' g a=>by grind [Rn,iw]
  rw[key F j]at h;unfold bN at h;cases i:N.free d with
  | false=>grind
  | true=>
   rw[i]at h;refine⟨_,rfl,λ_=>rfl,h,λF' a g q=>?_⟩
   grind [bN]
structure Yl(P:Program)(TE:Nat->Option TI)(N:eA)(ops:Array Oper)(o:Oper)(F:Nat->AV)(mv:Option Nat)(d:Nat)(av:AV):Prop where
 dst:o.dst=some d
 lt:N.free d=true
 self:av.uses d=false
 from_:dS F (o.looksAt ops) av
 mvl:∀s,mv=some s->o.guard=none/\(∃T,nj o.op=some (T,s))/\iN ops o s=true
 at_:∀F':Nat->AV,gz F F' (o.looksAt ops)->(∀t,(F' t).uses d=false)->(∀s,mv=some s->∀t,(F' t).uses s=false)->∀K':(Nat->AV)->Prop,K' (eff mv d av F')->lc P TE N ops o K' F'
theorem Hu{o:Op}(h:nj o=some (T,s)):(∃a ps,T=some a/\o=.buildSlice a 1 ps/\ps.toList=[(0,.tmp s)])\/(T=none/\o=.move (.tmp s)):=by
 unfold nj at h
 grind
theorem cO(h:nj o.op=some (T,s)):s∈o.looksAt ops:=by
 refine hB o s ?_;unfold dl;refine List.mem_flatMap.2 ⟨.tmp s,?_,by simp[tm]⟩
 grind [Hu,Go.Op.operands]
theorem Ed{p:Option Nat × Nat}(h:Jz F o=some p):o.guard=none/\nj o.op=some p/\∃k cs,F p.2=.G k cs/\own1 p.1 k cs=true:=by grind [Jz]
theorem v6{F':Nat->AV}(a:gz F F' (o.looksAt ops)):Jz F' o=Jz F o:=by
 unfold Jz;cases c:o.guard with
 | some _=>rfl
 | none=>
  cases b:nj o.op with
  | none=>rfl
  | some p=>simp only;rw[(a p.2 (cO b)).1]
theorem sj(c:Jz F o=none)(h:fW P TE N ops o K F)(e:∀d,o.dst=some d->∀t,(F t).uses d=false):∃d av,Yl P TE N ops o F none d av/\K (eff none d av F):=by
 obtain⟨d,av,a,f⟩:=vI h;refine⟨d,av,⟨a.dst,a.lt,a.self,a.from_,ψ,λg i j _ k b=>?_⟩,by grind [Bg,Tf.dst]⟩
 grind [v6,Tf.at_,Bg,lc]
theorem p7(h:lc P TE N ops o K F)(E:∀d,o.dst=some d->∀t,(F t).uses d=false)(y:∀T s,o.guard=none->nj o.op=some (T,s)->iN ops o s=true->∀t,(F t).uses s=false) :
  ∃r d av,Yl P TE N ops o F r d av/\K (eff r d av F):=by
 unfold lc at h;cases f:Jz F o with
 | none=>
  grind [sj]
 | some p=>
  rw[f]at h;obtain⟨G,a,k,H,g,b⟩:=Ed f;simp only at h;cases i:o.dst with
  | none=>grind
  | some d=>
   rw[i]at h;simp only at h;cases c:iN ops o p.2 with
   | false=>grind
   | true=>
    rw[c]at h;simp only[cond_true]at h;obtain⟨av,A,u,J,B⟩:=Rf g b h;refine⟨some p.2,d,av,⟨i,A,u d,λe w=>(by rw[u e]at w;cases w),λs y=>?_,λC j l n D q=>?_⟩,?_⟩
    ·grind
    ·unfold lc
     rw[v6 j,f];simp only;rw[i];simp only;rw[c];refine B C D ((j p.2 (cO a)).1.trans g) ?_;rw[LV av ((j p.2 (cO a)).1.trans g) l (n p.2 rfl)];exact q
    grind [LV]
theorem K5{nm:Bool}(h:MZ P TE N ops nm o K F)(b:∀d,o.dst=some d->∀t,(F t).uses d=false)(c:∀T s,o.guard=none->nj o.op=some (T,s)->iN ops o s=true->∀t,(F t).uses s=false) :
  ∃a d av,Yl P TE N ops o F a d av/\K (eff a d av F)/\(nm=true->a=none):=by
 unfold MZ at h
 grind [p7,sj]
end
section
variable{P:Program}{w0 w w1:World}{M S0 S:af}{N:eA}{φ:Nat->af}{F:Nat->AV}{a:Act}{TE:Nat->Option TI}{ops:Array Oper}
def vM(P:Program)(TE:Nat->Option TI)(N:eA)(ops:Array Oper)(m i:Nat)(K:(Nat->AV)->Prop)(F:Nat->AV):Prop:=
 match ops[i]? with
 | none=>K F
 | some o=>if i<m then lc P TE N ops o K F else iE P TE N ops o K F
def Gl(P:Program)(TE:Nat->Option TI)(N:eA)(ops:Array Oper)(m:Nat)(K:(Nat->AV)->Prop):Nat->Array Bool->(Nat->AV)->Prop
 | 0,listed,F=>Region.ready .any ops listed=[]/\K F
 | fuel+1,listed,F=>(Region.ready .any ops listed=[]->K F)/\∀i,i∈Region.ready .any ops listed->vM P TE N ops m i (Gl P TE N ops m K fuel (listed.setIfInBounds i true)) F
variable{Q:Exit->Act->World->Prop}{Kc:Act->World->Prop}{K:(Nat->AV)->Prop}{o:Oper}
theorem aZ.oneP0(h:aZ w0 M S0 N S φ F a w)(c:∀t i,TE t=some i->bJ P t i)(b:fW P TE N ops o K F)(p:∀F' j e,K F'->St w0 M S0 N F' j e->Kc j e) :
  if Region.wanted o (yielded ops a.tmps) then o.wp P a w Kc Q else Kc (a.put o.dst undef) w:=by
 unfold fW at b;rcases xM h b with⟨f,b⟩|⟨f,b⟩
 ·rw[f,CA rfl]
  cases g:o.dst with
  | none=>grind
  | some d=>
   rw[g]at b;obtain⟨av,k,l⟩:=h.pure_ c b;refine l Kc Q λv e q=>?_
   grind [aZ.putD_new]
 rw[f,C8 (by simp)];cases g:o.dst with
 | none=>grind
 | some d=>
  rw[g]at b;obtain⟨F',k,n⟩:=h.putD_new (v:=undef) (lw.same (av:=.G (.tup []) []) M1) b
  grind
variable{d:Nat}
def Km{p:Option Nat × Nat}(f:Jz F o=some p)(c:o.dst=some d)(h:Rn TE N F d p.1 p.2 K):iE P TE N ops o K F:=by
 obtain⟨e,a,-⟩:=Ed f;obtain⟨T,s⟩:=p;rcases Hu a with⟨i,j,rfl,b,g⟩|⟨rfl,b⟩
 ·unfold iE eU
  rw[e];simp only;rw[b];simp only[zC];rw[c];simp only[ka,g];exact h
 unfold iE eU;rw[e];simp only;rw[b];simp only[zC];rw[c];simp only[ka];exact h
theorem aZ.oneP(h:aZ w0 M S0 N S φ F a w)(c:∀t i,TE t=some i->bJ P t i)(b:lc P TE N ops o K F)(g:∀F' j k,K F'->St w0 M S0 N F' j k->Kc j k) :
  if Region.wanted o (yielded ops a.tmps) then o.wp P a w Kc Q else Kc (a.put o.dst undef) w:=by
 unfold lc at b;cases e:Jz F o with
 | none=>rw[e]at b;exact h.oneP0 c b g
 | some p=>
  rw[e]at b;simp only at b;cases l:o.dst with
  | none=>grind
  | some d=>
   rw[l]at b;simp only at b;cases f:iN ops o p.2 with
   | false=>grind
   | true=>
    rw[f]at b;have:=h.one c (Km (P:=P) (ops:=ops) e l b) (Q:=Q) g
    grind
variable{m i:Nat}
theorem G7(c:∀t i,TE t=some i->bJ P t i)(b:vM P TE N ops m i K F)(g:St w0 M S0 N F a w)(d:∀F' e f,K F'->St w0 M S0 N F' e f->Kc e f):wpOp P ops Q i Kc a w:=by
 unfold vM at b;unfold wpOp;cases j:ops[i]? with
 | none=>grind
 | some o=>
  rw[j]at b;simp only at b |-;obtain⟨S,φ,h⟩:=g;have:if Region.wanted o (yielded ops a.tmps) then o.wp P a w Kc Q else Kc (a.put o.dst undef) w:=by
   split at b
   ·exact h.oneP c b d
   exact h.one c b d
  grind
def Al(b:∀t i,TE t=some i->bJ P t i){m:Nat}{K:(Nat->AV)->Prop}{Q:Exit->Act->World->Prop}(g:∀F' d e,K F'->St w0 M S0 N F' d e->Q .normal d e) :
  ∀(fuel:Nat)(listed:Array Bool)(F:Nat->AV)(a:Act)(w:World),Gl P TE N ops m K fuel listed F->St w0 M S0 N F a w->wpAny P .any ops Q fuel listed a w
 | 0,_,F,a,w,c,f=>⟨c.1,g F a w c.2 f⟩
 | fuel+1,_,F,a,w,c,f=>⟨λj=>g F a w (c.1 j) f,λi k=>G7 b (c.2 i k) f λF' d e l h=>Al b g fuel _ F' d e l h⟩
structure zX(ops:Array Oper)(m:Nat)(F:Nat->AV)(listed:Array Bool):Prop where
 dst:∀j o d,j<m->ops[j]? = some o->listed.getD j true=false->o.dst=some d->∀t,(F t).uses d=false
 mv:∀j o T s,j<m->ops[j]? = some o->listed.getD j true=false->o.guard=none->nj o.op=some (T,s)->iN ops o s=true->∀t,(F t).uses s=false
def DC(ops:Array Oper)(listed:Array Bool):Prop:=∀j a,ops[j]? = some a->listed.getD j false=true->∀k,cR a k=true->listed.getD k false=true
variable{e:Nat}
theorem Pc{v:AV}(h:(kl d v).uses e=true):v.uses e=true/\v.uses d=false:=by
 rw[zD]at h;cases a:v.uses d with
 | true=>rw[a]at h;cases h
 | false=>grind
theorem wa{α:Type}{p:α->Bool} : ∀{l:List α}{i j:Nat}{x y:α},(l.filter p).length<=1->l[i]? = some x->l[j]? = some y->p x=true->p y=true->i=j
 | [],_,_,_,_,_,h,_,_,_=>by simp at h
 | a::l,0,0,_,_,_,_,_,_,_=>rfl
 | a::l,i+1,j+1,x,y,h,b,c,d,e=>by
  rw[wa (l:=l) (U4 (List.Sublist.length_le ((List.sublist_cons_self a l).filter p)) h) b c d e]
 | a::l,0,j+1,x,y,h,b,c,d,e=>by
  simp only[List.getElem?_cons_zero,Z0]at b;subst b;rw[List.filter_cons_of_pos d]at h;have:y∈l.filter p:=C4.2 ⟨C2 c,e⟩;have:=List.length_pos_of_mem this;rw[List.length_cons]at h;omega
 | a::l,i+1,0,x,y,h,b,c,d,e=>by
  simp only[List.getElem?_cons_zero,Z0]at c;subst c;rw[List.filter_cons_of_pos e]at h;have:x∈l.filter p:=C4.2 ⟨C2 b,d⟩;have:=List.length_pos_of_mem this;rw[List.length_cons]at h;omega
variable{j:Nat}{listed:Array Bool}
theorem hO{a:Nat}(b:(listed.setIfInBounds j true).getD a true=false):a≠j:=λe=>by simp_all
variable{av:AV}{t:Nat}
theorem jP{a:Option Nat}(b:av.uses e=false)(c:(F t).uses e=false):(eff a d av F t).uses e=false:=by grind [Mw,eff]
theorem zX.put{o:Option Nat}(h:zX ops m F listed)(p:∀a b g,a<m->a≠j->ops[a]? = some b->listed.getD a true=false->b.dst=some g->av.uses g=false)(q:∀a b T s,a<m->a≠j->ops[a]? = some b->listed.getD a true=false->b.guard=none->nj b.op=some (T,s)->iN ops b s=true->av.uses s=false) :
  zX ops m (eff o d av F) (listed.setIfInBounds j true):=by
 refine⟨λa b g i c e k t=>?_,λa b T s i c e r l n t=>?_⟩
 ·have f:=hO e
  rw[getD_set_ne true (Ne.symm f)]at e;exact jP ψ (h.dst a b g i c e k t)
 have f:=hO e;rw[getD_set_ne true (Ne.symm f)]at e;exact jP ψ (h.mv a b T s i c e r l n t)
inductive n8(ops:Array Oper):Nat->Nat->Prop
 |one {j i:Nat} (h:cR (dd ops j) i=true):n8 ops j i
 |step {j k i:Nat} (h:cR (dd ops j) k=true) (h2:n8 ops k i):n8 ops j i
def n8.trans{k:Nat}(h:n8 ops j k)(a:n8 ops k i):n8 ops j i:=by
 induction h with
 | one h=>exact .step h a
 | step h _ b=>exact .step h (b a)
theorem EP{i:Nat} : ∀{a:List Nat},(DB a).testBit i=true->i∈a
 | [],h=>by simp[DB]at h
 | k::a,h=>by
  rw[DB,Nat.testBit_or,T5]at h;rcases h with h|h
  ·grind
  exact Y4 _ (EP h)
theorem yn(h:(DB (ons o)).testBit i=true):cR o i=true:=by
 have:=EP h
 grind [cn,ons]
def rr{j:Nat} : ∀(k S:Nat),(∀i,S.testBit i=true->n8 ops j i)->∀i,(clo ops k S).testBit i=true->n8 ops j i
 | 0,_,h,i,a=>h i a
 | k+1,S,h,i,a=>by
  rw[clo,Mq]at a;cases c:S.testBit k with
  | false=>rw[c]at a;exact rr k S h i a
  | true=>
   rw[c]at a;refine rr k _ (λe b=>?_) i a;rw[Nat.testBit_or,T5]at b;rcases b with d|d
   ·exact h e d
   exact(h k c).trans (.one (yn d))
theorem mX(d:DC ops listed)(b:∀j n,ops[j]? = some n->∀e∈n.after,Region.binds .any e=true->e.on<j)(o:n8 ops j i):j<ops.size->(∀k,cR (dd ops j) k=true->listed.getD k false=true)->listed.getD i false=true:=by
 induction o with
 | one h=>grind
 | @step j k i h h2 ih=>
  intro f p;have r:k<j:=by
   have c:=(show ops[j]? = some ops[j] from U5 f)
   rw[bu c]at h;obtain⟨e,g,l,rfl⟩:=cn.1 h;exact b j _ c e g l
  have a:k<ops.size:=ω
  have c:=(show ops[k]? = some ops[k] from U5 a)
  exact ih a λq a=>d k _ c (p k h) q (by rw[bu c]at a;exact a)
theorem DC.put(h:DC ops listed)(d:j∈Region.ready .any ops listed):DC ops (listed.setIfInBounds j true):=by
 obtain⟨l,n,f,b⟩:=mem_ready.1 d;intro k ok g c e i;by_cases a:k=j
 ·grind [cn,Go.getD_set_true]
 rw[getD_set_ne false (Ne.symm a)]at c;exact getD_set_true (h k ok g c e i)
theorem fK{s:Nat}(h:iN ops o s=true):(∃k ok,cR o k=true/\ops[k]? = some ok/\ok.dst=some s)/\∀(i j:Nat)(a b:Oper),ops[i]? = some a->ops[j]? = some b->s∈a.looksAt ops->s∈b.looksAt ops->i=j:=by
 unfold iN at h;rw[I0]at h;obtain⟨q,c⟩:=h;constructor
 ·grind [bu,I2]
 intro i j a b d e f g;have l:=I1 c;have n:ops.toList[i]? = some a:=by simpa using d
 have p:ops.toList[j]? = some b:=by simpa using e
 grind [Nat.beq_refl,wa]
structure QM(ops:Array Oper)(m:Nat):Prop where
 back:∀j oj,ops[j]? = some oj->∀e∈oj.after,Region.binds .any e=true->e.on<j
 tail:∀j,m<=j->j<ops.size->∀i,i<j->n8 ops j i
 apart:∀i j oi oj,i<m->j<m->i≠j->ops[i]? = some oi->ops[j]? = some oj->cR oj i=true\/cR oi j=true\/oi.apart ops oj=true
 look:∀i j oi oj d,i<m->j<m->i≠j->ops[i]? = some oi->ops[j]? = some oj->oi.dst=some d->d∈oj.looksAt ops->cR oj i=true
theorem Ft(h:Dx ops m=true):QM ops m:=by
 have o:∀j b,ops[j]? = some b->_:=λj b a=>gi h (U3.1 a).1
 refine⟨λj b a e t p=>?_,λj u a i f=>?_,λi j q b f a g r k=>?_,λi j q b d f a g r k w y=>?_⟩
 ·grind [bu,Nat.blt_eq]
 ·have l:=(show ops[j]? = some ops[j] from U5 a)
  have:=o j _ l;simp only[I0]at this;have c:=this.2;rw[show Nat.blt j m=false by rw[<-Z4,Nat.blt_eq];omega]at c;simp only[cond_false,Mq]at c;exact rr j _ (λA n=>.one (yn n)) i (gi c f)
 ·grind [bu,Nat.blt_eq,gi,Nat.beq_eq]
 have:=o j b k;rw[bu k]at this;simp only[I0]at this;have c:=this.2;rw[show Nat.blt j m=true by simpa[Nat.blt_eq] using a]at c
 grind [gi,bu,Nat.beq_eq,sO]
theorem K4(V:QM ops m){c:Oper}{u:Option Nat}(R:ops[i]? = some c)(w:i<m) :
  ∀(fuel:Nat)(listed:Array Bool)(F:Nat->AV),i∈Region.ready .any ops listed->zX ops m F listed->DC ops listed->Yl P TE N ops c F u d av->Gl P TE N ops m K fuel (listed.setIfInBounds i true) (eff u d av F)->Gl P TE N ops m K (fuel+1) listed F:=by
 have self:∀(listed:Array Bool)(F:Nat->AV),i∈Region.ready .any ops listed->zX ops m F listed->Yl P TE N ops c F u d av->∀S:(Nat->AV)->Prop,S (eff u d av F)->lc P TE N ops c S F:=λlisted F W a g S hK=>by
  have b:=(mem_ready.1 W).1;refine g.at_ F (CV _ _) (a.dst i c d w R b g.dst) (λs X=>?_) S hK;obtain⟨A,⟨T,h2⟩,h3⟩:=g.mvl s X;exact a.mv i c T s w R b A h2 h3
 intro fuel
 induction fuel with
 | zero=>
  intro listed F W a E g H;refine⟨ψ,λj Y=>?_⟩;by_cases n:j=i
  ·grind [vM]
  have:=ready_mono Y n;rw[H.1]at this;cases this
 | succ fuel ih=>
  intro listed F W a E g H;refine⟨ψ,λj Y=>?_⟩;by_cases n:j=i
  ·grind [vM]
  have A:=H.2 j (ready_mono Y n);obtain⟨B,f,o,hall⟩:=mem_ready.1 Y;have b:=(mem_ready.1 W).1;have unl:∀k,listed.getD k true=false->listed.getD k false=true->False:=ψ
  have noedge:∀k ok,ops[k]? = some ok->listed.getD k true=false->cR f k=false:=λk ok hk Z=>by grind [cn]
  have noedge':∀k ok,ops[k]? = some ok->listed.getD k true=false->cR c k=false:=λk ok hk Z=>by grind [cn,Go.mem_ready]
  have G:j<m:=by
   rcases Nat.lt_or_ge j m with h|h
   ·exact h
   have C:=(U3.1 o).1;refine(unl i b (mX E V.back (V.tail j h C i ω) C λk hk=>?_)).elim
   grind [bu,cn]
  have hap:c.apart ops f=true:=by grind [QM.apart]
  obtain⟨ap1,ap2,ap3⟩:=Oper.apart_spec hap;unfold vM at A |-;rw[o]at A |-;simp only[CA G]at A |-;have hdl:d∉f.looksAt ops:=ap1 d g.dst;have cd:∀t,(F t).uses d=false:=a.dst i c d w R b g.dst
  have cdj':∀l,f.dst=some l->∀t,(F t).uses l=false:=λl J=>a.dst j f l G o B J
  have cmv:∀s,u=some s->(∀t,(F t).uses s=false)/\s∉f.looksAt ops/\s∈c.looksAt ops:=λs X=>by
   obtain⟨L,⟨T,q⟩,r⟩:=g.mvl s X;exact⟨a.mv i c T s w R b L q r,λhl=>n ((fK r).2 i j c f R o (cO q) hl).symm,cO q⟩
  have cmvj:∀T s,f.guard=none->nj f.op=some (T,s)->iN ops f s=true->(∀t,(F t).uses s=false)/\s∉c.looksAt ops/\s∈f.looksAt ops:=λT s L q r=>
   ⟨a.mv j f T s G o B L q r,λhl=>n ((fK r).2 i j c f R o hl (cO q)).symm,cO q⟩
  have avno:∀e,e∉c.looksAt ops->(∀t,(F t).uses e=false)->av.uses e=false:=λe A h2=>by
   cases hu:av.uses e with
   | false=>rfl
   | true=>
    rcases g.from_ e hu with h|⟨t,_,h⟩
    all_goals grind
  obtain⟨mvj,l,avj,p,hKj⟩:=p7 A (λl J t=>jP ψ (cdj' l J t)) (λT s L q r t=>by grind [jP]);have hdne:d≠l:=λe=>ap2 d g.dst (by rw[p.dst,e])
  have hdjl:l∉c.looksAt ops:=ap3 l p.dst;have cdj:∀t,(F t).uses l=false:=cdj' l p.dst
  have cmj:∀s,mvj=some s->(∀t,(F t).uses s=false)/\s∉c.looksAt ops/\s∈f.looksAt ops:=λs X=>by
   obtain⟨L,⟨T,q⟩,r⟩:=p.mvl s X
   grind
  have lookj:∀t,t∈f.looksAt ops->eff u d av F t=F t:=λt U=>by grind [eff]
  have looki:∀t,t∈c.looksAt ops->eff mvj l avj F t=F t:=λt U=>by grind [eff]
  have avjno:∀e,e∉f.looksAt ops->(∀t,(F t).uses e=false)->avj.uses e=false:=λe A h2=>by
   cases hu:avj.uses e with
   | false=>rfl
   | true=>
    rcases p.from_ e hu with h|⟨t,U,h⟩
    all_goals grind
  have agrj:gz (eff u d av F) F (f.looksAt ops):=λt U=>by grind [eff]
  refine p.at_ F agrj cdj ψ _ (ih (listed.setIfInBounds j true) (eff mvj l avj F) (ready_mono W (Ne.symm n)) (a.put (λj' o' d' M D y O Q=>?_) (λj' o' T s M D y O L q r=>?_)) (E.put Y) ?_ ?_)
  ·refine avjno d' (λh=>?_) (a.dst j' o' d' M y O Q)
   grind [QM.look]
  ·exact avjno s (λh=>D ((fK r).2 j' j o' f y o (cO q) h)) (a.mv j' o' T s M y O L q r)
  ·refine⟨g.dst,g.lt,g.self,λe he=>?_,g.mvl,λF' hA Q hs' S hK=>g.at_ F' (λt U=>?_) Q hs' S hK⟩
   ·rcases g.from_ e he with h|⟨t,U,h⟩
    all_goals grind
   obtain⟨a1,a2⟩:=hA t U
   grind [eff]
  rw[Array.setIfInBounds_comm _ _ n];have:eff u d av (eff mvj l avj F)=eff mvj l avj (eff u d av F):=by grind [eff]
  grind
theorem jj{o:Op}{K a:AV->Prop}(h:cX P TE F o K)(b:∀av,K av->a av):cX P TE F o a:=by
 obtain⟨av,c,-,d⟩:=jD h
 grind [CV]
theorem bq{a:(Nat->AV)->Prop}(h:bN N F d av K)(b:∀F',K F'->a F'):bN N F d av a:=by grind [bN]
variable{y:Operand}
theorem eo{K b:(Nat->AV)->Option Nat->List C->Prop}(h:gg F y K)(g:∀F' ag cs,K F' ag cs->b F' ag cs):gg F y b:=by
 cases y with
 | tmp t=>
  simp only[gg]at h |-;cases d:F t with
  | G k cs=>
   grind
  | c0 e f c ag=>
   rw[d]at h;cases c with
   | cons s c=>
    simp only at h |-;cases a:F e with
    | G k cs=>
     rw[a]at h;obtain⟨r,j,i,l,n,o⟩:=Lq.out h;exact .mk_ ψ
    | _=>grind
   | nil=>
    grind
  | _=>grind
 | _=>exact h.elim
variable{x:Operand}
theorem zZ{K a:AV->Prop}(h:bx F x K)(b:∀av,K av->a av):bx F x a:=by
 obtain⟨av,c,-,d⟩:=jJ h
 grind [CV]
theorem DH{a:(Nat->AV)->Prop}(h:k4 N F d x K)(j:∀F',K F'->a F'):k4 N F d x a:=by
 have i:∀y,bx F y (λb=>bN N F d b K)->bx F y (λb=>bN N F d b a):=λy h=>zZ h λb h=>bq h j
 have k:∀y,gg F y (λF' c e=>bN N F' d (.G (lx c) e) K)->gg F y (λF' c e=>bN N F' d (.G (lx c) e) a):=λy h=>eo h λF' c e h=>bq h j
 cases x with
 | tmp t=>
  grind [k4]
 | const v=>exact i (.const v) h
 | global g=>exact i (.global g) h
 | func f=>exact i (.func f) h
theorem Nz{a:(Nat->AV)->Prop}(h:D4 N F d x K)(b:∀F',K F'->a F'):D4 N F d x a:=by grind [bq,DH,D4,Jv]
variable{b:(Nat->AV)->Prop}
theorem zu{cs:List C}(h:pY F x cs K)(d:∀F',K F'->b F'):pY F x cs b:=by
 cases x with
 | tmp t=>
  simp only[pY]at h |-;cases e:F t with
  | G k f=>
   grind [cY]
  | ref g i c=>
   rw[e]at h;cases c with
   | cons s c=>
    simp only at h |-;cases a:F g with
    | G k f=>
     rw[a]at h;obtain⟨r,j,l,n,o,p⟩:=Pu.out h;exact Pu.mk l n o rfl (d _ p)
    | _=>grind
   | nil=>
    grind [cY]
  | _=>grind
 | _=>exact h.elim
variable{T:Nat}
theorem x8{a:(Nat->AV)->Prop}(h:ma TE F T x y K)(b:∀F',K F'->a F'):ma TE F T x y a:=by
 unfold ma at h |-;split at h
 all_goals grind [cq,CV,zu,eo]
theorem GJ{g:Option (Nat × Bool)}{K1 a K1' K0':(Nat->AV)->Prop}(h:eU F ops g K1 a)(h1:∀F,K1 F->K1' F)(b:∀F,a F->K0' F):eU F ops g K1' K0':=by
 unfold eU at h |-;split at h
 ·exact h1 _ h
 rename_i j want;split at h
 all_goals grind [Bf.out,Bf.in_]
theorem sW{K a:(Nat->AV)->Option Nat->List C->Prop}(h:uy F x K)(c:∀F' ag cs,K F' ag cs->a F' ag cs):uy F x a:=by
 obtain⟨ag,cs,d,b⟩:=cq h;refine b F (CV _ _) _ ?_
 grind [eo]
theorem jo{c:Nat->Option (Nat × Nat)} : ∀{parts:List (Nat × Operand)}{cs:List C}{K a:(Nat->AV)->List C->Prop}{F:Nat->AV},fillW c parts cs K F->(∀F' cs,K F' cs->a F' cs)->fillW c parts cs a F
 | [],cs,K,a,F,h,b=>b _ _ h
 | p::rest,cs,K,a,F,h,b=>by
  simp only[fillW]at h |-;split at h
  case h_2=>exact h.elim
  rename_i q e;refine sW h λF' f xs h=>?_
  cases d:(Nat.beq xs.length q.2&&Nat.ble (q.1+q.2) cs.length) with
  | false=>grind
  | true=>
   rw[d]at h;simp only[cond_true,cY]at h |-;exact jo h b
variable{parts:List (Nat × Operand)}
theorem Ef{a:(Nat->AV)->Prop}(h:kF TE N F d T parts K)(b:∀F',K F'->a F'):kF TE N F d T parts a:=by grind [jo,bq,kF]
theorem AQ{n:Nat}{a:(Nat->AV)->Prop}(h:fI TE N F d T n parts K)(c:∀F',K F'->a F'):fI TE N F d T n parts a:=by
 obtain⟨e,f,h,b⟩:=gT h;refine b _ ?_
 grind [bq,cY,jo,oV]
theorem FL{K a:Bool->(Nat->AV)->List (List C)->Prop}(h:Bo F y K)(c:∀b F' xr,K b F' xr->a b F' xr):Bo F y a:=by
 unfold Bo at h |-;split at h
 all_goals grind [eo,cq,CV]
theorem zl{K a:(Nat->AV)->List (List C)->Prop}(h:Ac F x K)(c:∀F' xr,K F' xr->a F' xr):Ac F x a:=by
 obtain⟨d,e,f,b⟩:=cq h;refine b F (CV _ _) _ ?_
 grind [eo]
theorem KE{a:(Nat->AV)->Prop}(h:Aa TE N F d T x y K)(f:∀F',K F'->a F'):Aa TE N F d T x y a:=by
 obtain⟨e,p,h,g⟩:=gT h;refine g _ (FL h λb F' q h=>zl h λF'' c h=>?_);obtain⟨i,j,k,l,n,o⟩:=h.out;exact CQ i j k l n rfl (bq o f)
theorem F8{a:(Nat->AV)->Prop}(h:po TE N F d T x K)(b:∀F',K F'->a F'):po TE N F d T x a:=by
 unfold po at h |-;split at h
 all_goals grind [eo,bq]
theorem Hr(h:iw N F d x K)(c:∀F',K F'->b F'):iw N F d x b:=by
 have std:∀{y:Operand},bx F y (λa=>bN N F d a K)->bx F y (λa=>bN N F d a b):=λh=>zZ h λa h=>bq h c
 cases x with
 | tmp t=>
  simp only[iw]at h |-
  grind [bq]
 | const v=>grind [iw]
 | global g=>grind [iw]
 | func f=>grind [iw]
theorem GF{a:(Nat->AV)->Prop}(h:tE N F d x K)(b:∀F',K F'->a F'):tE N F d x a:=by
 unfold tE at h |-;split at h
 case h_2=>exact h.elim
 split at h
 all_goals grind [Nt.out,Nt.mk,bq]
theorem El{a:(Nat->AV)->Prop}(h:pE N F d x K)(b:∀F',K F'->a F'):pE N F d x a:=by
 unfold pE at h |-
 grind [bq]
variable{c:(Nat->AV)->Prop}
theorem Nr{b:Operand}(h:EN TE N F d T x b K)(f:∀F',K F'->c F'):EN TE N F d T x b c:=by
 unfold EN at h |-;obtain⟨e,q,h,a⟩:=gT h;refine a _ ?_;obtain⟨n,g,i⟩:=nu h;refine i F (CV _ _) _ (eo g λF' r t h=>?_);split at h
 case h_2=>exact h.elim
 obtain⟨m,y,j,k,l,o,p,h⟩:=h.out;exact .mk_ ⟨m,y,j,k,l,o,p,_,rfl,bq h f⟩
theorem F5{b:Op}{e:(Nat->AV)->Prop}(h:ka P TE N d b K F)(a:∀F',K F'->e F'):ka P TE N d b e F:=by
 cases b with
 | assign x=>exact Nz h a
 | box T x=>grind [sW,bq,ka,LN]
 | build T g=>exact Ef h a
 | buildSlice T n g=>exact AQ h a
 | range T x=>exact F8 h a
 | move x=>exact Hr h a
 | next x str=>
  cases str with
  | true=>exact h.elim
  | false=>exact GF h a
 | entry x=>exact El h a
 | call c=>
  grind [jj,bq,KE,ka]
 | slice T x i f j=>
  cases i with
  | some _=>grind [jj,bq,ka]
  | none=>
   cases f with
   | none=>grind [jj,bq,ka]
   | some f=>
    cases j with
    | some _=>grind [jj,bq,ka]
    | none=>
     grind [jj,bq,Nr,ka]
 | _=>grind [jj,bq,ka]
theorem eD{off n:Nat}{st:cx}{K a:(Nat->AV)->List C->Prop}(h:lendAt F t off st n K)(b:∀F' cs,K F' cs->a F' cs):lendAt F t off st n a:=by
 unfold lendAt at h |-;split at h
 case h_2=>exact h.elim
 split at h
 ·grind [cY]
 obtain⟨r,j,c,d,e,f⟩:=Lq.out h;refine .mk_ ?_
 grind
theorem cm:∀{xs:List (Operand × Nat)}{K a:(Nat->AV)->List (MA × qL)->Prop}{F:Nat->AV},lendP xs K F->(∀F' l,K F' l->a F' l)->lendP xs a F
 | [],K,a,F,h,b=>b _ _ h
 | (x,0)::xs,K,a,F,h,b=>cm (xs:=xs) h ψ
 | (x,1)::xs,K,a,F,h,b=>by
  simp only[lendP]at h |-;split at h
  case h_2=>exact h.elim
  split at h
  ·exact eD h λF' c h=>cm h ψ
  ·exact eD h λF' c h=>cm h ψ
  ·exact eD h λF' c h=>cm h ψ
  exact h.elim
 | (x,n+2)::xs,K,a,F,h,b=>by
  simp only[lendP]at h |-;split at h
  case h_2=>exact h.elim
  split at h
  ·split at h
   ·exact cm h ψ
   exact h.elim
  ·exact cm h ψ
  exact h.elim
theorem jg:∀{l:List (MA × qL)}{xs:List Operand}{K a:Bool->List MA->Prop},valsP F l xs K->(∀b A,K b A->a b A)->valsP F l xs a
 | [],[],K,a,h,c=>c _ _ h
 | (m,.no)::l,x::xs,K,a,h,c=>by
  obtain⟨f,g,d,e⟩:=cq h;refine e F (CV _ _) _ (jg d λb A h=>?_)
  grind
 | (m,.at_ t off st)::l,x::xs,K,a,h,c=>jg (l:=l) (xs:=xs) h ψ
 | (m,.box t)::l,x::xs,K,a,h,c=>jg (l:=l) (xs:=xs) h ψ
 | [],_::_,K,a,h,c=>h.elim
 | (m,.no)::l,[],K,a,h,c=>h.elim
 | (m,.at_ t off st)::l,[],K,a,h,c=>h.elim
 | (m,.box t)::l,[],K,a,h,c=>h.elim
theorem db{K b:(Nat->AV)->Prop}(a:∀F',K F'->b F'):∀{l:List (MA × qL)}{B:List MA}{F:Nat->AV},gw l B K F->gw l B b F
 | [],[],F,h=>a _ h
 | [],_::_,F,h=>h.elim
 | (m,.no)::l,[],F,h=>h.elim
 | (m,.at_ t off st)::l,[],F,h=>h.elim
 | (m,.box t)::l,[],F,h=>h.elim
 | (m,.no)::l,.val _ _::B,F,h=>db a (l:=l) (B:=B) h
 | (m,.no)::l,.mut _ _::B,F,h=>db a (l:=l) (B:=B) h
 | (m,.no)::l,.ptr _::B,F,h=>db a (l:=l) (B:=B) h
 | (m,.at_ t off st)::l,.val _ _::B,F,h=>h.elim
 | (m,.at_ t off st)::l,.ptr _::B,F,h=>h.elim
 | (m,.box t)::l,.val _ _::B,F,h=>h.elim
 | (m,.box t)::l,.mut _ _::B,F,h=>h.elim
 | (m,.at_ t off st)::l,.mut ag out::B,F,h=>by
  simp only[gw]at h |-;split at h
  case h_2=>exact h.elim
  split at h
  ·rename_i k c _ _
   cases d:Nat.ble (off+out.length) c.length with
   | false=>grind
   | true=>
    rw[d]at h;simp only[cond_true,cY]at h |-;exact db a h
  obtain⟨r,j,e,f,g,i⟩:=Pu.out h;exact Pu.mk e f g rfl (db a i)
 | (m,.box t)::l,.ptr out::B,F,h=>by
  simp only[gw]at h |-;split at h
  ·exact db a h
  exact h.elim
variable{modes:List Nat}{args:List Operand}{f:Nat}
theorem Hh{d:Option Nat}{a:(Nat->AV)->Prop}(h:kZ P N F d f args modes K)(j:∀F',K F'->a F'):kZ P N F d f args modes a:=by
 unfold kZ at h |-;refine cm h λF' l h=>?_
 cases c:(uF l&&Nat.beq args.length modes.length) with
 | false=>grind
 | true=>
  rw[c]at h;refine jg h λb A h=>?_
  obtain⟨n,B,k,rcs,e,g,i⟩:=de.out h;refine CF e g (db (λF'' h=>?_) i)
  grind [bq]
theorem kH{F:Nat->AV}{K a:Nat->Nat->Prop}(h:yQ F x K)(b:∀t o,K t o->a t o):yQ F x a:=by grind [rH,yQ]
theorem J0{d:Option Nat}{cs:List C}{c a b:Nat}{f:(Nat->AV)->Prop}{k:Kd}{rcs:List C}{B:List MA}(h:x7 N F d t cs c a e b K k rcs B)(l:∀F',K F'->f F'):x7 N F d t cs c a e b f k rcs B:=by
 unfold x7 at h |-;split at h
 case h_2=>exact h.elim
 rename_i g i;cases j:(Nat.beq g.length a&&Nat.beq i.length b) with
 | false=>grind
 | true=>
  rw[j]at h;simp only[cond_true,cY]at h |-
  grind [bq]
theorem G2{d:Option Nat}{a b:Nat}(h:jX P N F d f args a b K)(e:∀F',K F'->c F'):jX P N F d f args a b c:=by
 unfold jX at h |-;split at h
 case h_2=>exact h.elim
 refine kH h λt g h=>kH h λi j h=>?_
 split at h
 all_goals grind [cY,de.out,CF,J0]
theorem qN{d:Option Nat}{a:(Nat->AV)->Prop}(h:kg P N F d f args modes K)(b:∀F',K F'->a F'):kg P N F d f args modes a:=by grind [G2,Hh,kg]
theorem EV{off:Nat}{z:Int}{v:Value}{a:(Nat->AV)->Prop}(h:putMap F t off z v K)(f:∀F',K F'->a F'):putMap F t off z v a:=by
 unfold putMap at h |-;cases b:F t with
 | G k d=>
  rw[b]at h;simp only at h |-;cases e:d[off]? with
  | none=>grind
  | some c=>
   rw[e]at h;cases c with
   | m g=>
    simp only at h |-;have:=h.out;refine Mu.mk rfl ?_
    grind [cY]
   | _=>exact h.elim
 | _=>grind
theorem uB{v:Operand}(h:mY TE F T x y v K)(f:∀F',K F'->b F'):mY TE F T x y v b:=by
 unfold mY at h |-;split at h
 case h_2=>exact h.elim
 obtain⟨z,c,d⟩:=i7 h;refine d F (CV F _) _ ?_;obtain⟨g,a,e⟩:=i7 c;refine e F (CV F _) _ ?_;split at a
 case h_2=>exact a.elim
 split at a
 all_goals grind [EV]
theorem jI{a:(Nat->AV)->Prop}(h:iE P TE N ops o K F)(c:∀F',K F'->a F'):iE P TE N ops o a F:=by
 unfold iE at h |-;refine GJ h (λF h=>?_) (λF h=>?_)
 ·split at h
  ·rename_i p _
   have lt:rO P N F o.dst p.1 p.2.1 p.2.2 K->rO P N F o.dst p.1 p.2.1 p.2.2 a:=λh=>qN h λF' h=>by grind [mW]
   cases b:Ll N o.op with
   | false=>grind
   | true=>
    rw[b]at h;rcases h with h|h
    ·refine .pl ?_
     grind [x8,uB,F5,jU]
    exact .lt (lt h)
  grind [x8,uB,F5]
 grind [bq]
theorem Dm{m:Nat}(a:QM ops m){K:(Nat->AV)->Prop}(hm:m<=ops.size):∀(l:List Oper)(k:Nat)(listed:Array Bool)(F:Nat->AV),(∀j,l[j]? = ops[k+j]?)->listed.size=ops.size->(∀j,j<ops.size->listed.getD j true=decide (j<k))->zX ops m F listed->DC ops listed->
  Mo P TE N ops (m - k) l K F->Gl P TE N ops m K l.length listed F
 | [],k,listed,F,C,L,b,_,_,i=>by
  have D:ops.size<=k:=by
   rcases Nat.lt_or_ge k ops.size with h|h
   ·have:=C 0;simp[h]at this
   exact h
  refine⟨?_,?_⟩
  ·apply List.eq_nil_iff_forall_not_mem.2
   grind [Go.mem_ready]
  cases M:m - k with
  | zero=>rw[M]at i;exact i
  | succ x=>omega
 | o::l,k,listed,F,C,L,b,c,n,i=>by
  have w:ops[k]? = some o:=by simpa using (C 0).symm
  have D:=(U3.1 w).1;have hready:k∈Region.ready .any ops listed:=mem_ready.2 ⟨by rw[b k D];simp,o,w,λe he hb=>by grind [QM.back]⟩;have A:∀j,l[j]? = ops[k+1+j]?:=λj=>by have:=C (j+1);grind
  have r:∀j,j<ops.size->(listed.setIfInBounds k true).getD j true=decide (j<k+1):=λj O=>by
   by_cases y:j=k
   ·simp_all
   rw[getD_set_ne true (Ne.symm y),b j O]
   grind
  show Gl P TE N ops m K (l.length+1) listed F;by_cases f:k<m
  ·have e1:m - k=(m - (k+1))+1:=ω
   rw[e1]at i;obtain⟨mv,d,av,Q,i⟩:=p7 (show lc P TE N ops o (Mo P TE N ops (m - (k+1)) l K) F from i) (λd hd=>c.dst k o d f w (by rw[b k D];simp) hd) (λT s R S U=>c.mv k o T s f w (by rw[b k D];simp) R S U);refine K4 a w f l.length listed F hready c n Q (Dm a hm l (k+1) _ _ A (by simpa using L) r (c.put (λE G H p u q hl'' B=>?_) (λE G T s p u q hl'' R S U=>?_)) (n.put hready) i)
   ·cases V:av.uses H with
    | false=>rfl
    | true=>
     rcases Q.from_ H V with h|⟨t,_,h⟩
     ·have:=a.look E k G o H p f u q w B h
      grind [cn,QM.back]
     rw[c.dst E G H p q hl'' B t]at h;cases h
   cases V:av.uses s with
   | false=>rfl
   | true=>
    rcases Q.from_ s V with h|⟨t,_,h⟩
    ·grind [fK,cO]
    rw[c.mv E G T s p q hl'' R S U t]at h;cases h
  refine⟨ψ,λj O=>?_⟩;have y:j=k:=by
   obtain⟨h1,oj,W,hall⟩:=mem_ready.1 O;have g:=(U3.1 W).1;rw[b j g]at h1;simp at h1;rcases Nat.lt_or_ge k j with X|hge
   ·exfalso
    have h2:=mX n a.back (a.tail j ω g k X) g λk' hk'=>by grind [bu,cn]
    grind
   omega
  subst y;unfold vM;rw[w];simp only[C8 f];have e0:m - j=0:=ω
  rw[e0]at i;have hp':iE P TE N ops o (Kj P TE N ops l K) F:=i;have Y:∀J,Kj P TE N ops l K J->Gl P TE N ops m K l.length (listed.setIfInBounds j true) J:=λJ Z=>
   Dm a hm l (j+1) _ J A (by simpa using L) r ⟨ψ,ψ⟩ (n.put hready) (by rw[show m - (j+1)=0 by omega];cases l<;>exact Z)
  grind [jI]
theorem St.clr(h:St w0 M S0 N F a w)(ds:List Nat):St w0 M S0 N (Ab.clr ds F) a w:=by
 obtain⟨S,φ,h⟩:=h;refine⟨S,φ,λt=>?_,h.dis,h.disS,h.ex,h.sub,h.sup,h.old,h.size,h.defers,h.par⟩;rw[Dd];cases b:ds.any (λd=>(F t).uses d) with
 | true=>trivial
 | false=>
  simp only[cond_false];refine(h.slot t).keep (φ:=φ) (λt _ _ _=>h.slot t) (λc _=>⟨λk e f=>?_,rfl,λ_ _ _=>⟨rfl,rfl⟩⟩) (λ_ _ _=>⟨rfl,rfl⟩) (λ_ _ _=>⟨rfl,rfl⟩) (λ_ _ h=>h) (λ_ _ h=>h)
  grind [Dd,AV.uses]
theorem D7(g:∀t i,TE t=some i->bJ P t i)(E:P.follows .mixedOrders=true){id:Nat}{ds:List Nat}(b:((Nat.ble m ops.size&&below m λj=>match(dd ops j).dst with|some d=>ds.any (Nat.beq d)|none=>true)&&Dx ops m)=true)(G:Mo P TE N ops m ops.toList K (Ab.clr ds F))(H:St w0 M S0 N F a w)(J:∀F' u y,K F'->St w0 M S0 N F' u y->Q .normal u y):(Code.region id ops true).wp P Q a w:=by
 simp only[I0]at b;obtain⟨⟨A,L⟩,b⟩:=b;have c:m<=ops.size:=by simp_all
 refine wp_region_any E ?_;have l:St w0 M S0 N (Ab.clr ds F) a {w with drawn:=w.drawn+1}:=by
  have O:=H.clr ds;obtain⟨S,φ,h⟩:=O;exact⟨S,φ,h.more (w1:={w with drawn:=w.drawn+1}) (λ_ _ h=>h) ψ ⟨rfl,rfl,rfl,C3 _,λ_ _ _=>rfl,λ_ _ _ _=>rfl,λ_ _ _ _=>rfl⟩⟩
 refine Al g (m:=m) J ops.size (Array.replicate ops.size false) _ a _ ?_ l;have R:∀d,ds.any (Nat.beq d)=true->∀t,(Ab.clr ds F t).uses d=false:=λd U t=>by
  rw[Dd];cases Z:ds.any (λd=>(F t).uses d) with
  | true=>rfl
  | false=>
   simp_all
 have B:∀j o d,j<m->ops[j]? = some o->o.dst=some d->ds.any (Nat.beq d)=true:=λj o d f C U=>by grind [gi,bu]
 have D:=Ft b;have:=Dm (P:=P) (TE:=TE) (N:=N) D (K:=K) c ops.toList 0 (Array.replicate ops.size false) (Ab.clr ds F) (by simp) (by simp) (λj f=>by simp[f]) ⟨ψ,λj o T s f C _ _ _ V t=>by
   obtain⟨k,ok,n,W,X⟩:=(fK V).1;obtain⟨e,p,q,rfl⟩:=cn.1 n;have:=D.back j o C e p q
   grind⟩ (λj oj f Y=>by
   have r:=(U3.1 f).1;simp[r]at Y) G
 simpa using this
end
section
variable{P:Program}{w0 w w1:World}{M S0 S:af}{N:eA}{φ:Nat->af}{F:Nat->AV}{a:Act}{TE:Nat->Option TI}{ops:Array Oper}{ds:List Nat}{nm:Nat->Bool}
def Rh(P:Program)(TE:Nat->Option TI)(ops:Array Oper)(p:Nat)(F:Nat->AV):Prop:=∃d,(dd ops p).dst=some d/\Jz F (dd ops p)=none/\cX P TE F (dd ops p).op λa=>a=F d
def uv(P:Program)(TE:Nat->Option TI)(N:eA)(ops:Array Oper)(ds:List Nat)(listed:Array Bool)(i:Nat)(K:(Nat->AV)->Prop)(F:Nat->AV):Prop:=
 match ops[i]? with
 | none=>K F
 | some o=>if pJ ds o=true then lc P TE N ops o K F else iE P TE N ops o (λa=>(∀p,listed.getD p false=true->pJ ds (dd ops p)=true->uV ops i p=false->Rh P TE ops p a)/\K a) F
def Ep(P:Program)(TE:Nat->Option TI)(N:eA)(ops:Array Oper)(ds:List Nat)(K:(Nat->AV)->Prop):Nat->Array Bool->(Nat->AV)->Prop
 | 0,listed,F=>Region.ready .any ops listed=[]/\K F
 | fuel+1,listed,F=>(Region.ready .any ops listed=[]->K F)/\∀i,i∈Region.ready .any ops listed->uv P TE N ops ds listed i (Ep P TE N ops ds K fuel (listed.setIfInBounds i true)) F
variable{Q:Exit->Act->World->Prop}{K:(Nat->AV)->Prop}{i:Nat}{listed:Array Bool}
theorem Fn(c:∀t i,TE t=some i->bJ P t i)(b:uv P TE N ops ds listed i K F)(g:St w0 M S0 N F a w){Kc:Act->World->Prop}(d:∀F' e f,K F'->St w0 M S0 N F' e f->Kc e f):wpOp P ops Q i Kc a w:=by
 unfold uv at b;unfold wpOp;cases j:ops[i]? with
 | none=>grind
 | some o=>
  rw[j]at b;simp only at b |-;obtain⟨S,φ,h⟩:=g;have:if Region.wanted o (yielded ops a.tmps) then o.wp P a w Kc Q else Kc (a.put o.dst undef) w:=by
   split at b
   ·exact h.oneP c b d
   exact h.one c (jI b λF' h=>h.2) d
  grind
def qp(b:∀t i,TE t=some i->bJ P t i){K:(Nat->AV)->Prop}{Q:Exit->Act->World->Prop}(g:∀F' d e,K F'->St w0 M S0 N F' d e->Q .normal d e) :
  ∀(fuel:Nat)(listed:Array Bool)(F:Nat->AV)(a:Act)(w:World),Ep P TE N ops ds K fuel listed F->St w0 M S0 N F a w->wpAny P .any ops Q fuel listed a w
 | 0,_,F,a,w,c,f=>⟨c.1,g F a w c.2 f⟩
 | fuel+1,_,F,a,w,c,f=>⟨λj=>g F a w (c.1 j) f,λi k=>Fn b (c.2 i k) f λF' d e l h=>qp b g fuel _ F' d e l h⟩
def bU(ts:List Nat)(F F1:Nat->AV):Prop:=∀t e,(F1 t).uses e=true->e∈ts\/∃a,(F a).uses e=true
theorem bU.refl(ts:List Nat)(F:Nat->AV):bU ts F F:=λt _ h=>.inr ⟨t,h⟩
variable{F1:Nat->AV}{ts:List Nat}
theorem bU.trans{F a:Nat->AV}(h1:bU ts F F1)(b:bU ts F1 a):bU ts F a:=λt e h=>by
 rcases b t e h with h|⟨c,h⟩
 ·exact .inl h
 exact h1 c e h
variable{d:Nat}
theorem bU.clean(h:bU ts F F1)(b:d∉ts)(c:∀t,(F t).uses d=false):∀t,(F1 t).uses d=false:=λt=>by
 cases a:(F1 t).uses d with
 | false=>rfl
 | true=>
  rcases h t d a with h|⟨e,h⟩
  all_goals grind
theorem bU.put{ts:List Nat}{dj:Nat}{av:AV}(h:∀e,av.uses e=true->e∈ts\/∃b,(F b).uses e=true):bU ts F (put F dj av):=λt e a=>by
 by_cases c:t=dj
 ·grind [oM]
 rw[ik _ _ c]at a;exact .inr ⟨t,(Pc a).1⟩
variable{v:AV}{t e:Nat}
theorem MT(h:(rq t v).uses e=true):v.uses e=true:=by
 cases v with
 | c0 a b d f=>simp only[rq]at h;cases c:Nat.beq a t<;>rw[c]at h<;>first|exact h|cases h
 | ref a b d=>cases d<;>simp only[rq]at h<;>first|exact h|(cases c:Nat.beq a t<;>rw[c]at h<;>first|exact h|cases h)
 | _=>exact h
theorem bU.updH{ts:List Nat}{t:Nat}{k:Kd}{cs:List C} : bU ts F (updH F t k cs):=λs e a=>by
 unfold Ab.updH at a;cases b:Nat.beq s t with
 | true=>rw[b]at a;cases a
 | false=>grind [MT]
theorem MC(h:(N8 t v).uses e=true):v.uses e=true:=by
 cases v with
 | c0 a b d f=>simp only[N8]at h;cases c:Nat.beq a t<;>rw[c]at h<;>first|exact h|cases h
 | ref a b d=>simp only[N8]at h;cases c:Nat.beq a t<;>rw[c]at h<;>first|exact h|cases h
 | _=>exact h
theorem bU.kill{ts:List Nat}{t:Nat} : bU ts F (kill F t):=λs e a=>by
 unfold Ab.kill at a;cases b:Nat.beq s t with
 | true=>rw[b]at a;cases a
 | false=>grind [MC]
variable{av:AV}
theorem ce(h:t≠d):eff none d av F t=F t:=by grind [eff]
theorem lJ{a:Option Nat} : eff a d av F d=av:=by grind [eff]
theorem Nb : eff none d (F d) F=F:=by grind [lJ,ce]
theorem lO(a:d∉ts)(b:∀t,(F t).uses d=false):gz (eff none d av F) F ts:=λt c=>by grind [ce]
variable{dj:Nat}
theorem Ri(a:dj≠d):put (eff none d v F) dj av=eff none d (kl dj v) (put F dj av):=by grind [oM,ce,ik,lJ]
variable{b:Kd}
theorem mT{a:List C}(c:t≠d):updH (eff none d v F) t b a=eff none d (rq t v) (updH F t b a):=by grind [lJ,Nat.beq_eq,ce,updH]
theorem xN{a:List C}(c:t≠d):updH F t b a d=rq t (F d):=by grind [Nat.beq_eq,updH]
theorem Jc{a:List C}(c:t≠d):updN (eff none d v F) t b a=eff none d (NI t v) (updN F t b a):=by grind [lJ,Nat.beq_eq,ce,updN]
theorem FS{a:List C}(c:t≠d):updN F t b a d=NI t (F d):=by grind [Nat.beq_eq,updN]
theorem M6(h:(NI t v).uses e=true):v.uses e=true:=by
 cases v with
 | c0 b c a f=>
  cases a with
  | nil=>exact h
  | cons s a=>simp only[NI]at h;cases d:Nat.beq b t<;>rw[d]at h<;>first|exact h|cases h
 | ref b c a=>
  cases a with
  | nil=>exact h
  | cons s a=>simp only[NI]at h;cases d:Nat.beq b t<;>rw[d]at h<;>first|exact h|cases h
 | _=>exact h
theorem bU.updN{ts:List Nat}{t:Nat}{k:Kd}{cs:List C} : bU ts F (updN F t k cs):=λs e a=>by
 unfold Ab.updN at a;cases b:Nat.beq s t with
 | true=>rw[b]at a;cases a
 | false=>grind [M6]
def Fq(d:Nat)(ts:List Nat)(v:AV)(F:Nat->AV)(K:(Nat->AV)->Prop)(F1:Nat->AV):Prop:=∃a,(v=F d->a=F1 d)/\K (eff none d a F1)/\bU ts F F1
def RP(d:Nat)(ts:List Nat)(v:AV)(F:Nat->AV)(K:(Nat->AV)->Option Nat->List C->Prop)(F1:Nat->AV)(ag:Option Nat)(cs:List C):Prop:=∃a,(v=F d->a=F1 d)/\K (eff none d a F1) ag cs/\bU ts F F1
def Fq.trans{v1:AV}{a:Nat->AV}(h1:v=F d->v1=F1 d)(b:bU ts F F1)(h:Fq d ts v1 F1 K a):Fq d ts v F K a:=by
 obtain⟨c,f,g,i⟩:=h;exact⟨c,λe=>f (h1 e),g,b.trans i⟩
theorem gq(h:bN N (eff none d v F) dj av K)(a:dj≠d)(b:∀e,av.uses e=true->e∈ts\/∃c,(F c).uses e=true):bN N F dj av (Fq d ts v F K):=by
 unfold bN at h |-;cases f:(N.free dj&&!av.uses dj) with
 | false=>grind
 | true=>
  rw[f]at h;simp only[cond_true]at h |-;rw[Ri a]at h;exact⟨kl dj v,λe=>by grind [ik],h,bU.put b⟩
variable{cs:List C}{k:Kd}
def iK : ∀e,(AV.G k cs).uses e=true->e∈ts\/∃a,(F a).uses e=true:=λe h=>by cases h
theorem Bb{p:(Nat->AV)->(AV->Prop)->Prop}{ts0:List Nat}(h:nE p (eff none d v F) ts0 λav=>bN N (eff none d v F) dj av K)(a:dj≠d)(j:∀t,t∈ts0->t∈ts)(k:d∉ts)(b:∀t,(F t).uses d=false) :
  p F λav=>bN N F dj av (Fq d ts v F K):=by
 obtain⟨av,c,f,g⟩:=h;refine g F (lO ψ b) _ (gq c a λe i=>?_);rcases f e i with h|⟨t,l,h⟩
 all_goals grind [ce]
variable{y:Operand}
theorem pn{K:(Nat->AV)->Option Nat->List C->Prop}(h:gg (eff none d v F) y K)(n:d∉tm y)(o:∀t,(F t).uses d=false):gg F y (RP d ts v F K):=by
 have fin:∀{t:Nat}{k:Kd}{b:List C}{a:Option Nat}{xs:List C},t≠d->K (updH (eff none d v F) t k b) a xs->RP d ts v F K (updH F t k b) a xs:=fun {t k b a xs} c h=>by
  rw[mT c]at h;exact⟨_,λe=>by rw[xN c,e],h,bU.updH⟩
 have yZ:∀{t:Nat}{k:Kd}{b:List C}{a:Option Nat}{xs:List C},t≠d->K (updN (eff none d v F) t k b) a xs->RP d ts v F K (updN F t k b) a xs:=fun {t k b a xs} c h=>by
  rw[Jc c]at h;exact⟨_,λe=>by rw[FS c,e],h,bU.updN⟩
 cases y with
 | tmp t=>
  have c:t≠d:=λe=>n (by simp[tm,e])
  simp only[gg]at h |-;rw[ce c]at h;cases g:F t with
  | G p q=>
   grind
  | c0 i u l a=>
   rw[g]at h;have w:i≠d:=λe=>by have:=o t;rw[g,e]at this;simp[AV.uses]at this
   cases l with
   | cons s l=>
    simp only at h |-;rw[ce w]at h;cases f:F i with
    | G p q=>
     rw[f]at h;obtain⟨r,j,A,B,D,E⟩:=Lq.out h;exact .mk_ ψ
    | _=>grind
   | nil=>
    grind [ce]
  | _=>grind
 | _=>exact h.elim
theorem PR{K:(Nat->AV)->Option Nat->List C->Prop}(h:uy (eff none d v F) y K)(b:d∉tm y)(c:∀t,(F t).uses d=false):uy F y (RP d ts v F K):=by
 obtain⟨i,xs,a,f⟩:=cq h;refine f F (lO b c) _ ?_;cases g:bn xs with
 | true=>rw[g]at a;exact⟨v,λe=>e,a,bU.refl _ _⟩
 | false=>grind [pn]
def Tt(d:Nat)(ts:List Nat)(v:AV)(F:Nat->AV)(K:(Nat->AV)->List C->Prop)(F1:Nat->AV)(cs:List C):Prop:=∃a,(v=F d->a=F1 d)/\K (eff none d a F1) cs/\bU ts F F1
theorem yi{d:Nat}{ts:List Nat}{c:Nat->Option (Nat × Nat)}(a:d∉ts):∀{parts:List (Nat × Operand)}{cs:List C}{K:(Nat->AV)->List C->Prop}{F:Nat->AV}{v:AV},fillW c parts cs K (eff none d v F)->(∀p,p∈parts->d∉tm p.2)->(∀t,(F t).uses d=false)->
  fillW c parts cs (Tt d ts v F K) F
 | [],cs,K,F,v,h,_,b=>⟨v,λe=>e,h,bU.refl _ _⟩
 | p::rest,cs,K,F,v,h,r,b=>by
  simp only[fillW]at h |-;split at h
  case h_2=>exact h.elim
  rename_i q u;refine sW (PR (ts:=ts) h ψ b) λw y xs h=>?_
  obtain⟨A,g,h,f⟩:=h;cases i:(Nat.beq xs.length q.2&&Nat.ble (q.1+q.2) cs.length) with
  | false=>grind
  | true=>
   rw[i]at h;simp only[cond_true,cY]at h |-;refine jo (yi a h ψ (f.clean a b)) λB cs2 j=>?_
   obtain⟨k,l,n,o⟩:=j;exact⟨k,λe=>l (g e),n,f.trans o⟩
variable{parts:List (Nat × Operand)}{T:Nat}
theorem JW(h:kF TE N (eff none d v F) dj T parts K)(a:dj≠d)(b:d∉ts)(c:∀p,p∈parts->d∉tm p.2)(e:∀t,(F t).uses d=false) :
  kF TE N F dj T parts (Fq d ts v F K):=by
 unfold kF at h |-;split at h
 case h_2=>exact h.elim
 rename_i size bytes zero flds k;cases f:B6 TE flds with
 | false=>grind
 | true=>
  rw[f]at h;refine jo (yi b h c e) λl n h=>?_
  obtain⟨o,g,h,i⟩:=h;exact bq (gq (ts:=ts) h a iK) λq j=>Fq.trans g i j
variable{n:Nat}
theorem GX(h:fI TE N (eff none d v F) dj T n parts K)(a:dj≠d)(c:d∉ts)(f:∀p,p∈parts->d∉tm p.2)(g:∀t,(F t).uses d=false) :
  fI TE N F dj T n parts (Fq d ts v F K):=by
 unfold fI at h |-;obtain⟨e,i,h,b⟩:=gT h;refine b _ ?_;cases j:Nat.ble (n*i.size) 16777216 with
 | false=>grind
 | true=>
  rw[j]at h;simp only[cond_true]at h |-;cases n with
  | zero=>
   cases parts with
   | nil=>exact gq h a iK
   | cons=>exact h.elim
  | succ n=>
   simp only[cY]at h |-;refine jo (yi c h f g) λq r h=>?_
   obtain⟨u,k,h,l⟩:=h;rw[oV]at h |-;exact bq (gq (ts:=ts) h a iK) λw o=>Fq.trans k l o
theorem LD(h:iw N (eff none d v F) dj (.tmp t) K)(a:dj≠d)(c:d∉ts)(l:t∈ts)(g:∀t,(F t).uses d=false):iw N F dj (.tmp t) (Fq d ts v F K):=by
 have b:t≠d:=ψ
 have std:bx (eff none d v F) (.tmp t) (λf=>bN N (eff none d v F) dj f K)->bx F (.tmp t) (λf=>bN N F dj f (Fq d ts v F K)):=λh=>
  Bb (p:=λF K=>bx F (.tmp t) K) (jJ h) a (λn o=>by grind [tm]) c g
 simp only[iw]at h |-;rw[ce b]at h;split at h
 ·rename_i i xs q
  cases j:bn xs with
  | true=>grind [gq]
  | false=>
   rw[j]at h;simp only[cond_false]at h |-;rw[mT b]at h;exact bq (gq (ts:=ts) h a iK) λr k=>Fq.trans (F1:=updH F t (.tup i) _) (λe=>by grind [xN]) bU.updH k
 all_goals exact std h
variable{x:Operand}
theorem QH{b:Operand}(h:EN TE N (eff none d v F) dj T x b K)(c:dj≠d)(f:d∉tm x)(g:d∉tm b)(j:∀t,(F t).uses d=false):EN TE N F dj T x b (Fq d ts v F K):=by
 unfold EN at h |-;obtain⟨e,A,h,a⟩:=gT h;refine a _ ?_;obtain⟨n,k,i⟩:=nu h;refine i F (lO g j) _ ?_;refine eo (pn (ts:=ts) k f j) λB C D h=>?_
 obtain⟨E,l,h,o⟩:=h;split at h
 case h_2=>exact h.elim
 obtain⟨m,y,p,q,r,u,w,h⟩:=h.out;exact .mk_ ⟨m,y,p,q,r,u,w,_,rfl,bq (gq (ts:=ts) h c iK) λG i=>Fq.trans l o i⟩
theorem JO(h:k4 N (eff none d v F) dj x K)(a:dj≠d)(j:d∉ts)(k:∀t,t∈tm x->t∈ts)(o:∀t,(F t).uses d=false):k4 N F dj x (Fq d ts v F K):=by
 have l:∀y,(∀t,t∈tm y->t∈ts)->bx (eff none d v F) y (λn=>bN N (eff none d v F) dj n K)->bx F y (λn=>bN N F dj n (Fq d ts v F K)):=λy q h=>Bb (p:=λF K=>bx F y K) (jJ h) a q j o
 have A:∀y,(∀t,t∈tm y->t∈ts)->gg (eff none d v F) y (λb e i=>bN N b dj (.G (lx e) i) K)->gg F y (λb e i=>bN N b dj (.G (lx e) i) (Fq d ts v F K)):=λy q h=>
  eo (pn (ts:=ts) h ψ o) λb e i h=>by
   obtain⟨B,r,h,u⟩:=h;exact bq (gq (ts:=ts) h a iK) λC w=>Fq.trans r u w
 cases x with
 | tmp t=>
  grind [ce,tm,k4]
 | const c=>exact l (.const c) k h
 | global g=>exact l (.global g) k h
 | func f=>exact l (.func f) k h
theorem Dr(a:t≠d):kill (eff none d v F) t=eff none d (N8 t v) (kill F t):=by grind [lJ,lg,ce,pv]
theorem QU(h:D4 N (eff none d v F) dj x K)(a:dj≠d)(c:d∉ts)(j:∀t,t∈tm x->t∈ts)(l:∀t,(F t).uses d=false):D4 N F dj x (Fq d ts v F K):=by
 have f:Eu N (eff none d v F) dj x=Eu N F dj x:=by
  cases x with
  | tmp t=>
   grind [ce,tm,Eu]
  | _=>rfl
 unfold D4 at h |-;cases b:Ny N dj x with
 | true=>
  rw[b]at h;simp only[cond_true]at h |-;exact gq (ts:=ts) h a iK
 | false=>
 rw[b]at h;simp only[cond_false]at h |-;unfold Jv at h |-;rw[f]at h;cases i:Eu N F dj x with
 | none=>grind [JO]
 | some p=>
  rw[i]at h;simp only at h |-;obtain⟨rfl,n⟩:=A8 i;have g:p.1≠d:=λe=>c (e ▸ j p.1 (by simp[tm]))
  rw[Dr g]at h;exact bq (gq (ts:=ts) h a iK) λo k=>Fq.trans (F1:=kill F p.1) (λe=>by grind [lg]) bU.kill k
theorem HW(h:pY (eff none d v F) x cs K)(l:d∉tm x)(n:∀t,(F t).uses d=false):pY F x cs (Fq d ts v F K):=by
 have fin:∀{t:Nat}{k:Kd}{cs:List C},t≠d->K (updH (eff none d v F) t k cs)->Fq d ts v F K (updH F t k cs):=fun {t k cs} a h=>by
  rw[mT a]at h;exact⟨_,λe=>by rw[xN a,e],h,bU.updH⟩
 have yZ:∀{t:Nat}{k:Kd}{cs:List C},t≠d->K (updN (eff none d v F) t k cs)->Fq d ts v F K (updN F t k cs):=fun {t k cs} a h=>by
  rw[Jc a]at h;exact⟨_,λe=>by rw[FS a,e],h,bU.updN⟩
 have finP:∀{t:Nat}{k:Kd}{cs:List C},t≠d->K (PO (eff none d v F) t k cs)->Fq d ts v F K (PO F t k cs):=fun {t k cs} a h=>by
  cases k with
  | box=>exact fin a h
  | _=>exact yZ a h
 cases x with
 | tmp t=>
  have a:t≠d:=λe=>l (by simp[tm,e])
  simp only[pY]at h |-;rw[ce a]at h;cases c:F t with
  | G k o=>
   grind [cY]
  | ref f p g=>
   rw[c]at h;have i:f≠d:=λe=>by have:=n t;rw[c,e]at this;simp[AV.uses]at this
   cases g with
   | cons s g=>
    simp only at h |-;rw[ce i]at h;cases b:F f with
    | G k o=>
     rw[b]at h;obtain⟨r,j,q,u,w,y⟩:=Pu.out h;exact Pu.mk q u w rfl (finP i y)
    | _=>grind
   | nil=>
    grind [ce,cY]
  | _=>grind
 | _=>exact h.elim
theorem Nv(h:ma TE (eff none d v F) T x y K)(b:d∉ts)(n:d∉tm x)(j:d∉tm y)(c:∀t,(F t).uses d=false):ma TE F T x y (Fq d ts v F K):=by
 unfold ma at h |-;split at h
 ·rename_i i r
  obtain⟨u,k,a,e⟩:=cq h;refine e F (lO j c) _ ?_;cases o:Nat.beq k.length i.size with
  | false=>grind
  | true=>
   rw[o]at a;simp only[cond_true]at a |-;cases p:bn k with
   | true=>grind [HW]
   | false=>
    rw[p]at a;simp only[cond_false]at a |-;refine eo (pn (ts:=ts) a j c) λw q f h=>?_
    obtain⟨A,a,h,l⟩:=h;cases g:Nat.beq f.length i.size with
    | false=>grind
    | true=>rw[g]at h;exact zu (HW (ts:=ts) h n (l.clean b c)) λB e=>Fq.trans a l e
 exact h.elim
def QX(a:d∉tm y):mF (eff none d v F) y=mF F y:=by
 cases y with
 | tmp t=>exact ce λe=>a (by simp[tm,e])
 | _=>rfl
theorem QW{K:Bool->(Nat->AV)->List (List C)->Prop}(h:Bo (eff none d v F) y K)(b:d∉tm y)(c:∀t,(F t).uses d=false):Bo F y λe F1 rows=>∃v1,(v=F d->v1=F1 d)/\K e (eff none d v1 F1) rows/\bU ts F F1:=by
 have a:=QX (F:=F) (v:=v) b;unfold Bo at h |-;rw[a]at h;split at h
 ·refine eo (pn (ts:=ts) h b c) λF1 f g h=>?_
  obtain⟨v1,i,h,j⟩:=h
  grind
 grind [cq,lO,bU.refl]
theorem Pf{K:(Nat->AV)->List (List C)->Prop}(h:Ac (eff none d v F) y K)(b:d∉tm y)(c:∀t,(F t).uses d=false):Ac F y λF1 rows=>∃v1,(v=F d->v1=F1 d)/\K (eff none d v1 F1) rows/\bU ts F F1:=by
 obtain⟨e,xs,a,f⟩:=cq h;refine f F (lO b c) _ ?_;split at a
 ·grind [bU.refl]
 ·refine eo (pn (ts:=ts) a b c) λF1 e g h=>?_
  obtain⟨v1,a,h,i⟩:=h
  grind
 exact a.elim
theorem P0(h:Aa TE N (eff none d v F) dj T x y K)(b:dj≠d)(c:d∉ts)(j:d∉tm x)(k:d∉tm y)(f:∀t,(F t).uses d=false):Aa TE N F dj T x y (Fq d ts v F K):=by
 obtain⟨e,B,h,a⟩:=gT h;refine a _ (FL (QW (ts:=ts) h k f) λC D E h=>?_);obtain⟨G,l,h,g⟩:=h;refine zl (Pf (ts:=ts) h j (g.clean c f)) λH i h=>?_
 obtain⟨J,n,h,o⟩:=h;obtain⟨p,q,r,u,w,h⟩:=Ap.out h;refine CQ p q r u w rfl (bq (gq (ts:=ts) h b iK) λL A=>?_);exact Fq.trans l g (Fq.trans n o A)
theorem My{f:Oper}(B:f.guard=none)(g:Qv f.op=true)(k:f.dst≠some d)(u:d∉f.looksAt ops)(w:∀t,(F t).uses d=false)(h:iE P TE N ops f K (eff none d v F)) :
  iE P TE N ops f (Fq d (f.looksAt ops) v F K) F:=by
 unfold iE eU at h |-;rw[B]at h |-;simp only at h |-;have j:∀t,t∈dl f.op->t∈f.looksAt ops:=λt l=>hB f t l
 have pur:∀b,b≠d->cX P TE (eff none d v F) f.op (λq=>bN N (eff none d v F) b q K)->cX P TE F f.op λq=>bN N F b q (Fq d (f.looksAt ops) v F K):=λb k h=>
  Bb (p:=λF K=>cX P TE F f.op K) (jD h) k j u w
 have dne:∀b,f.dst=some b->b≠d:=ψ
 have tmI:∀x,x∈f.op.operands.toList->∀t,t∈tm x->t∈f.looksAt ops:=λx C t l=>j t (List.mem_flatMap.2 ⟨x,C,l⟩)
 cases e:f.op with
 | store T x y=>
  rw[e]at h tmI;simp only[zC]at h |-;cases a:f.dst with
  | some b=>rw[a]at h;simp only[ka]at h;exact h.elim
  | none=>
   grind [Nv,Go.Op.operands]
 | move x=>
  rw[e]at h tmI;cases a:f.dst with
  | none=>rw[a]at h;exact h.elim
  | some b=>
   rw[a]at h;cases x with
   | tmp t=>
    simp only[zC,ka]at h |-;exact LD h (dne b a) u (tmI (.tmp t) (by simp[Op.operands]) t (by simp[tm])) w
   | _=>rw[e]at g;cases g
 | assign x=>
  rw[e]at h tmI
  grind [QU,zC,ka,Go.Op.operands]
 | build T D=>
  rw[e]at h tmI
  grind [JW,zC,ka,Go.Op.operands]
 | buildSlice T n D=>
  rw[e]at h tmI
  grind [GX,zC,ka,Go.Op.operands]
 | extract x i=>rw[e]at h pur;cases a:f.dst with|none=>rw[a]at h;exact h.elim|some b=>rw[a]at h;exact pur b (dne b a) h
 | load T x=>rw[e]at h pur;cases a:f.dst with|none=>rw[a]at h;exact h.elim|some b=>rw[a]at h;exact pur b (dne b a) h
 | fieldAddr T x i=>rw[e]at h pur;cases a:f.dst with|none=>rw[a]at h;exact h.elim|some b=>rw[a]at h;exact pur b (dne b a) h
 | field T x i=>rw[e]at h pur;cases a:f.dst with|none=>rw[a]at h;exact h.elim|some b=>rw[a]at h;exact pur b (dne b a) h
 | binOp o T x y L=>rw[e]at h pur;cases a:f.dst with|none=>rw[a]at h;exact h.elim|some b=>rw[a]at h;exact pur b (dne b a) h
 | unOp o T x=>rw[e]at h pur;cases a:f.dst with|none=>rw[a]at h;exact h.elim|some b=>rw[a]at h;exact pur b (dne b a) h
 | call c=>
  rw[e]at g h tmI;cases E:qg c with
  | none=>grind [Qv]
  | some p=>
   have r:=w8 E;subst r;cases a:f.dst with
   | none=>rw[a]at h;exact h.elim
   | some b=>
    grind [P0,zC,ka,Go.Op.operands,Go.Call.operands]
 | slice T x G A H=>
  rw[e]at g h tmI pur;cases G with
  | some _=>cases g
  | none=>
   cases A with
   | none=>cases g
   | some A=>
    cases H with
    | some _=>cases g
    | none=>
     cases a:f.dst with
     | none=>rw[a]at h;exact h.elim
     | some b=>
      rw[a]at h;simp only[zC,ka]at h |-;cases J:RT N b with
      | false=>simp_all
      | true=>
       grind [QH,Go.Op.operands]
 | _=>rw[e]at g;cases g
theorem QE{a:Oper}(c:a.guard=none)(f:Qv a.op=true)(b:a.dst≠some d)(g:d∉a.looksAt ops)(i:∀t,(F t).uses d=false)(h:iE P TE N ops a K F) :
  iE P TE N ops a (λF1=>K F1/\bU (a.looksAt ops) F F1) F:=by
 refine jI (My (d:=d) (v:=F d) c f b g i (by rw[Nb];exact h)) λF1 j=>?_
 obtain⟨k,e,l,u⟩:=j
 grind [Nb]
theorem bU.setH{ts:List Nat}{t:Nat}{k:Kd}{cs:List C} : bU ts F (setH F t (.G k cs)):=λs e a=>by
 unfold Ab.setH at a;cases b:Nat.beq s t with
 | true=>rw[b]at a;cases a
 | false=>grind
variable{rcs:List C}
theorem HT(h:bN N F d (.G k rcs) K):bN N F d (.G k rcs) λF1=>K F1/\bU ts F F1:=by
 unfold bN at h |-;cases a:(N.free d&&!(AV.G k rcs).uses d) with
 | false=>grind
 | true=>rw[a]at h;exact⟨h,bU.put λe b=>by cases b⟩
theorem sQ{off:Nat}{st:cx}{K:(Nat->AV)->List C->Prop}(h:lendAt F t off st n K):lendAt F t off st n λF1 cs=>K F1 cs/\bU ts F F1:=by
 unfold lendAt at h |-;split at h
 all_goals grind [cY,bU.updH]
def kO{ts:List Nat} : ∀{xs:List (Operand × Nat)}{K:(Nat->AV)->List (MA × qL)->Prop}{F:Nat->AV},lendP xs K F->lendP xs (λF1 l=>K F1 l/\bU ts F F1) F
 | [],K,F,h=>⟨h,bU.refl _ _⟩
 | (x,0)::xs,K,F,h=>kO (xs:=xs) h
 | (x,1)::xs,K,F,h=>by
  simp only[lendP]at h |-;split at h
  case h_2=>exact h.elim
  split at h
  ·exact eD (sQ (ts:=ts) h) λF1 c h=>cm (kO (ts:=ts) h.1) λb l a=>⟨a.1,h.2.trans a.2⟩
  ·exact eD (sQ (ts:=ts) h) λF1 c h=>cm (kO (ts:=ts) h.1) λb l a=>⟨a.1,h.2.trans a.2⟩
  ·exact eD (sQ (ts:=ts) h) λF1 c h=>cm (kO (ts:=ts) h.1) λb l a=>⟨a.1,h.2.trans a.2⟩
  exact h.elim
 | (x,n+2)::xs,K,F,h=>by
  simp only[lendP]at h |-;split at h
  case h_2=>exact h.elim
  split at h
  ·split at h
   ·exact cm (kO (ts:=ts) h) λb l a=>⟨a.1,bU.kill.trans a.2⟩
   exact h.elim
  ·exact cm (kO (ts:=ts) h) λb l a=>⟨a.1,bU.kill.trans a.2⟩
  exact h.elim
theorem kY{ts:List Nat}{K:(Nat->AV)->Prop} : ∀{l:List (MA × qL)}{B:List MA}{F:Nat->AV},gw l B K F->gw l B (λF1=>K F1/\bU ts F F1) F
 | [],[],F,h=>⟨h,bU.refl _ _⟩
 | [],_::_,F,h=>h.elim
 | (m,.no)::l,[],F,h=>h.elim
 | (m,.at_ t off st)::l,[],F,h=>h.elim
 | (m,.box t)::l,[],F,h=>h.elim
 | (m,.no)::l,.val _ _::B,F,h=>kY (l:=l) (B:=B) h
 | (m,.no)::l,.mut _ _::B,F,h=>kY (l:=l) (B:=B) h
 | (m,.no)::l,.ptr _::B,F,h=>kY (l:=l) (B:=B) h
 | (m,.at_ t off st)::l,.val _ _::B,F,h=>h.elim
 | (m,.at_ t off st)::l,.ptr _::B,F,h=>h.elim
 | (m,.box t)::l,.val _ _::B,F,h=>h.elim
 | (m,.box t)::l,.mut _ _::B,F,h=>h.elim
 | (m,.at_ t off st)::l,.mut ag out::B,F,h=>by
  simp only[gw]at h |-;split at h
  case h_2=>exact h.elim
  split at h
  ·rename_i k c _ _
   cases d:Nat.ble (off+out.length) c.length with
   | false=>grind
   | true=>
    rw[d]at h;simp only[cond_true,cY]at h |-;exact db (λb a=>⟨a.1,bU.updH.trans a.2⟩) (kY (ts:=ts) h)
  obtain⟨r,j,e,f,g,i⟩:=Pu.out h;exact Pu.mk e f g rfl (db (λb a=>⟨a.1,bU.updH.trans a.2⟩) (kY (ts:=ts) i))
 | (m,.box t)::l,.ptr out::B,F,h=>by
  simp only[gw]at h |-;split at h
  ·exact db (λb a=>⟨a.1,bU.setH.trans a.2⟩) (kY (ts:=ts) h)
  exact h.elim
variable{modes:List Nat}{args:List Operand}{f:Nat}
theorem MP{d:Option Nat}(h:kZ P N F d f args modes K):kZ P N F d f args modes λF1=>K F1/\bU ts F F1:=by
 unfold kZ at h |-;refine cm (kO (ts:=ts) h) λn l h=>?_
 obtain⟨h,c⟩:=h;cases e:(uF l&&Nat.beq args.length modes.length) with
 | false=>grind
 | true=>
  rw[e]at h;refine jg h λb A h=>?_
  obtain⟨o,B,k,rcs,g,a,i⟩:=de.out h;refine CF g a (db (λF'' h=>?_) (kY (ts:=ts) i));obtain⟨h,j⟩:=h;cases d with
  | none=>grind [bU.trans]
  | some d=>exact bq (HT (ts:=ts) h) λp a=>⟨a.1,(c.trans j).trans a.2⟩
theorem Pt{d:Option Nat}{c a b:Nat}{B:List MA}(h:x7 N F d t cs c a e b K k rcs B):x7 N F d t cs c a e b (λF1=>K F1/\bU ts F F1) k rcs B:=by
 unfold x7 at h |-;split at h
 case h_2=>exact h.elim
 rename_i g i;cases j:(Nat.beq g.length a&&Nat.beq i.length b) with
 | false=>grind
 | true=>
  rw[j]at h;simp only[cond_true,cY]at h |-;cases d with
  | none=>exact⟨h,bU.kill.trans bU.setH⟩
  | some d=>exact bq (HT (ts:=ts) h) λl f=>⟨f.1,(bU.kill.trans bU.setH).trans f.2⟩
theorem Mv{d:Option Nat}{a b:Nat}(h:jX P N F d f args a b K):jX P N F d f args a b λF1=>K F1/\bU ts F F1:=by
 unfold jX at h |-;split at h
 case h_2=>exact h.elim
 refine kH h λt e h=>kH h λg c h=>?_
 split at h
 case h_2=>exact h.elim
 rename_i i p;cases j:(Nat.beq g t&&Nat.ble (e+a) c&&Nat.ble (c+b) i.length) with
 | false=>grind
 | true=>
  rw[j]at h;simp only[cond_true,cY]at h |-;obtain⟨q,B,k,rcs,l,n,o⟩:=de.out h;exact CF l n (Pt o)
def MI{d:Option Nat}(h:kg P N F d f args modes K):kg P N F d f args modes λF1=>K F1/\bU ts F F1:=by
 unfold kg at h |-;split
 ·rename_i p a;rw[a]at h;exact Mv h
 rename_i a;rw[a]at h;exact MP h
variable{s:Nat}
theorem Q3{dj:Option Nat}{a:Nat->AV}(u:bU ts F a):bU ts F (rv1 F dj s a):=by
 unfold rv1;split
 case h_2=>exact u
 rename_i t c f;cases g:(dne dj s&&dne dj t) with
 | false=>exact u
 | true=>
  simp only[cond_true];split
  case h_2=>exact u
  split
  case h_2=>exact u
  intro q e b;by_cases d:q=s
  ·grind [pj]
  rw[eN _ _ d]at b;exact u q e b
theorem GC{ts:List Nat}{dj:Option Nat} : ∀{l:List Nat}{a:Nat->AV},bU ts F a->bU ts F (rvE F dj l a)
 | [],_,u=>u
 | _::l,_,u=>GC (l:=l) (Q3 u)
theorem Pi{a:Oper}(k:a.guard=none)(i:oB a.op=true)(h:iE P TE N ops a K F):iE P TE N ops a (λF1=>K F1/\bU (a.looksAt ops) F F1) F:=by
 have pur:∀d,a.dst=some d->cX P TE F a.op (λg=>bN N F d g K)->cX P TE F a.op λg=>bN N F d g λF1=>K F1/\bU (a.looksAt ops) F F1:=λd l h=>by
  have n:fW P TE N ops a K F:=by grind [fW,eU]
  obtain⟨y,g,j,o⟩:=vI n;have b:=j.dst;rw[l]at b;simp only[Z0]at b;subst b;have A:=j.at_ F (CV _ _) (λF1=>K F1/\bU (a.looksAt ops) F F1) ⟨o,bU.put λe q=>(j.from_ e q).imp id ψ⟩
  grind [fW,eU]
 unfold iE eU at h |-;rw[k]at h |-;simp only at h |-;cases f:a.op with
 | call c=>
  rw[f]at h i;have r:qg c=none:=by grind [oB,qg]
  have pl:jU P TE N a K F->jU P TE N a (λF1=>K F1/\bU (a.looksAt ops) F F1) F:=λh=>by grind [jU,ka]
  cases t:zC N F (.call c) with
  | some p=>
   rw[t]at h;simp only at h |-;have lt:rO P N F a.dst p.1 p.2.1 p.2.2 K->rO P N F a.dst p.1 p.2.1 p.2.2 λF1=>K F1/\bU (a.looksAt ops) F F1:=λh=>qN (MI (ts:=a.looksAt ops) h) λF1 ⟨h,u⟩=>by grind [mW,GC]
   cases w:Ll N (.call c) with
   | false=>grind
   | true=>
    rw[w]at h;rcases h with h|h
    ·exact .pl (pl h)
    exact .lt (lt h)
  | none=>
   grind [jU]
 | _=>rw[f]at i;cases i
theorem NZ{a:Oper}(c:a.guard=none)(e:(Qv a.op || oB a.op)=true)(b:a.dst≠some d)(f:d∉a.looksAt ops)(g:∀t,(F t).uses d=false)(h:iE P TE N ops a K F) :
  iE P TE N ops a (λF1=>K F1/\bU (a.looksAt ops) F F1) F:=by grind [QE,Pi]
def Gq(d:Nat)(ts:List Nat)(F:Nat->AV)(K:(Nat->AV)->Prop)(F1:Nat->AV):Prop:=∃a,K (eff none d a F1)/\bU ts F F1
def Gq.trans{a:Nat->AV}(b:bU ts F F1)(h:Gq d ts F1 K a):Gq d ts F K a:=by
 obtain⟨c,e,f⟩:=h;exact⟨c,e,b.trans f⟩
theorem Dq(a:t≠d):setH (eff none d v F) t av=eff none d v (setH F t av):=by grind [lJ,eN,ce,setH]
theorem tF{off:Nat}{st:cx}{K:(Nat->AV)->List C->Prop}(h:lendAt (eff none d v F) t off st n K)(a:t≠d):lendAt F t off st n λF1 cs=>∃v1,K (eff none d v1 F1) cs/\bU ts F F1:=by
 unfold lendAt at h |-;rw[ce a]at h;split at h
 case h_2=>exact h.elim
 split at h
 ·grind [cY,mT,bU.updH]
 obtain⟨r,j,b,c,e,f⟩:=Lq.out h;refine .mk_ ?_
 grind [mT,bU.updH]
theorem mw{ts:List Nat}{d:Nat}(a:d∉ts):∀{xs:List (Operand × Nat)}{K:(Nat->AV)->List (MA × qL)->Prop}{F:Nat->AV}{v:AV},lendP xs K (eff none d v F)->(∀x,x∈xs->d∉tm x.1)->(∀t,(F t).uses d=false)->
  lendP xs (λF1 l=>(∃v1,K (eff none d v1 F1) l/\bU ts F F1)/\∀q,q∈l->d∉q.2.slot) F
 | [],K,F,v,h,_,_=>⟨⟨v,h,bU.refl _ _⟩,ψ⟩
 | (x,0)::xs,K,F,v,h,w,c=>by
  simp only[lendP]at h |-;refine cm (mw a h ψ c) λF1 l h=>⟨h.1,λq b=>?_⟩
  rcases List.mem_cons.1 b with rfl|b
  ·exact λu=>by cases u
  exact h.2 q b
 | (x,1)::xs,K,F,v,h,w,c=>by
  simp only[lendP]at h |-;split at h
  case h_2=>exact h.elim
  rename_i s;have j:s≠d:=λe=>w _ Z1 (by simp[tm,e])
  rw[ce j]at h;have y:∀{t:Nat}{F1:Nat->AV}{l:List (MA × qL)}{m:MA}{f:Nat}{A:cx}{K2:(Nat->AV)->List (MA × qL)->Prop},t≠d->((∃v1,K2 (eff none d v1 F1) ((m,.at_ t f A)::l)/\bU ts F F1)/\∀q,q∈l->d∉q.2.slot)->(∃v1,K2 (eff none d v1 F1) ((m,.at_ t f A)::l)/\bU ts F F1)/\∀q,q∈(m,qL.at_ t f A)::l->d∉q.2.slot:=λg h=>⟨h.1,λq b=>by
    rcases List.mem_cons.1 b with rfl|b
    · exact λu=>g (O1.1 u).symm
    exact h.2 q b⟩
  split at h
  ·exact eD (tF (ts:=ts) h j) λF1 k h=>by
    obtain⟨v1,h,i⟩:=h;exact cm (mw a h ψ (i.clean a c)) λB l h=>by
     obtain⟨⟨o,h,p⟩,r⟩:=h;exact y (K2:=K) j ⟨⟨o,h,i.trans p⟩,r⟩
  ·exact eD (tF (ts:=ts) h j) λF1 k h=>by
    obtain⟨v1,h,i⟩:=h;exact cm (mw a h ψ (i.clean a c)) λB l h=>by
     obtain⟨⟨o,h,p⟩,r⟩:=h;exact y (K2:=K) j ⟨⟨o,h,i.trans p⟩,r⟩
  ·rename_i t f A G D
   have g:t≠d:=λe=>by have:=c s;rw[D,e]at this;simp[AV.uses]at this
   exact eD (tF (ts:=ts) h g) λF1 k h=>by
    obtain⟨v1,h,i⟩:=h;exact cm (mw a h ψ (i.clean a c)) λB l h=>by
     obtain⟨⟨o,h,p⟩,r⟩:=h;exact y (K2:=K) g ⟨⟨o,h,i.trans p⟩,r⟩
  exact h.elim
 | (x,n+2)::xs,K,F,v,h,w,c=>by
  simp only[lendP]at h |-;split at h
  case h_2=>exact h.elim
  rename_i s;have j:s≠d:=λe=>w _ Z1 (by simp[tm,e])
  rw[ce j]at h;have y:∀{t:Nat}{k:List C},t≠d->lendP xs (λE l=>K E ((.ptr k,.box t)::l)) (kill (eff none d v F) t)->lendP xs (λF1 l=>(∃v1,K (eff none d v1 F1) ((.ptr k,.box t)::l)/\bU ts F F1)/\∀q,q∈(MA.ptr k,qL.box t)::l->d∉q.2.slot) (kill F t):=fun {t k} g h=>by
   rw[Dr g]at h;refine cm (mw a h ψ ((bU.kill (ts:=ts)).clean a c)) λB l h=>?_
   obtain⟨⟨o,h,p⟩,r⟩:=h;refine⟨⟨o,h,bU.kill.trans p⟩,λq b=>?_⟩;rcases List.mem_cons.1 b with rfl|b
   ·exact λu=>g (O1.1 u).symm
   exact r q b
  split at h
  ·rename_i t D
   have g:t≠d:=λe=>by have:=c s;rw[D,e]at this;simp[AV.uses]at this
   rw[ce g]at h;split at h
   all_goals simp_all
  all_goals simp_all
theorem rF{d:Nat}{v:AV}(a:∀t,(F t).uses d=false):∀{l:List (MA × qL)}{xs:List Operand}{K:Bool->List MA->Prop},valsP (eff none d v F) l xs K->(∀x,x∈xs->d∉tm x)->valsP F l xs K
 | [],[],K,h,_=>h
 | (m,.no)::l,x::xs,K,h,b=>by
  obtain⟨f,g,c,e⟩:=cq h;exact e F (lO ψ a) _ (rF a c ψ)
 | (m,.at_ t off st)::l,x::xs,K,h,b=>rF (l:=l) (xs:=xs) a h ψ
 | (m,.box t)::l,x::xs,K,h,b=>rF (l:=l) (xs:=xs) a h ψ
 | [],_::_,K,h,_=>h.elim
 | (m,.no)::l,[],K,h,_=>h.elim
 | (m,.at_ t off st)::l,[],K,h,_=>h.elim
 | (m,.box t)::l,[],K,h,_=>h.elim
theorem kS{ts:List Nat}{d:Nat}{K:(Nat->AV)->Prop} : ∀{l:List (MA × qL)}{B:List MA}{F:Nat->AV}{v:AV},gw l B K (eff none d v F)->(∀q,q∈l->d∉q.2.slot)->gw l B (Gq d ts F K) F
 | [],[],F,v,h,_=>⟨v,h,bU.refl _ _⟩
 | [],_::_,F,v,h,_=>h.elim
 | (m,.no)::l,[],F,v,h,_=>h.elim
 | (m,.at_ t off st)::l,[],F,v,h,_=>h.elim
 | (m,.box t)::l,[],F,v,h,_=>h.elim
 | (m,.no)::l,.val _ _::B,F,v,h,b=>kS (l:=l) (B:=B) h ψ
 | (m,.no)::l,.mut _ _::B,F,v,h,b=>kS (l:=l) (B:=B) h ψ
 | (m,.no)::l,.ptr _::B,F,v,h,b=>kS (l:=l) (B:=B) h ψ
 | (m,.at_ t off st)::l,.val _ _::B,F,v,h,_=>h.elim
 | (m,.at_ t off st)::l,.ptr _::B,F,v,h,_=>h.elim
 | (m,.box t)::l,.val _ _::B,F,v,h,_=>h.elim
 | (m,.box t)::l,.mut _ _::B,F,v,h,_=>h.elim
 | (m,.at_ t off st)::l,.mut ag out::B,F,v,h,b=>by
  have c:t≠d:=λe=>b _ Z1 (by simp[qL.slot,e])
  have a:∀q,q∈l->d∉q.2.slot:=ψ
  simp only[gw]at h |-;rw[ce c]at h;split at h
  case h_2=>exact h.elim
  split at h
  ·rename_i k n _ _
   cases o:Nat.ble (off+out.length) n.length with
   | false=>grind
   | true=>
    rw[o]at h;simp only[cond_true,cY]at h |-;rw[mT c]at h;exact db (λg f=>Gq.trans bU.updH f) (kS (ts:=ts) h a)
  obtain⟨r,j,p,u,w,i⟩:=Pu.out h;rw[mT c]at i;exact Pu.mk p u w rfl (db (λg f=>Gq.trans bU.updH f) (kS (ts:=ts) i a))
 | (m,.box t)::l,.ptr out::B,F,v,h,b=>by
  have c:t≠d:=λe=>b _ Z1 (by simp[qL.slot,e])
  have a:∀q,q∈l->d∉q.2.slot:=ψ
  simp only[gw]at h |-;rw[ce c]at h;split at h
  ·rw[Dq c]at h
   exact db (λg f=>Gq.trans bU.setH f) (kS (ts:=ts) h a)
  exact h.elim
theorem Ls{dj:Option Nat}(h:kZ P N (eff none d v F) dj f args modes K)(n:dj≠some d)(a:d∉ts)(g:∀x,x∈args->d∉tm x)(i:∀t,(F t).uses d=false) :
  kZ P N F dj f args modes (Gq d ts F K):=by
 unfold kZ at h |-;refine cm (mw a h (λx o=>g _ (List.of_mem_zip o).1) i) λE l h=>?_
 obtain⟨⟨G,h,c⟩,p⟩:=h;cases q:(uF l&&Nat.beq args.length modes.length) with
 | false=>grind
 | true=>
  rw[q]at h;refine jg (rF (c.clean a i) h g) λb A h=>?_
  obtain⟨H,B,k,rcs,r,e,u⟩:=de.out h;refine CF r e (db (λF'' h=>?_) (kS (ts:=ts) u p));obtain⟨w,h,j⟩:=h;cases dj with
  | none=>exact⟨w,h,c.trans j⟩
  | some dj=>
   refine bq (gq (ts:=ts) h ψ iK) λJ e=>?_
   obtain⟨y,-,C,D⟩:=e;exact⟨y,C,(c.trans j).trans D⟩
theorem P8{dj:Option Nat}{c a b:Nat}{B:List MA}(f:t≠d)(g:dj≠some d)(h:x7 N (eff none d v F) dj t cs c a e b K k rcs B):x7 N F dj t cs c a e b (Gq d ts F K) k rcs B:=by
 unfold x7 at h |-;split at h
 case h_2=>exact h.elim
 rename_i i j;cases l:(Nat.beq i.length a&&Nat.beq j.length b) with
 | false=>grind
 | true=>
  rw[l]at h;simp only[cond_true,cY]at h |-;rw[Dr f,Dq f]at h;cases dj with
  | none=>exact⟨_,h,bU.kill.trans bU.setH⟩
  | some dj=>
   refine bq (gq (ts:=ts) h ψ iK) λr n=>?_
   obtain⟨o,-,p,q⟩:=n;exact⟨o,p,(bU.kill.trans bU.setH).trans q⟩
theorem HL{K:Nat->Nat->Prop}(b:d∉tm x)(c:∀t,(F t).uses d=false)(h:yQ (eff none d v F) x K):yQ F x λt o=>t≠d/\K t o:=by
 obtain⟨s,t,f,rfl,a,i⟩:=rH h;have g:s≠d:=λe=>b (by simp[tm,e])
 rw[ce g]at a;have j:t≠d:=λe=>by have:=c s;rw[a,e]at this;simp[AV.uses]at this
 grind [yQ]
theorem Mf{dj:Option Nat}{a b:Nat}(h:jX P N (eff none d v F) dj f args a b K)(g:dj≠some d)(c:∀x,x∈args->d∉tm x)(e:∀t,(F t).uses d=false) :
  jX P N F dj f args a b (Gq d ts F K):=by
 unfold jX at h |-;split at h
 case h_2=>exact h.elim
 refine kH (HL (c _ (by simp)) e h) λt j h=>?_
 obtain⟨i,h⟩:=h;refine kH (HL (c _ (by simp)) e h) λk l h=>?_
 replace h:=h.2;rw[ce i]at h;split at h
 all_goals grind [cY,de.out,CF,P8]
theorem Nu{dj:Option Nat}(h:kg P N (eff none d v F) dj f args modes K)(a:dj≠some d)(b:d∉ts)(c:∀x,x∈args->d∉tm x)(e:∀t,(F t).uses d=false) :
  kg P N F dj f args modes (Gq d ts F K):=by grind [Mf,Ls,kg]
theorem P9{dj:Option Nat}{q:Nat}(c:q≠s):rv1 F dj s F1 q=F1 q:=by
 unfold rv1;cases F s with
 | ref t a b=>
  cases b with
  | cons=>rfl
  | nil=>
   simp only;cases(dne dj s&&dne dj t) with
   | false=>rfl
   | true=>
    simp only[cond_true];cases F1 t with
    | G k d=>
     cases k with
     | box=>
      simp only;cases F1 s with
      | dead=>grind [eN]
      | _=>rfl
     | _=>rfl
    | _=>rfl
 | _=>rfl
theorem Qy{dj:Option Nat}{v1:AV}(c:∀t,(F t).uses d=false):∃a,rv1 (eff none d v F) dj s (eff none d v1 F1)=eff none d a (rv1 F dj s F1):=by
 by_cases b:s=d
 ·subst b
  have f:∃a,rv1 (eff none s v F) dj s (eff none s v1 F1)=eff none s a F1:=by
   unfold rv1;rw[lJ];have set:∀x:AV,setH (eff none s v1 F1) s x=eff none s x F1:=λx=>by grind [pj,lJ,eN,ce]
   grind
  obtain⟨a,g⟩:=f;refine⟨a,g.trans ?_⟩
  grind [lJ,ce,P9]
 refine⟨v1,?_⟩;unfold rv1;rw[ce b];cases h:F s with
 | ref t i j=>
  cases j with
  | cons=>rfl
  | nil=>
   have k:t≠d:=λe=>by have:=c s;rw[h,e]at this;simp[AV.uses]at this
   grind [ce,Dq]
 | _=>rfl
def LO{d:Nat}{dj:Option Nat}{v:AV}(a:∀t,(F t).uses d=false):∀{l:List Nat}{v1:AV}{F1:Nat->AV},∃b,rvE (eff none d v F) dj l (eff none d v1 F1)=eff none d b (rvE F dj l F1)
 | [],v1,_=>⟨v1,rfl⟩
 | s::l,v1,F1=>by
  simp only[rvE];obtain⟨b,e⟩:=Qy (dj:=dj) (v:=v) (v1:=v1) (s:=s) (F1:=F1) a;rw[e];exact LO a
theorem Pq{a:Oper}(B:a.guard=none)(k:oB a.op=true)(g:a.dst≠some d)(w:d∉a.looksAt ops)(n:∀t,(F t).uses d=false)(h:iE P TE N ops a K (eff none d v F)) :
  iE P TE N ops a (Gq d (a.looksAt ops) F K) F:=by
 have f:∀t,t∈dl a.op->t∈a.looksAt ops:=λt o=>hB a t o
 have tmI:∀x,x∈a.op.operands.toList->∀t,t∈tm x->t∈a.looksAt ops:=λx y t o=>f t (List.mem_flatMap.2 ⟨x,y,o⟩)
 have pur:∀dj,dj≠d->cX P TE (eff none d v F) a.op (λj=>bN N (eff none d v F) dj j K)->cX P TE F a.op λj=>bN N F dj j (Fq d (a.looksAt ops) v F K):=λdj g h=>
  Bb (p:=λF K=>cX P TE F a.op K) (jD h) g f w n
 unfold iE eU at h |-;rw[B]at h |-;simp only at h |-;cases b:a.op with
 | call c=>
  rw[b]at h k tmI;have q:qg c=none:=by grind [oB,qg]
  have r:zC N (eff none d v F) (.call c)=zC N F (.call c):=by grind [oB,zC]
  rw[r]at h;have pl:jU P TE N a K (eff none d v F)->jU P TE N a (Gq d (a.looksAt ops) F K) F:=λh=>by
   unfold jU at h |-;rw[b]at h |-;cases C:a.dst with
   | none=>grind
   | some dj=>
    rw[C]at h;simp only[ka,q]at h |-;have A:=pur dj ψ;rw[b]at A;obtain⟨j,D,-,E⟩:=jD (A h);exact E F (CV _ _) _ (bq D λQ G=>by
      obtain⟨v1,-,H,u⟩:=G;exact⟨v1,H,u⟩)
  cases J:zC N F (.call c) with
  | some p=>
   rw[J]at h;simp only at h |-;have i:∀x,x∈p.2.1->d∉tm x:=λx y L=>by grind [oB,zC,Go.Op.operands,Go.Call.operands]
   have lt:rO P N (eff none d v F) a.dst p.1 p.2.1 p.2.2 K->rO P N F a.dst p.1 p.2.1 p.2.2 (Gq d (a.looksAt ops) F K):=λh=>qN (Nu (ts:=a.looksAt ops) h g w i n) λF1 h=>by
    obtain⟨v1,h,u⟩:=h;rw[mW]at h |-;obtain⟨M,e⟩:=LO (dj:=a.dst) (v:=v) (l:=RN N.mo) (v1:=v1) (F1:=F1) n;rw[e]at h;exact⟨M,h,GC u⟩
   cases O:Ll N (.call c) with
   | false=>grind
   | true=>
    rw[O]at h;rcases h with h|h
    ·exact .pl (pl h)
    exact .lt (lt h)
  | none=>
   grind [jU]
 | _=>rw[b]at k;cases k
theorem PX{a:Oper}(e:a.guard=none)(b:(Qv a.op || oB a.op)=true)(c:a.dst≠some d)(f:d∉a.looksAt ops)(g:∀t,(F t).uses d=false)(h:iE P TE N ops a K (eff none d v F)) :
  iE P TE N ops a (Gq d (a.looksAt ops) F K) F:=by
 rw[T5]at b;rcases b with b|b
 ·refine jI (My e b c f g h) λl i=>?_
  obtain⟨j,-,k,u⟩:=i;exact⟨j,k,u⟩
 grind [Pq]
structure lN(ops:Array Oper)(ds:List Nat)(F:Nat->AV)(listed:Array Bool):Prop where
 dst:∀(j:Nat)(o:Oper)(d:Nat),pJ ds o=true->ops[j]? = some o->listed.getD j true=false->o.dst=some d->∀t,(F t).uses d=false
 mv:∀(j:Nat)(o:Oper)(T:Option Nat)(s:Nat),pJ ds o=true->ops[j]? = some o->listed.getD j true=false->o.guard=none->nj o.op=some (T,s)->iN ops o s=true->∀t,(F t).uses s=false
variable{j:Nat}
theorem lN.put{o:Option Nat}(h:lN ops ds F listed)(p:∀b a g,pJ ds a=true->b≠j->ops[b]? = some a->listed.getD b true=false->a.dst=some g->av.uses g=false)(q:∀b a T s,pJ ds a=true->b≠j->ops[b]? = some a->listed.getD b true=false->a.guard=none->nj a.op=some (T,s)->iN ops a s=true->av.uses s=false) :
  lN ops ds (eff o d av F) (listed.setIfInBounds j true):=by
 refine⟨λb a g i c e k t=>?_,λb a T s i c e r l n t=>?_⟩
 ·have f:=hO e
  rw[getD_set_ne true (Ne.symm f)]at e;exact jP ψ (h.dst b a g i c e k t)
 have f:=hO e;rw[getD_set_ne true (Ne.symm f)]at e;exact jP ψ (h.mv b a T s i c e r l n t)
theorem xE{o:Oper}(h:Rp o=true):o.guard=none:=by grind [Rp]
theorem Le(h:(!ts.any (Nat.beq d))=true):d∉ts:=λa=>by grind [Nat.beq_refl]
theorem KV{a b:Oper}{c:Bool}(h:R9 ops a b c=true)(f:b.dst=some d):a.guard=none/\(Qv a.op || oB a.op)=true/\a.dst≠some d/\d∉a.looksAt ops/\b.guard=none/\d∉b.looksAt ops/\(c=true\/∀T s,nj b.op=some (T,s)->iN ops b s=false):=by
 unfold R9 at h;rw[f]at h;simp only[I0]at h;obtain⟨⟨⟨⟨⟨⟨g,i⟩,n⟩,j⟩,k⟩,l⟩,o⟩:=h;refine⟨xE g,i,λe=>?_,Le j,xE k,Le l,?_⟩
 ·simp_all
 grind
def Lz(h:uV ops j i=true):n8 ops j i:=rr j _ (λ_ a=>.one (yn a)) i h
theorem Hz{o:Oper}(h:pJ ds o=true):∃d,o.dst=some d/\ds.any (Nat.beq d)=true:=by grind [pJ]
structure Qt(ops:Array Oper)(ds:List Nat)(nm:Nat->Bool):Prop where
 back:∀(j:Nat)(oj:Oper),ops[j]? = some oj->∀e∈oj.after,Region.binds .any e=true->e.on<j
 apart:∀(i j:Nat)(oi oj:Oper),pJ ds oi=true->pJ ds oj=true->i≠j->ops[i]? = some oi->ops[j]? = some oj->cR oj i=true\/cR oi j=true\/oi.apart ops oj=true
 look:∀(i j:Nat)(oi oj:Oper)(d:Nat),pJ ds oi=true->i≠j->ops[i]? = some oi->ops[j]? = some oj->oi.dst=some d->d∈oj.looksAt ops->cR oj i=true
 differ:∀(i j:Nat)(oi oj:Oper)(d:Nat),pJ ds oi=true->pJ ds oj=true->i≠j->ops[i]? = some oi->ops[j]? = some oj->oi.dst=some d->oj.dst≠some d
 nf:∀(i j:Nat)(oi oj:Oper),pJ ds oi=true->pJ ds oj=false->i≠j->ops[i]? = some oi->ops[j]? = some oj->uV ops j i=true\/uV ops i j=true\/R9 ops oj oi (nm i)=true
 mvs:∀(j:Nat)(oj:Oper)(T:Option Nat)(s:Nat),pJ ds oj=true->ops[j]? = some oj->nj oj.op=some (T,s)->iN ops oj s=true->ds.any (Nat.beq s)=true
theorem nU{d:Oper}(a:Qt ops ds nm)(b:DC ops listed)(c:ops[j]? = some d)(f:∀e∈d.after,Region.binds .any e=true->listed.getD e.on false=true)(g:uV ops j i=true):listed.getD i false=true:=
 mX b a.back (Lz g) (U3.1 c).1 λk h=>by grind [bu,cn]
theorem unl{k:Nat}(h1:listed.getD k true=false)(a:listed.getD k false=true):False:=ψ
theorem gz.trans{a:Nat->AV}(h1:gz F F1 ts)(c:gz F1 a ts):gz F a ts:=λt b=>by
 obtain⟨d,e⟩:=h1 t b;obtain⟨f,g⟩:=c t b
 grind
theorem lN.us{g:Oper}(n:Qt ops ds nm)(h:lN ops ds F listed)(o:ops[j]? = some g)(r:∀e∈g.after,Region.binds .any e=true->listed.getD e.on false=true)(u:bU (g.looksAt ops) F F1):lN ops ds F1 (listed.setIfInBounds j true):=by
 refine⟨λi k t l b c d=>u.clean (λf=>?_) (h.dst i k t l b ?_ d),λi k T s l b c w p q=>u.clean (λf=>?_) (h.mv i k T s l b ?_ w p q)⟩
 ·have a:=hO c
  rw[getD_set_ne true (Ne.symm a)]at c;have:=n.look i j k g t l a b o d f
  grind [cn]
 ·have a:=hO c
  rwa [getD_set_ne true (Ne.symm a)]at c
 ·grind [hO,fK,cO]
 have a:=hO c
 rwa [getD_set_ne true (Ne.symm a)]at c
theorem Qz{p:Nat}{b:Oper}(a:ops[p]? = some b)(j:d∉b.looksAt ops)(k:∀t,(F1 t).uses d=false)(e:b.dst≠some d)(h:Rh P TE ops p (eff none d v F1)):Rh P TE ops p F1:=by
 obtain⟨f,g,i,c⟩:=h;rw[bu a]at g i c;refine⟨f,by grind [bu],?_,?_⟩
 ·grind [bu,v6,lO]
 rw[bu a];obtain⟨l,n,-,o⟩:=jD c
 grind [ce,lO,hB]
theorem Ga(W:Qt ops ds nm){b:Oper}(D:ops[i]? = some b)(w:pJ ds b=true) :
  ∀(fuel:Nat)(listed:Array Bool)(F:Nat->AV)(l:Option Nat)(av:AV),i∈Region.ready .any ops listed->lN ops ds F listed->DC ops listed->Yl P TE N ops b F l d av->(nm i=true->l=none)->Ep P TE N ops ds K fuel (listed.setIfInBounds i true) (eff l d av F)->Ep P TE N ops ds K (fuel+1) listed F:=by
 have self:∀(listed:Array Bool)(F:Nat->AV)(l:Option Nat)(av:AV),i∈Region.ready .any ops listed->lN ops ds F listed->Yl P TE N ops b F l d av->∀X:(Nat->AV)->Prop,X (eff l d av F)->lc P TE N ops b X F:=λlisted F l av hr a c X hK=>by
  have f:=(mem_ready.1 hr).1;refine c.at_ F (CV _ _) (a.dst i b d w D f c.dst) (λs hs=>?_) X hK;obtain⟨B,⟨T,h2⟩,h3⟩:=c.mvl s hs;exact a.mv i b T s w D f B h2 h3
 intro fuel
 induction fuel with
 | zero=>
  intro listed F l av hr a E c hnm H;refine⟨ψ,λj hj=>?_⟩;by_cases n:j=i
  ·grind [uv]
  have:=ready_mono hj n;rw[H.1]at this;cases this
 | succ fuel ih=>
  intro listed F l av hr a E c hnm H;refine⟨ψ,λj hj=>?_⟩;by_cases n:j=i
  ·grind [uv]
  have B:=H.2 j (ready_mono hj n);obtain⟨R,g,q,hall⟩:=mem_ready.1 hj;obtain⟨f,oi',C,halli⟩:=mem_ready.1 hr;rw[D]at C;simp only[Z0]at C;subst C;have noedge:∀k ok,ops[k]? = some ok->listed.getD k true=false->cR g k=false:=λk ok hk hkun=>by grind [cn]
  have noedge':∀k ok,ops[k]? = some ok->listed.getD k true=false->cR b k=false:=λk ok hk hkun=>by grind [cn]
  have cd:∀t,(F t).uses d=false:=a.dst i b d w D f c.dst
  unfold uv at B |-;rw[q]at B |-;simp only at B |-;by_cases G:pJ ds g=true
  case neg=>
   rw[C8 G]at B |-;have hji1:uV ops j i=false:=by grind [nU]
   have hij1:uV ops i j=false:=by grind [nU]
   have hfb:R9 ops g b (nm i)=true:=by grind [Qt.nf]
   obtain⟨J,r,A,g4,g5,g6,g7⟩:=KV hfb c.dst;have hmv:l=none:=by
    cases l with
    | none=>rfl
    | some s=>
     obtain⟨-,⟨T,q1⟩,q2⟩:=c.mvl s rfl
     grind
   subst hmv;refine jI (PX J r A g4 cd B) λF1 hF1=>?_
   obtain⟨v,⟨S,hrun⟩,u⟩:=hF1;have cd1:∀t,(F1 t).uses d=false:=u.clean g4 cd
   have hisz:i<listed.size:=ψ
   have hrd:Rh P TE ops i (eff none d v F1):=S i (by simp[hisz]) (by grind [bu]) hji1;refine⟨λp hp1 L hp3=>?_,ih (listed.setIfInBounds j true) F1 none v (ready_mono hr (Ne.symm n)) (a.us W q hall u) (E.put hj) ?_ (λ_=>rfl) (by grind [Array.setIfInBounds_comm])⟩
   ·have hpi:p≠i:=ψ
    have hpl:p<ops.size:=by
     rcases Nat.lt_or_ge p ops.size with h|h
     ·exact h
     rw[show dd ops p=default by simp[dd,W5,Array.getElem?_eq_none h]]at L;cases L
    have h0:ops[p]? = some ops[p]:=ψ
    have U:=L;rw[bu h0]at U;refine Qz h0 (λhlk=>?_) cd1 (W.differ i p b _ d w U (Ne.symm hpi) D h0 c.dst) (S p (getD_set_true hp1) L hp3);have:=W.look i p b _ d w (Ne.symm hpi) D h0 c.dst hlk;exact unl f (E p _ h0 hp1 i this)
   obtain⟨dp,q1,q2,q3⟩:=hrd;rw[bu D]at q1 q2 q3;have hdp:dp=d:=by grind [Yl.dst]
   subst hdp;rw[lJ]at q3;obtain⟨M,e1,e2,e3⟩:=jD q3;subst e1;have agr1:gz (eff none dp M F1) F1 (b.looksAt ops):=lO g6 cd1;have fromv:dS F1 (b.looksAt ops) M:=λe he=>by
    rcases e2 e he with h|⟨t,Y,h⟩
    all_goals grind [hB,ce]
   have Z:M.uses dp=false:=by
    cases hu:M.uses dp with
    | false=>rfl
    | true=>
     rcases fromv dp hu with h|⟨t,_,h⟩
     all_goals grind
   refine⟨c.dst,c.lt,Z,fromv,ψ,λF' hA O _ X hK=>?_⟩;have agr2:=agr1.trans hA;unfold lc;rw[v6 agr2,q2];simp only;unfold fW eU
   grind [gz.mono,hB,Yl.lt,Bg,bN]
  rw[CA G]at B |-;have hap:b.apart ops g=true:=by grind [Qt.apart]
  obtain⟨ap1,ap2,ap3⟩:=Oper.apart_spec hap;have hdl:d∉g.looksAt ops:=ap1 d c.dst;have cdj':∀o,g.dst=some o->∀t,(F t).uses o=false:=λo hdj=>a.dst j g o G q R hdj
  have cmv:∀s,l=some s->(∀t,(F t).uses s=false)/\s∉g.looksAt ops/\s∈b.looksAt ops:=λs hs=>by
   obtain⟨J,⟨T,r⟩,A⟩:=c.mvl s hs;exact⟨a.mv i b T s w D f J r A,λhl=>n ((fK A).2 i j b g D q (cO r) hl).symm,cO r⟩
  have cmvj:∀T s,g.guard=none->nj g.op=some (T,s)->iN ops g s=true->(∀t,(F t).uses s=false)/\s∉b.looksAt ops/\s∈g.looksAt ops:=λT s J r A=>
   ⟨a.mv j g T s G q R J r A,λhl=>n ((fK A).2 i j b g D q hl (cO r)).symm,cO r⟩
  have avno:∀e,e∉b.looksAt ops->(∀t,(F t).uses e=false)->av.uses e=false:=λe B h2=>by
   cases hu:av.uses e with
   | false=>rfl
   | true=>
    rcases c.from_ e hu with h|⟨t,_,h⟩
    all_goals grind
  obtain⟨mvj,o,avj,y,hKj⟩:=p7 B (λo hdj t=>jP ψ (cdj' o hdj t)) (λT s J r A t=>by grind [jP]);have hdne:d≠o:=λe=>ap2 d c.dst (by rw[y.dst,e])
  have hdjl:o∉b.looksAt ops:=ap3 o y.dst;have cdj:∀t,(F t).uses o=false:=cdj' o y.dst
  have cmj:∀s,mvj=some s->(∀t,(F t).uses s=false)/\s∉b.looksAt ops/\s∈g.looksAt ops:=λs hs=>by
   obtain⟨J,⟨T,r⟩,A⟩:=y.mvl s hs
   grind
  have lookj:∀t,t∈g.looksAt ops->eff l d av F t=F t:=λt Y=>by grind [eff]
  have looki:∀t,t∈b.looksAt ops->eff mvj o avj F t=F t:=λt Y=>by grind [eff]
  have avjno:∀e,e∉g.looksAt ops->(∀t,(F t).uses e=false)->avj.uses e=false:=λe B h2=>by
   cases hu:avj.uses e with
   | false=>rfl
   | true=>
    rcases y.from_ e hu with h|⟨t,Y,h⟩
    all_goals grind
  have agrj:gz (eff l d av F) F (g.looksAt ops):=λt Y=>by grind [eff]
  refine y.at_ F agrj cdj ψ _ (ih (listed.setIfInBounds j true) (eff mvj o avj F) l av (ready_mono hr (Ne.symm n)) (a.put (λj' o' d' hm' V Q hl' O=>?_) (λj' o' T s hm' V Q hl' J r A=>?_)) (E.put hj) ?_ hnm ?_)
  ·refine avjno d' (λh=>?_) (a.dst j' o' d' hm' Q hl' O)
   grind [Qt.look]
  ·exact avjno s (λh=>V ((fK A).2 j' j o' g Q q (cO r) h)) (a.mv j' o' T s hm' Q hl' J r A)
  ·refine⟨c.dst,c.lt,c.self,λe he=>?_,c.mvl,λF' hA O hs' X hK=>c.at_ F' (λt Y=>?_) O hs' X hK⟩
   ·rcases c.from_ e he with h|⟨t,Y,h⟩
    all_goals grind
   obtain⟨a1,a2⟩:=hA t Y
   grind [eff]
  rw[Array.setIfInBounds_comm _ _ n];have:eff l d av (eff mvj o avj F)=eff mvj o avj (eff l d av F):=by grind [eff]
  grind
theorem A3:∀{b:List Nat}{X:Prop}{F:Nat->AV},LF P TE ops b X F->X/\∀p,p∈b->Rh P TE ops p F
 | [],X,F,h=>⟨h,ψ⟩
 | p::l,X,F,h=>by
  simp only[LF]at h;unfold RD at h;cases c:(dd ops p).dst with
  | none=>grind
  | some d=>
   rw[c]at h;simp only at h;cases f:Jz F (dd ops p) with
   | some q=>grind
   | none=>
    rw[f]at h;simp only at h;obtain⟨g,i,-,-⟩:=jD h;obtain⟨e,k,j⟩:=(show g=F d/\X/\∀p,p∈l->Rh P TE ops p F from⟨i.out.1,A3 i.out.2⟩)
    refine⟨k,λn a=>?_⟩;rcases List.mem_cons.1 a with rfl|a
    ·exact⟨d,c,f,jj h λg h=>h.out.1⟩
    grind
variable{l:List (Nat × List Nat)}
theorem sK : xn l i=true↔∃p,p∈l/\p.1=i:=by grind [I2,Nat.beq_refl,xn]
theorem pi{k:Nat × List Nat} : xn (k::l) i=(Nat.beq k.1 i || xn l i):=rfl
theorem BJ(b:Qt ops ds nm){K:(Nat->AV)->Prop} : ∀(l:List (Nat × List Nat))(listed:Array Bool)(F:Nat->AV),Fu ops ds l=true->listed.size=ops.size->(∀j,j<ops.size->listed.getD j true = !xn l j)->lN ops ds F listed->DC ops listed->
  K7 P TE N ops ds nm l K F->Ep P TE N ops ds K l.length listed F
 | [],listed,F,_,hs,E,_,_,c=>by
  refine⟨?_,c⟩;apply List.eq_nil_iff_forall_not_mem.2;intro j R;obtain⟨S,o,ho,-⟩:=mem_ready.1 R;have G:=(U3.1 ho).1;rw[E j G]at S;cases S
 | k::l,listed,F,A,hs,E,a,H,c=>by
  simp only[Fu,I0]at A;obtain⟨⟨⟨⟨q1,q2⟩,q3⟩,Z⟩,q5⟩:=A;have hk:k.1<ops.size:=by simp_all
  have r:ops[k.1]? = some ops[k.1]:=ψ
  have hrf:∀i,i<ops.size->listed.getD i true=true->listed.getD i false=true:=ψ
  have hready:k.1∈Region.ready .any ops listed:=mem_ready.2 ⟨by grind [pi,Nat.beq_refl],_,r,λe he hb=>by
    have G:=b.back k.1 _ r e he hb
    grind [bu,pi]⟩
  have B:∀j,j<ops.size->(listed.setIfInBounds k.1 true).getD j true = !xn l j:=λj R=>by
   by_cases w:j=k.1
   ·simp_all
   rw[getD_set_ne true (Ne.symm w),E j R,pi,show Nat.beq k.1 j=false by rw[<-Z4,Nat.beq_eq];exact Ne.symm w];rfl
  show Ep P TE N ops ds K (l.length+1) listed F;simp only[K7]at c;rw[bu r]at c Z;have U:listed.getD k.1 true=false:=(mem_ready.1 hready).1;cases f:pJ ds ops[k.1] with
  | true=>
   rw[f]at c;simp only[cond_true]at c;obtain⟨mv,d,av,hy,c,hnm⟩:=K5 c (λd hd=>a.dst k.1 _ d f r U hd) (λT s g1 g2 g3=>a.mv k.1 _ T s f r U g1 g2 g3);have C:∀e∈ops[k.1].after,Region.binds .any e=true->listed.getD e.on false=true:=by grind [Go.mem_ready]
   refine Ga b r f l.length listed F mv av hready a H hy hnm (BJ b l _ _ q5 (by simpa using hs) B (a.put (λO Q V g D n hl'' J=>?_) (λO Q T s g D n hl'' g1 g2 g3=>?_)) (H.put hready) c)
   ·cases hu:av.uses V with
    | false=>rfl
    | true=>
     rcases hy.from_ V hu with h|⟨t,_,h⟩
     ·have:=b.look O k.1 Q _ V g D n r J h
      grind [cn]
     rw[a.dst O Q V g n hl'' J t]at h;cases h
   cases hu:av.uses s with
   | false=>rfl
   | true=>
    rcases hy.from_ s hu with h|⟨t,_,h⟩
    ·grind [fK,cO]
    rw[a.mv O Q T s g n hl'' g1 g2 g3 t]at h;cases h
  | false=>
   rw[f]at c Z;simp only[cond_false]at c;simp only[Bool.false_or,I0]at Z;obtain⟨⟨r1,r2⟩,r3⟩:=Z;refine⟨ψ,λj R=>?_⟩;obtain⟨hjun,oj,y,C⟩:=mem_ready.1 R;have hjlt:=(U3.1 y).1;have w:j=k.1:=by grind [sK,nU]
   subst w;rw[r]at y;simp only[Z0]at y;subst y;unfold uv;rw[r];simp only[f,C8 (show ¬false=true by decide)];have post:∀u,LF P TE ops k.2 (K7 P TE N ops ds nm l K u) u->lN ops ds u (listed.setIfInBounds k.1 true)->(∀p,listed.getD p false=true->pJ ds (dd ops p)=true->uV ops k.1 p=false->Rh P TE ops p u)/\Ep P TE N ops ds K l.length (listed.setIfInBounds k.1 true) u:=λu L W=>by
    obtain⟨X,hrd⟩:=A3 L;refine⟨λp hp1 hp2 hp3=>hrd p ?_,BJ b l _ _ q5 (by simpa using hs) B W (H.put hready) X⟩;have hpl:p<ops.size:=ψ
    grind [gi,pi,I2]
   cases hlater:l.any (λj=>pJ ds (dd ops j.1)) with
   | false=>
    refine jI c λu L=>post u L ⟨λO Q V g n hl'' J=>?_,λO Q T s g n hl''=>?_⟩
    all_goals grind [sK,bu]
   | true=>
    rw[hlater]at r3;simp only[Bool.not_true,Bool.false_or,I0]at r3;obtain⟨x,hx1,q⟩:=Y3.1 hlater;have Y:listed.getD x.1 true=false/\x.1<ops.size:=by
     have G:x.1<ops.size:=by
      rcases Nat.lt_or_ge x.1 ops.size with h|h
      ·exact h
      rw[show dd ops x.1=default by simp[dd,W5,Array.getElem?_eq_none h]]at q;cases q
     grind [sK]
    have M:ops[x.1]? = some ops[x.1]:=ψ
    rw[bu M]at q;obtain⟨d,hd,hdd⟩:=Hz q;have hxk:x.1≠k.1:=ψ
    refine jI (NZ (d:=d) (xE r3.1) r3.2 (λe=>?_) (λhlk=>?_) (a.dst x.1 _ d q M Y.1 hd) c) λu S=>post u S.1 (a.us b r C S.2)
    ·grind [pJ]
    have:=b.look x.1 k.1 _ _ d q hxk M r hd hlk
    grind [cn]
theorem B8{sch:List (Nat × List Nat)}(h:B5 ops ds sch=true):Qt ops ds (RR sch)/\Fu ops ds sch=true/\sch.length=ops.size/\∀j,j<ops.size->xn sch j=true:=by
 unfold B5 at h;simp only[I0]at h;obtain⟨⟨p,k⟩,l⟩:=h;have C:=λj (o:j<ops.size)=>gi p o
 have r:∀(i j:Nat)(c b:Oper),i≠j->ops[i]? = some c->ops[j]? = some b->An ops ds (RR sch) i j=true:=λi j c b a f g=>by grind [gi,Nat.beq_eq]
 refine⟨⟨λj b o e t u=>?_,λi j c b n q a f g=>?_,λi j c b d n a f g w D=>?_,λi j c b d n q a f g w t=>?_,λi j c b n q a f g=>?_,λj b T s n o y A=>?_⟩,l,I2 k,λj o=>?_⟩
 ·grind [bu,Nat.blt_eq]
 ·grind [bu,An]
 ·have:=r i j c b a f g
  unfold An at this;rw[bu f,bu g,n]at this;have B:sO ops i j=true:=by grind [bu,Nat.beq_refl,sO]
  grind
 ·grind [bu,Nat.beq_refl,An]
 all_goals grind [bu,An]
theorem tN{l:List Nat} : By l j=true↔j∈l:=by grind [I2,Nat.beq_refl,By]
def DZ{p:Nat->Prop} : ∀{l:List Nat}{i:Nat},Tc p i l->∀j,j∈i::l->p j
 | [],i,h,j,a=>by rw[O1.1 a];exact h
 | k::l,i,h,j,a=>by
  rcases List.mem_cons.1 a with rfl|a
  ·exact h.1
  exact DZ h.2 j a
theorem DS{l:List Nat}{K:Prop}{p:Nat->Prop}(h:Ti l K p):(l=[]->K)/\∀j∈l,p j:=by
 cases l with
 | nil=>exact⟨λ_=>h,ψ⟩
 | cons i l=>exact⟨ψ,DZ h⟩
theorem qx{done:List Nat}(h:listed.size=ops.size)(b:∀j,j<ops.size->listed.getD j true=By done j)(l:∀k∈done,k<ops.size) : j∈Region.ready .any ops listed↔j∈Lj ops done:=by
 have c:∀i,listed.getD i false=By done i:=λi=>by grind [tN]
 rw[mem_ready];unfold Lj;rw[C4,List.mem_range,I0];constructor
 ·grind [bu]
 rintro⟨a,n,d⟩
 refine⟨ψ,ops[j],U5 a,λe f g=>?_⟩;have:=Z3.1 d e (by rw[bu (U5 a)];simpa using f)
 grind
theorem Qw{K:(Nat->AV)->Prop} : ∀(n:Nat)(done:List Nat)(listed:Array Bool)(F:Nat->AV),listed.size=ops.size->(∀j,j<ops.size->listed.getD j true=By done j)->(∀k∈done,k<ops.size)->Q2 P TE N ops K n done F->Ep P TE N ops [] K n listed F
 | 0,done,listed,F,c,a,f,h=>by
  obtain⟨g,l⟩:=DS h;have o:Lj ops done=[]:=List.eq_nil_iff_forall_not_mem.2 λj b=>l j b
  exact⟨List.eq_nil_iff_forall_not_mem.2 λj b=>(by grind [qx]),g o⟩
 | n+1,done,listed,F,c,a,f,h=>by
  obtain⟨g,l⟩:=DS h;refine⟨λo=>g (List.eq_nil_iff_forall_not_mem.2 λj b=>(by rw[<-qx c a f,o]at b;cases b)),λi t=>?_⟩;have d:=(qx c a f).1 t;have q:=l i d;have u:i<ops.size:=List.mem_range.1 (C4.1 d).1;have r:ops[i]? = some ops[i]:=ψ
  unfold uv;rw[r];simp only;rw[bu r]at q;have w:pJ [] ops[i]=false:=by grind [pJ]
  rw[C8 (by rw[w];decide)];refine jI q λy A=>⟨λp _ B=>?_,Qw n (i::done) _ y (by simpa using c) (λj b=>?_) (λk C=>?_) A⟩
  ·grind [pJ]
  ·by_cases e:j=i
   ·subst e
    rw[show By (j::done) j=true from tN.2 ψ];simp[c,b]
   rw[getD_set_ne true (Ne.symm e),a j b]
   grind [tN]
  grind
theorem wT(g:∀t i,TE t=some i->bJ P t i)(y:P.follows .mixedOrders=true){id:Nat}{tb:List (Nat × Nat × List Nat)}(b:ni tb id ops=true)(c:DD P TE N tb id ops K F)(A:St w0 M S0 N F a w)(B:∀F' C D,K F'->St w0 M S0 N F' C D->Q .normal C D):(Code.region id ops true).wp P Q a w:=by
 unfold ni at b;unfold DD at c;cases q:wl tb id with
 | none=>grind
 | some p=>
  obtain⟨m,L⟩:=p;rw[q]at b c;simp only at b c;cases k:Nat.ble 65536 m with
  | true=>
   rw[k]at c;refine wp_region_any y ?_;have f:St w0 M S0 N F a {w with drawn:=w.drawn+1}:=by
    obtain⟨S,φ,h⟩:=A;exact⟨S,φ,h.more (w1:={w with drawn:=w.drawn+1}) (λ_ _ h=>h) ψ ⟨rfl,rfl,rfl,C3 _,λ_ _ _=>rfl,λ_ _ _ _=>rfl,λ_ _ _ _=>rfl⟩⟩
   refine qp g (ds:=[]) B ops.size (Array.replicate ops.size false) _ a _ ?_ f;exact Qw ops.size [] _ F (by simp) (λj n=>by simp[n,By]) ψ c
  | false=>
  rw[k]at b c;simp only[cond_false]at b c;cases r:Nat.ble 256 m with
  | false=>
   grind [D7]
  | true=>
   rw[r]at b c;simp only[cond_true,Jg]at b c;generalize L.take (m - 256)=ds at b c;generalize dec (L.drop (m - 256))=sch at b c;obtain⟨E,l,e,G⟩:=B8 b;refine wp_region_any y ?_;have f:St w0 M S0 N (Ab.clr ds F) a {w with drawn:=w.drawn+1}:=by
    have O:=A.clr ds;obtain⟨S,φ,h⟩:=O;exact⟨S,φ,h.more (w1:={w with drawn:=w.drawn+1}) (λ_ _ h=>h) ψ ⟨rfl,rfl,rfl,C3 _,λ_ _ _=>rfl,λ_ _ _ _=>rfl,λ_ _ _ _=>rfl⟩⟩
   refine qp g (ds:=ds) B ops.size (Array.replicate ops.size false) _ a _ ?_ f;have u:∀d,ds.any (Nat.beq d)=true->∀t,(Ab.clr ds F t).uses d=false:=λd R t=>by
    rw[Dd];cases X:ds.any (λd=>(F t).uses d) with
    | true=>rfl
    | false=>
     simp_all
   rw[<-e];refine BJ E sch _ _ l (by simp[e]) (λj n=>by simp_all) ⟨λj o d H J _ R t=>?_,λj o T s H J _ _ U V t=>u s (E.mvs j o T s H J U V) t⟩ (λj Y n Z=>by
     have W:=(U3.1 n).1
     simp_all) c
   grind [Hz]
end
def kn:List (Option Nat)->Kd
 | [ag]=>lx ag
 | a=>.tup a
def qu:ResultVar->Nat
 | .tmp t=>t
 | .cell t _=>t
def FP(tmps:Array Value):ResultVar->Sem Value
 | .tmp t=>pure (tmps.getD t undef)
 | .cell a t=>do loadVar t (<-asAddr (tmps.getD a undef))
def resOne(TE:Nat->Option TI)(F:Nat->AV)(r:ResultVar)(K:Option Nat->List C->Prop):Prop:=
 match r with
 | .tmp t=>(match F t with
   | .G .one cs=>K none cs
   | .G .agg cs=>K (some cs.length) cs
   | _=>False)
 | .cell t T=>match TE T with
  | some i=>bif i.agg || Nat.beq i.size 1 then(match F t with
    | .G .box cs=>bif Nat.beq cs.length i.size then K (pM i) cs else False
    | _=>False) else False
  | none=>False
def resA(TE:Nat->Option TI)(F:Nat->AV):List ResultVar->List Nat->(List (Option Nat)->List C->Prop)->Prop
 | [],_,K=>K [] []
 | r::rs,seen,K=>bif seen.any (Nat.beq (qu r)) then False else resOne TE F r λb c=>resA TE F rs (qu r::seen) λd a=>K (b::d) (c++a)
def RY:RA->AV
 | .val a cs=>.G (lx a) cs
 | .ptr cs=>.iref cs 0
 | .fn Ok=>.fv Ok
def ve:Nat->List RA->List (Nat × AV)
 | _,[]=>[]
 | i,A::As=>(i,RY A)::ve (i+1) As
inductive KO:C->C->Prop
 |rfl_ (c:C):KO c c
 |z_:KO .z (.s .own [])
 |own_ (rows rows':List (List C)) (hl:rows.length=rows'.length) (hk:∀(i:Nat)(r r':List C),rows[i]? = some r->rows'[i]? = some r'->r.length=r'.length)
   (hr:∀(i j:Nat)(r r':List C)(c c':C),rows[i]? = some r->rows'[i]? = some r'->r[j]? = some c->r'[j]? = some c'->KO c c'):KO (.s .own rows) (.s .own rows')
def Mm(cs a:List C):Prop:=cs.length=a.length/\∀(j:Nat)(c b:C),cs[j]? = some c->a[j]? = some b->KO c b
def Mm.nil:Mm [] []:=⟨rfl,λj c a h=>by simp at h⟩
variable{cs a:List C}
theorem Mm.cons{c b:C}(h:KO c b)(d:Mm cs a):Mm (c::cs) (b::a):=by
 refine⟨by simp[d.1],λj y e f g=>?_⟩;cases j with
 | zero=>grind
 | succ j=>exact d.2 j y e (by simpa using f) (by simpa using g)
def KO.rep{r r':List C}(h:Mm r r'):KO (.s .own (List.replicate n r)) (.s .own (List.replicate n r')):=by
 refine .own_ _ _ (by simp) (λi a b d e=>?_) (λi j a b c o d e k l=>?_)
 ·have f:=List.mem_replicate.1 (C2 d)
  have g:=List.mem_replicate.1 (C2 e);rw[f.2,g.2];exact h.1
 have f:=List.mem_replicate.1 (C2 d);have g:=List.mem_replicate.1 (C2 e);rw[f.2]at k;rw[g.2]at l;exact h.2 j c o k l
theorem Px{w:World}{S Y:af}{c:C}{v:Value}(h:dw w S Y c v):∀t,KO c t->dw w S Y t v:=by
 induction h with
 | z F a=>
  intro t j;cases j with
  | rfl_=>exact .z _ _
  | z_=>exact .nil _ _ _ trivial
 | nil F o a K=>
  intro t j;cases j with
  | rfl_=>exact .nil _ _ _ K
  | own_ d e E=>obtain rfl:e=[]:=S6 (by simpa using E.symm);exact .nil _ _ _ trivial
 | own F o g k n y d u f K J L p A D R T j G X=>
  intro t M;cases M with
  | rfl_=>exact .own _ o g k n y d u f K J L p A D R T j G
  | own_ d e E Z U=>
   have V:∀(i:Nat)(W:List C),e[i]? = some W->∃r,d[i]? = some r:=ψ
   refine .own _ .own g k n y e u f trivial (E.symm.trans J) (λW hr'=>?_) p A D R T j ψ
   all_goals grind [List.mem_iff_getElem?]
 | v F x N=>intro t j;cases j;exact .v _ _ N
 | x F u N=>intro t j;cases j;exact .x _ _ N
 | U F g O k n y d u J L p hS G X=>intro t j;cases j;exact .U _ g O k n y d u J L p hS G
 | m F b l es q D P he Q B=>intro t j;cases j;exact .m _ b l es q D P he Q B
 | it F r b since c0 l seen q cur left D U P B G Q E H=>intro t j;cases j;exact .it _ r b since c0 l seen q cur left D U P B G Q E H
def WK(cs a:List C):Prop:=Pe cs a\/Mm cs a
inductive jh(k k':Kd)(cs cs':List C):Prop
 |mk_ (h:k=k'/\WK cs cs')
def mu:∀(cs:List C),Pe cs cs
 | []=>trivial
 | c::cs=>by
  refine⟨?_,mu cs⟩;cases c with
  | s o a=>cases o<;>rfl
  | x=>trivial
  | _=>rfl
variable{k b:Kd}
def jh.mk(h1:k=b)(c:cs=a):jh k b cs a:=by refine .mk_ ?_;exact⟨h1,.inl (c ▸ mu cs)⟩
def jh.wk(h1:k=b)(c:Pe cs a):jh k b cs a:=.mk_ ⟨h1,.inl c⟩
def jh.dk(h1:k=b)(c:Mm cs a):jh k b cs a:=.mk_ ⟨h1,.inr c⟩
def jh.out(h:jh k b cs a):k=b/\WK cs a:=by obtain⟨h⟩:=h;exact h
theorem WK.len(h:WK cs a):cs.length=a.length:=h.elim (λh=>(vB h).1) (λh=>h.1)
theorem WK.row{w:World}{S Y:af}{c:List C}{u:Nat->Value}(a:WK cs c)(h:cC w S Y cs u):cC w S Y c u:=by
 rcases a with a|a
 ·exact Jf a h
 obtain⟨f,k,l,n⟩:=h;refine⟨f,λj i b=>?_,λj b=>l j (by rw[a.1];exact b),λj o b e=>n j o (by rw[a.1];exact b) (by rw[a.1];exact e)⟩;have g:=(U2.1 b).1;have d:cs[j]? = some (cs[j]'(by rw[a.1];exact g)):=ψ
 exact Px (k j _ d) i (a.2 j _ i d b)
def Pm(TE:Nat->Option TI)(c:List ResultVar)(k:Kd)(rcs:List C):Exit->(Nat->AV)->Prop:=λe F=>
 match e with
 | .normal=>resA TE F c [] λa b=>jh (kn a) k b rcs
 | .ret=>resA TE F c [] λa b=>jh (kn a) k b rcs
 | _=>False
def P7(F:Nat->AV)(t:Nat)(rcs:List C):Prop:=
 match F t with
 | .G .box cs=>jh .box .box cs rcs
 | .ref a 0 []=>(match F a with
   | .G .box cs=>jh .box .box cs rcs
   | _=>False)
 | _=>False
def RI(t:Nat)(rcs:List C):Exit->(Nat->AV)->Prop:=λe F=>
 match e with
 | .normal=>P7 F t rcs
 | .ret=>P7 F t rcs
 | _=>False
section
variable{P:Program}{w0 w w1:World}{M S0 S:af}{N:eA}{φ:Nat->af}{F:Nat->AV}{a:Act}{TE:Nat->Option TI}
theorem aZ.resOne(h:aZ w0 M S0 N S φ F a w)(n:∀t i,TE t=some i->bJ P t i){r:ResultVar}{K:Option Nat->List C->Prop}(b:resOne TE F r K) :
  ∃ag cs v,K ag cs/\bv w S (φ (qu r)) ag cs v/\(FP a.tmps r).run P w=.ok v w:=by
 cases r with
 | tmp t=>
  have e:=h.slot t;simp only[Ab.resOne]at b;cases p:F t with
  | G k cs=>
   rw[p]at b e;obtain⟨E,Y,G,j,H,A,l⟩:=e;cases k with
   | one=>exact⟨none,cs,tvs a t,b,⟨A,_,rfl,l.mono (λ_ _ h=>h) j⟩,rfl⟩
   | agg=>
    obtain⟨arr,q,u⟩:=A;refine⟨some cs.length,cs,tvs a t,b,⟨rfl,cg w .agg (tvs a t),?_,l.mono (λ_ _ h=>h) j⟩,rfl⟩;rw[q];have:=pk arr;rw[u]at this;exact this
   | _=>exact b.elim
  | _=>grind
 | cell t T=>
  have e:=h.slot t;simp only[Ab.resOne]at b;split at b
  case h_2=>exact b.elim
  rename_i i J;have L:=n _ _ J;cases B:(i.agg || Nat.beq i.size 1) with
  | false=>grind
  | true=>
   rw[B]at b;simp only[cond_true]at b;cases p:F t with
   | G k cs=>
    rw[p]at b e;cases k with
    | box=>
     simp only at b;cases D:Nat.beq cs.length i.size with
     | false=>grind
     | true=>
      rw[D]at b;have O:=I2 D;obtain⟨E,Y,G,j,H,⟨g,o,q,Q⟩,l⟩:=e;have c:∀d,d<i.size->cel w g (o+d)=some (cg w .box (tvs a t) d):=λd R=>by grind [cg]
      have f:=wR (w:=w) L B c;refine⟨_,cs,_,b,⟨by grind [nL],_,rfl,l.mono (λ_ _ h=>h) j⟩,?_⟩;have y:a.tmps.getD t undef=.pointer (some ⟨g,o,none⟩):=q;simp only[FP,y,asAddr];exact f
    | _=>exact b.elim
   | _=>grind
def Gp{ag:Option Nat}{cs:List C}{v:Value}{Y:af}(h:bv w S Y ag cs v):∃u,v.cells.toList=(List.range cs.length).map u/\cC w S Y cs u/\v=mkv ag u:=by
 obtain⟨a,u,rfl,b⟩:=h;refine⟨u,?_,b,rfl⟩;rw[pu (λe=>by subst e;exact b.one (by simp at a;omega)),a]
theorem G5{d e:af}{cs a:List C}{u g:Nat->Value}(h:cC w S d cs u)(h':cC w S e a g)(p:∀b o,d b o->¬e b o) :
  cC w S (λb o=>d b o\/e b o) (cs++a) (λj=>if j<cs.length then u j else g (j - cs.length)):=by
 obtain⟨f,q,r,t⟩:=h;obtain⟨i,k,l,n⟩:=h';refine⟨λj=>if j<cs.length then f j else i (j - cs.length),λj c y=>?_,ψ,ψ⟩
 all_goals grind
theorem aZ.resA(h:aZ w0 M S0 N S φ F a w)(e:∀t i,TE t=some i->bJ P t i):∀{p:List ResultVar}{seen:List Nat}{K:List (Option Nat)->List C->Prop},resA TE F p seen K->
  ∃sh cs vs u,K sh cs/\(p.mapM (FP a.tmps)).run P w=.ok vs w/\wS sh vs/\sh.length=p.length/\w7 sh=cs.length/\
   (vs.flatMap λv=>v.cells.toList)=(List.range cs.length).map u/\(∀ag,sh=[ag]->∃v,vs=[v]/\bv w S (λb o=>∃t,t∉seen/\φ t b o) ag cs v)/\cC w S (λb o=>∃t,t∉seen/\φ t b o) cs u
 | [],seen,K,c=>⟨[],[],[],λ_=>undef,c,rfl,trivial,rfl,rfl,rfl,ψ,cC.nil _ _ _ _⟩
 | r::p,seen,K,c=>by
  simp only[Ab.resA]at c;cases d:seen.any (Nat.beq (qu r)) with
  | true=>grind
  | false=>
   rw[d]at c;simp only[cond_false]at c;have L:qu r∉seen:=λY=>by grind [Nat.beq_refl]
   obtain⟨ag,cs,v,c,q,G⟩:=h.resOne e c;obtain⟨sh,f,vs,O,Q,y,A,B,R,hcells,-,g⟩:=aZ.resA h e c;obtain⟨u,D,H,k⟩:=Gp q;have T:∀b o,φ (qu r) b o->¬∃t,t∉qu r::seen/\φ t b o:=λb o U ⟨t,Z,E⟩=>h.dis _ _ ψ b o U E
   refine⟨ag::sh,cs++f,v::vs,λj=>if j<cs.length then u j else O (j - cs.length),Q,?_,?_,by simp[B],?_,?_,?_,?_⟩
   ·simp_all
   ·obtain⟨V,-⟩:=q
    cases ag with
    | none=>
     refine⟨?_,A⟩;rw[k];have J:(u 0).oneCell'=true:=H.one (by simp at V;omega);show(u 0).cells = #[u 0];cases W:u 0<;>first|(rw[W]at J;cases J;done)|rfl
    | some n=>exact⟨⟨_,by rw[k];rfl,by simp⟩,A⟩
   ·rw[qm,O3,R,q.1]
   ·simp only[X5,D,hcells,O3]
    apply List.ext_getElem?
    grind
   ·intro X l
    simp only[List.cons.injEq]at l;obtain⟨rfl,rfl⟩:=l;cases vs with
    | cons _ _=>exact A.elim
    | nil=>
     have:f=[]:=S6 (by simp_all);subst this;exact⟨v,rfl,by rw[List.append_nil];exact q.mono (λ_ _ h=>h) ψ⟩
   exact(G5 H g T).mono (λ_ _ h=>h) ψ
theorem tp:∀{A:List RA}{vs:List Value}(i:Nat),yp w S A vs->∀t,(lay (ve i A) t=.dead)\/(∃a v,i<=t/\vs[t - i]? = some v/\lay (ve i A) t=RY a/\mU w S a v)
 | [],_,i,_,t=>.inl rfl
 | a::A,[],i,h,t=>h.elim
 | a::A,v::vs,i,h,t=>by
  simp only[ve,lay];cases b:Nat.beq t i with
  | true=>
   have:=I2 b;subst this;exact .inr ⟨a,v,C3 _,by simp,rfl,h.1⟩
  | false=>
   have c:t≠i:=λe=>by simp_all
   rcases tp (i+1) h.2 t with d|⟨f,g,d,j,k⟩
   all_goals grind
theorem mU.slot{A:RA}{v:Value}(h:mU w S A v){tv:Nat->Value} : cF w S F tv NO (RY A) v:=by
 cases A with
 | val f a=>exact bv.slot h
 | ptr a=>obtain⟨g,b,u,c,d,e⟩:=h;exact⟨g,b,u,by rw[c,Nat.add_zero],d,e⟩
 | fn Ok=>exact h
def AU:∀{A:List RA}{vs:List Value},yp w S A vs->A.length=vs.length
 | [],[],_=>rfl
 | _::_,_::_,h=>by simp[AU h.2]
 | [],_::_,h=>h.elim
 | _::_,[],h=>h.elim
variable{ck:Nat->Array Oper->Bool}{rcs: List C}{D: Nat -> Array Oper -> ((Nat -> AV) -> Prop) -> (Nat -> AV) -> Prop}
theorem KD{f : Nat}{d : Func}{c : Code}{sh : Bool}{A : List RA}{k : Kd}(K : ∀t i, TE t = some i -> bJ P t i)(hf : P.funcs[f]? = some d)(hn : (d.name == "runtime.NumGoroutine") = false)(p:d.body=some c)(hD:xp P N ck D)(hc:fL ck c=true)(hN:A.length+(d.ntmps - A.length)=N.n)(hkp:N.kp=[])(U:sh=true\/g9 rcs)(hp:aw P TE N D c (Pm TE d.results.toList k rcs) (lay (ve 0 A))):am P f sh A k rcs:=by
 refine⟨⟨d,hf,hn,by rw[p];rfl⟩,λw S r hS hA=>?_⟩;have hlen:=AU hA;refine calls_of_wp hf p ?_;have V:St w NO S N (lay (ve 0 A)) {tmps:=r.toArray++Array.replicate (d.ntmps - r.toArray.size) undef,defers:=[]} w:=by
  refine⟨S,λ_=>NO,λt=>?_,λ_ _ _ _ _ h=>h.elim,λ_ _ _ h=>h.elim,λ_ _ _ h=>h.elim,λ_ _ h=>h,ψ,CU _ _,by simp;omega,rfl,ψ⟩;rcases tp 0 hA t with y|⟨A0,v,-,B,G,h4⟩
  ·rw[y];trivial
  rw[G];have hv:tvs {tmps:=r.toArray++Array.replicate (d.ntmps - r.toArray.size) undef,defers:=[]} t=v:=by
   have hlt:=(U2.1 B).1;simp only[tvs,W5]
   grind
  grind [mU.slot]
 refine iD K hD c hc _ _ _ _ w hp V λe F' J g W Z=>?_
 obtain⟨S',φ',h⟩:=Z;have fin:resA TE F' d.results.toList [] (λsh L=>jh (kn sh) k L rcs)->J.defers=[]/\∃v,(results d J.tmps).run P g=.ok v g/\(∃v',Ending.returned v=.returned v'/\bw NO w g/\∃X S1:af,(∀b o,X b o->b<g.heap.size/\w.heap.size<=b)/\
     (∀b o,S1 b o->(sh=true/\S b o)\/(b<g.heap.size/\w.heap.size<=b))/\(∀b o,X b o->¬S1 b o)/\fg g NO k rcs.length v'/\cC g S1 X rcs (cg g k v')):=by
  intro hr;obtain⟨shs,L,a,u,M,hrun,q,hln,R,hcells,l,O⟩:=h.resA K hr;obtain⟨rfl,hwk⟩:=M.out;refine⟨h.defers,?_⟩;have H:(results d J.tmps).run P g=.ok (if h:a.toArray.size=1 then a.toArray[0] else .tuple a.toArray) g:=by
   have e:results d J.tmps=(do let r <-d.results.mapM (FP J.tmps);pure (if h:r.size=1 then r[0] else .tuple r)):=by
    unfold results
    congr 1
   rw[e,<-Array.toArray_toList (xs:=d.results),List.mapM_toArray]
   simp_all
  refine⟨_,H,_,rfl,h.old,λb o=>∃t,φ' t b o,λb o=>(sh=true/\S' b o)\/(S' b o/\w.heap.size<=b),λb o ⟨t,p⟩=>⟨(h.ex t b o p).1,(h.ex t b o p).2.resolve_right (λh=>h)⟩,λb o p=>?_,λb o ⟨t,p⟩ hb'=>h.disS t b o p ψ,?_⟩
  ·rcases p with⟨y,B⟩|⟨y,B⟩
   ·rcases(h.sup b o B).2 with G|G|G
    ·grind
    ·exact .inr ⟨(h.sup b o B).1,G⟩
    exact G.elim
   exact .inr ⟨(h.sup b o y).1,B⟩
  have Q:fg g NO (kn shs) L.length (if h:a.toArray.size=1 then a.toArray[0] else .tuple a.toArray)/\cC g S' (λb o=>∃t,φ' t b o) L (cg g (kn shs) (if h:a.toArray.size=1 then a.toArray[0] else .tuple a.toArray)):=by
   have E:∀b o,(∃t,t∉([]:List Nat)/\φ' t b o)->∃t,φ' t b o:=ψ
   match shs,q,l,R with
   | [],q,_,R=>
    cases a with
    | cons _ _=>exact q.elim
    | nil=>
     have:L=[]:=ψ
     subst this;exact⟨⟨_,rfl,trivial,rfl⟩,cC.nil _ _ _ _⟩
   | [T],_,l,_=>
    obtain⟨v,rfl,hv⟩:=l T rfl;have:=(hv.mono (λ_ _ h=>h) E).slot (F:=F') (tv:=tvs J);obtain⟨X1,Y,y,B,G,h4,h5⟩:=this;refine⟨?_,h5.mono (λ_ _ h=>h) B⟩;cases T<;>exact h4
   | T::ag2::sh,q,_,R=>
    have hsz:¬a.toArray.size=1:=by
     match a,q with
     | [],q=>simp
     | [v],q=>cases T<;>cases ag2<;>exact q.2.elim
     | _::_::_,_=>simp
    rw[dif_neg hsz];refine⟨⟨_,rfl,q,R⟩,(O.mono (λ_ _ h=>h) E).congr λj hj=>?_⟩;simp only[cg,kn,mE,hcells];simp[List.getD,hj]
  replace Q:=CG Q.1 (hwk.row Q.2);refine⟨by grind [WK.len],?_⟩;rcases U with y|y
  ·exact Q.2.mono ψ (λ_ _ h=>h)
  exact(Q.2.fresh y).mono (λ_ _ h=>h.elim) (λ_ _ h=>h)
 cases e with
 | normal=>exact fin W
 | ret=>exact fin W
 | _=>exact W.elim
theorem Kx{f t : Nat}{j : Func}{c : Code}{A : List RA}(K : ∀t i, TE t = some i -> bJ P t i)(Z : P.funcs[f]? = some j)(hn : (j.name == "runtime.NumGoroutine") = false)(a:j.body=some c)(hD:xp P N ck D)(hc:fL ck c=true)(hN:A.length+(j.ntmps - A.length)=N.n)(hkp:N.kp=[])(hr:j.results = #[.tmp t])(hp:aw P TE N D c (RI t rcs) (lay (ve 0 A))):q7 P f true A .box rcs:=by
 refine⟨⟨j,Z,hn,by rw[a];rfl⟩,λw S F hS hA=>?_⟩;have hlen:=AU hA;refine calls_of_wp Z a ?_;have L:St w NO S N (lay (ve 0 A)) {tmps:=F.toArray++Array.replicate (j.ntmps - F.toArray.size) undef,defers:=[]} w:=by
  refine⟨S,λ_=>NO,λt=>?_,λ_ _ _ _ _ h=>h.elim,λ_ _ _ h=>h.elim,λ_ _ _ h=>h.elim,λ_ _ h=>h,ψ,CU _ _,by simp;omega,rfl,ψ⟩;rcases tp 0 hA t with G|⟨A0,v,-,H,J,h4⟩
  ·rw[G];trivial
  rw[J];have hv:tvs {tmps:=F.toArray++Array.replicate (j.ntmps - F.toArray.size) undef,defers:=[]} t=v:=by
   have hlt:=(U2.1 H).1;simp only[tvs,W5]
   grind
  grind [mU.slot]
 refine iD K hD c hc _ _ _ _ w hp L λe F' q k M O=>?_
 obtain⟨S',φ',h⟩:=O;have fin:P7 F' t rcs->q.defers=[]/\∃v,(results j q.tmps).run P k=.ok v k/\(∃Q,Ending.returned v=.returned Q/\bw NO w k/\∃X S1:af,(∀b o,X b o->b<k.heap.size/\w.heap.size<=b)/\
     (∀b o,S1 b o->(true=true/\S b o)\/(b<k.heap.size/\w.heap.size<=b))/\(∀b o,X b o->¬S1 b o)/\∃r Y:af,(∀b o,r b o->X b o)/\(∀b o,Y b o->X b o)/\(∀b o,r b o->¬Y b o)/\fg k r .box rcs.length Q/\cC k S1 Y rcs (cg k .box Q)):=by
  intro l;have core:∃(d:Nat)(u:List C),tvs q t=tvs q d/\F' d=.G .box u/\jh .box .box u rcs:=by
   unfold P7 at l;split at l
   ·grind
   ·rename_i d R
    split at l
    case h_2=>exact l.elim
    rename_i u y;refine⟨d,u,?_,y,l⟩;have B:=h.slot t;rw[R]at B;obtain⟨k0,cs0,r0,j0,g0,o0,T,-,e3,e4⟩:=B;have E:=h.slot d;rw[y]at E;rw[y]at T;simp only[AV.G.injEq]at T;obtain⟨rfl,rfl⟩:=T;obtain⟨r,Y,G,H,J,⟨g,o,hv,-⟩,h5⟩:=E
    grind [plc,nD]
   exact l.elim
  obtain⟨d,u,U,y,l⟩:=core;have V:=l.out.2;have E:=h.slot d;rw[y]at E;obtain⟨r,Y,G,H,J,h4,h5⟩:=E;refine⟨h.defers,tvs q d,?_,tvs q d,rfl,h.old,φ' d,λb o=>S' b o/\(S b o\/w.heap.size<=b),λb o a=>⟨(h.ex d b o a).1,(h.ex d b o a).2.resolve_right (λh=>h)⟩,λb o a=>?_,λb o a W=>h.disS d b o a W.1,r,Y,G,H,J,?_,?_⟩
  ·rw[<-U];simp[results,hr,tvs]
  ·rcases a.2 with p|p
   ·grind
   exact .inr ⟨(h.sup b o a.1).1,p⟩
  ·grind [WK.len]
  exact(V.row h5).mono (λb o a=>⟨a,by
    rcases(h.sup b o a).2 with p|p|p
    · exact .inl p
    · exact .inr p
    exact p.elim⟩) (λ_ _ h=>h)
 cases e with
 | normal=>exact fin M
 | ret=>exact fin M
 | _=>exact M.elim
end
def DF(P:Program)(TE:Nat->Option TI)(N:eA)(tb:List (Nat × Nat × List Nat))(id:Nat)(ops:Array Oper)(K:(Nat->AV)->Prop)(F:Nat->AV):Prop:=
 match wl tb (id+1048576) with
 | some (t,offs)=>ry t offs (DD P TE N tb id ops K) F
 | none=>DD P TE N tb id ops K F
def qK{P:Program}{TE:Nat->Option TI}(a:∀t i,TE t=some i->bJ P t i)(e:P.follows .mixedOrders=true)(N:eA)(tb:List (Nat × Nat × List Nat)):xp P N (ni tb) (DF P TE N tb):=
 λ_ _ b _ _ _ _ _ _ _ _ c f g=>by
  unfold DF at c;split at c
  ·obtain⟨j,h,d⟩:=xm c f
   exact wT a e b h d g
  exact wT a e b c f g
def Jb:List (Nat × TI)->Nat->Option TI
 | [],_=>none
 | p::l,t=>bif Nat.beq t p.1 then some p.2 else Jb l t
def Re(P:Program):List (Nat × TI)->Prop
 | []=>True
 | p::l=>bJ P p.1 p.2/\Re P l
def ET{P:Program} : ∀{l:List (Nat × TI)},Re P l->∀t i,Jb l t=some i->bJ P t i
 | [],_,t,i,h=>by cases h
 | p::l,b,t,i,h=>by
  simp only[Jb]at h;cases a:Nat.beq t p.1 with
  | true=>
   rw[a]at h;simp only[cond_true,Z0]at h;have:=I2 a;subst this h;exact b.1
  | false=>rw[a]at h;exact ET b.2 t i h
def ti3:TI:=⟨1,8,[.v (.int .i64 0)],.sc (.int .i64)⟩
abbrev zzA:=am Tryz.prog
abbrev zzB:=bf Tryz.prog
def tok3:bJ Tryz.prog 3 ti3:=⟨by kernel_rfl,by simp[ti3,aG,Value.oneCell'],⟨Tryz.underlying3,trivial⟩⟩
def ti4:TI:=⟨1,1,[.v (.bool false)],.sc .bool⟩
def tok4:bJ Tryz.prog 4 ti4:=⟨by kernel_rfl,by simp[ti4,aG,Value.oneCell'],⟨Tryz.underlying4,trivial⟩⟩
def ti2:TI:=⟨1,8,[.v (.int .i64 0)],.sc (.int .i64)⟩
def tok2:bJ Tryz.prog 2 ti2:=⟨by kernel_rfl,by simp[ti2,aG,Value.oneCell'],⟨Tryz.underlying2,trivial⟩⟩
def ti5:TI:=⟨1,1,[.v (.int .u8 0)],.sc (.int .u8)⟩
def tok5:bJ Tryz.prog 5 ti5:=⟨by kernel_rfl,by simp[ti5,aG,Value.oneCell'],⟨Tryz.underlying5,trivial⟩⟩
def ti6:TI:=⟨1,1,[.v (.int .u8 0)],.sc (.int .u8)⟩
def tok6:bJ Tryz.prog 6 ti6:=⟨by kernel_rfl,by simp[ti6,aG,Value.oneCell'],⟨Tryz.underlying6,trivial⟩⟩
def ti7:TI:=⟨4,24,[.v (.int .i64 0),.v (.int .i64 0),.v (.bool false),.v (.int .u8 0)],.st [(0,2),(1,3),(2,4),(3,6)]⟩
def tok7:bJ Tryz.prog 7 ti7:=⟨by kernel_rfl,by simp[ti7,aG,Value.oneCell'],⟨_,Tryz.underlying7,rfl⟩⟩
def ti8:TI:=⟨4,24,[.v (.int .i64 0),.v (.int .i64 0),.v (.bool false),.v (.int .u8 0)],.st [(0,2),(1,3),(2,4),(3,6)]⟩
def tok8:bJ Tryz.prog 8 ti8:=⟨by kernel_rfl,by simp[ti8,aG,Value.oneCell'],⟨_,Tryz.underlying8,rfl⟩⟩
def ti9:TI:=⟨1,16,[.v (.string ⟨#[]⟩)],.sc .string⟩
def tok9:bJ Tryz.prog 9 ti9:=⟨by kernel_rfl,by simp[ti9,aG,Value.oneCell'],⟨Tryz.underlying9,trivial⟩⟩
def ti10:TI:=⟨1,16,[.v (.string ⟨#[]⟩)],.sc .string⟩
def tok10:bJ Tryz.prog 10 ti10:=⟨by kernel_rfl,by simp[ti10,aG,Value.oneCell'],⟨Tryz.underlying10,trivial⟩⟩
def ti11:TI:=⟨1,16,[.v (.string ⟨#[]⟩)],.sc .string⟩
def tok11:bJ Tryz.prog 11 ti11:=⟨by kernel_rfl,by simp[ti11,aG,Value.oneCell'],⟨Tryz.underlying11,trivial⟩⟩
def ti12:TI:=⟨1,8,[.v (.int .u64 0)],.sc (.int .u64)⟩
def tok12:bJ Tryz.prog 12 ti12:=⟨by kernel_rfl,by simp[ti12,aG,Value.oneCell'],⟨Tryz.underlying12,trivial⟩⟩
def ti13:TI:=⟨2,24,[.v (.string ⟨#[]⟩),.v (.int .u64 0)],.st [(0,9),(1,12)]⟩
def tok13:bJ Tryz.prog 13 ti13:=⟨by kernel_rfl,by simp[ti13,aG,Value.oneCell'],⟨_,Tryz.underlying13,rfl⟩⟩
def ti14:TI:=⟨2,24,[.v (.string ⟨#[]⟩),.v (.int .u64 0)],.st [(0,9),(1,12)]⟩
def tok14:bJ Tryz.prog 14 ti14:=⟨by kernel_rfl,by simp[ti14,aG,Value.oneCell'],⟨_,Tryz.underlying14,rfl⟩⟩
def ti21:TI:=⟨1,4,[.v (.int .i32 0)],.sc (.int .i32)⟩
def tok21:bJ Tryz.prog 21 ti21:=⟨by kernel_rfl,by simp[ti21,aG,Value.oneCell'],⟨Tryz.underlying21,trivial⟩⟩
def ti22:TI:=⟨1,24,[.z],.sl 5⟩
def tok22:bJ Tryz.prog 22 ti22:=⟨by kernel_rfl,by simp[ti22,aG,Value.oneCell'],Tryz.underlying22⟩
def ti24:TI:=⟨1,24,[.z],.sl 33⟩
def tok24:bJ Tryz.prog 24 ti24:=⟨by kernel_rfl,by simp[ti24,aG,Value.oneCell'],Tryz.underlying24⟩
def ti25:TI:=⟨1,24,[.z],.sl 4⟩
def tok25:bJ Tryz.prog 25 ti25:=⟨by kernel_rfl,by simp[ti25,aG,Value.oneCell'],Tryz.underlying25⟩
def ti26:TI:=⟨2,48,[.z,.z],.st [(0,24),(1,25)]⟩
def tok26:bJ Tryz.prog 26 ti26:=⟨by kernel_rfl,by simp[ti26,aG,Value.oneCell'],⟨_,Tryz.underlying26,rfl⟩⟩
def ti27:TI:=⟨2,48,[.z,.z],.st [(0,24),(1,25)]⟩
def tok27:bJ Tryz.prog 27 ti27:=⟨by kernel_rfl,by simp[ti27,aG,Value.oneCell'],⟨_,Tryz.underlying27,rfl⟩⟩
def ti28:TI:=⟨1,24,[.z],.sl 82⟩
def tok28:bJ Tryz.prog 28 ti28:=⟨by kernel_rfl,by simp[ti28,aG,Value.oneCell'],Tryz.underlying28⟩
def ti29:TI:=⟨1,24,[.z],.st [(0,28)]⟩
def tok29:bJ Tryz.prog 29 ti29:=⟨by kernel_rfl,by simp[ti29,aG,Value.oneCell'],⟨_,Tryz.underlying29,rfl⟩⟩
def ti30:TI:=⟨1,24,[.z],.st [(0,28)]⟩
def tok30:bJ Tryz.prog 30 ti30:=⟨by kernel_rfl,by simp[ti30,aG,Value.oneCell'],⟨_,Tryz.underlying30,rfl⟩⟩
def ti31:TI:=⟨3,72,[.z,.z,.z],.st [(0,27),(2,30)]⟩
def tok31:bJ Tryz.prog 31 ti31:=⟨by kernel_rfl,by simp[ti31,aG,Value.oneCell'],⟨_,Tryz.underlying31,rfl⟩⟩
def ti32:TI:=⟨3,72,[.z,.z,.z],.st [(0,27),(2,30)]⟩
def tok32:bJ Tryz.prog 32 ti32:=⟨by kernel_rfl,by simp[ti32,aG,Value.oneCell'],⟨_,Tryz.underlying32,rfl⟩⟩
def ti33:TI:=⟨1,24,[.z],.sl 3⟩
def tok33:bJ Tryz.prog 33 ti33:=⟨by kernel_rfl,by simp[ti33,aG,Value.oneCell'],Tryz.underlying33⟩
def ti34:TI:=⟨5,104,[.z,.z,.z,.v (.int .i64 0),.z],.st [(0,32),(3,3),(4,33)]⟩
def tok34:bJ Tryz.prog 34 ti34:=⟨by kernel_rfl,by simp[ti34,aG,Value.oneCell'],⟨_,Tryz.underlying34,rfl⟩⟩
def ti35:TI:=⟨5,104,[.z,.z,.z,.v (.int .i64 0),.z],.st [(0,32),(3,3),(4,33)]⟩
def tok35:bJ Tryz.prog 35 ti35:=⟨by kernel_rfl,by simp[ti35,aG,Value.oneCell'],⟨_,Tryz.underlying35,rfl⟩⟩
def ti36:TI:=⟨1,24,[.z],.sl 180⟩
def tok36:bJ Tryz.prog 36 ti36:=⟨by kernel_rfl,by simp[ti36,aG,Value.oneCell'],Tryz.underlying36⟩
def ti37:TI:=⟨1,24,[.z],.sl 267⟩
def tok37:bJ Tryz.prog 37 ti37:=⟨by kernel_rfl,by simp[ti37,aG,Value.oneCell'],Tryz.underlying37⟩
def ti38:TI:=⟨1,24,[.z],.sl 175⟩
def tok38:bJ Tryz.prog 38 ti38:=⟨by kernel_rfl,by simp[ti38,aG,Value.oneCell'],Tryz.underlying38⟩
def ti39:TI:=⟨1,24,[.z],.sl 74⟩
def tok39:bJ Tryz.prog 39 ti39:=⟨by kernel_rfl,by simp[ti39,aG,Value.oneCell'],Tryz.underlying39⟩
def ti40:TI:=⟨1,24,[.z],.sl 158⟩
def tok40:bJ Tryz.prog 40 ti40:=⟨by kernel_rfl,by simp[ti40,aG,Value.oneCell'],Tryz.underlying40⟩
def ti41:TI:=⟨1,24,[.z],.sl 192⟩
def tok41:bJ Tryz.prog 41 ti41:=⟨by kernel_rfl,by simp[ti41,aG,Value.oneCell'],Tryz.underlying41⟩
def ti42:TI:=⟨2,48,[.z,.z],.st [(0,41),(1,24)]⟩
def tok42:bJ Tryz.prog 42 ti42:=⟨by kernel_rfl,by simp[ti42,aG,Value.oneCell'],⟨_,Tryz.underlying42,rfl⟩⟩
def ti43:TI:=⟨2,48,[.z,.z],.st [(0,41),(1,24)]⟩
def tok43:bJ Tryz.prog 43 ti43:=⟨by kernel_rfl,by simp[ti43,aG,Value.oneCell'],⟨_,Tryz.underlying43,rfl⟩⟩
def ti44:TI:=⟨1,24,[.z],.sl 190⟩
def tok44:bJ Tryz.prog 44 ti44:=⟨by kernel_rfl,by simp[ti44,aG,Value.oneCell'],Tryz.underlying44⟩
def ti45:TI:=⟨2,32,[.v (.int .i64 0),.z],.st [(0,3),(1,44)]⟩
def tok45:bJ Tryz.prog 45 ti45:=⟨by kernel_rfl,by simp[ti45,aG,Value.oneCell'],⟨_,Tryz.underlying45,rfl⟩⟩
def ti46:TI:=⟨2,32,[.v (.int .i64 0),.z],.st [(0,3),(1,44)]⟩
def tok46:bJ Tryz.prog 46 ti46:=⟨by kernel_rfl,by simp[ti46,aG,Value.oneCell'],⟨_,Tryz.underlying46,rfl⟩⟩
def ti47:TI:=⟨3,40,[.v (.int .i64 0),.v (.int .i64 0),.z],.st [(0,3),(1,3),(2,33)]⟩
def tok47:bJ Tryz.prog 47 ti47:=⟨by kernel_rfl,by simp[ti47,aG,Value.oneCell'],⟨_,Tryz.underlying47,rfl⟩⟩
def ti48:TI:=⟨3,40,[.v (.int .i64 0),.v (.int .i64 0),.z],.st [(0,3),(1,3),(2,33)]⟩
def tok48:bJ Tryz.prog 48 ti48:=⟨by kernel_rfl,by simp[ti48,aG,Value.oneCell'],⟨_,Tryz.underlying48,rfl⟩⟩
def ti49:TI:=⟨5,56,[.v (.int .i64 0),.v (.int .i64 0),.z,.v (.int .i64 0),.v (.int .i64 0)],.st [(0,48),(3,3),(4,3)]⟩
def tok49:bJ Tryz.prog 49 ti49:=⟨by kernel_rfl,by simp[ti49,aG,Value.oneCell'],⟨_,Tryz.underlying49,rfl⟩⟩
def ti50:TI:=⟨5,56,[.v (.int .i64 0),.v (.int .i64 0),.z,.v (.int .i64 0),.v (.int .i64 0)],.st [(0,48),(3,3),(4,3)]⟩
def tok50:bJ Tryz.prog 50 ti50:=⟨by kernel_rfl,by simp[ti50,aG,Value.oneCell'],⟨_,Tryz.underlying50,rfl⟩⟩
def ti51:TI:=⟨24,400,[.z,.z,.z,.v (.int .i64 0),.z,.z,.z,.z,.z,.z,.z,.z,.v (.int .i64 0),.z,.v (.int .i64 0),.v (.int .i64 0),.v (.int .i64 0),.v (.int .i64 0),.v (.bool false),.v (.int .i64 0),.v (.int .i64 0),.z,.v (.int .i64 0),.v (.int .i64 0)],.st [(0,35),(5,36),(6,37),(7,38),(8,39),(9,40),(10,43),(12,46),(14,3),(15,3),(16,3),(17,3),(18,4),(19,50)]⟩
def tok51:bJ Tryz.prog 51 ti51:=⟨by kernel_rfl,by simp[ti51,aG,Value.oneCell'],⟨_,Tryz.underlying51,rfl⟩⟩
def ti52:TI:=⟨24,400,[.z,.z,.z,.v (.int .i64 0),.z,.z,.z,.z,.z,.z,.z,.z,.v (.int .i64 0),.z,.v (.int .i64 0),.v (.int .i64 0),.v (.int .i64 0),.v (.int .i64 0),.v (.bool false),.v (.int .i64 0),.v (.int .i64 0),.z,.v (.int .i64 0),.v (.int .i64 0)],.st [(0,35),(5,36),(6,37),(7,38),(8,39),(9,40),(10,43),(12,46),(14,3),(15,3),(16,3),(17,3),(18,4),(19,50)]⟩
def tok52:bJ Tryz.prog 52 ti52:=⟨by kernel_rfl,by simp[ti52,aG,Value.oneCell'],⟨_,Tryz.underlying52,rfl⟩⟩
def ti53:TI:=⟨1,24,[.z],.sl 325⟩
def tok53:bJ Tryz.prog 53 ti53:=⟨by kernel_rfl,by simp[ti53,aG,Value.oneCell'],Tryz.underlying53⟩
def ti54:TI:=⟨2,32,[.v (.int .i64 0),.z],.st [(0,3),(1,53)]⟩
def tok54:bJ Tryz.prog 54 ti54:=⟨by kernel_rfl,by simp[ti54,aG,Value.oneCell'],⟨_,Tryz.underlying54,rfl⟩⟩
def ti55:TI:=⟨2,32,[.v (.int .i64 0),.z],.st [(0,3),(1,53)]⟩
def tok55:bJ Tryz.prog 55 ti55:=⟨by kernel_rfl,by simp[ti55,aG,Value.oneCell'],⟨_,Tryz.underlying55,rfl⟩⟩
def ti56:TI:=⟨26,432,[.z,.z,.z,.v (.int .i64 0),.z,.z,.z,.z,.z,.z,.z,.z,.v (.int .i64 0),.z,.v (.int .i64 0),.v (.int .i64 0),.v (.int .i64 0),.v (.int .i64 0),.v (.bool false),.v (.int .i64 0),.v (.int .i64 0),.z,.v (.int .i64 0),.v (.int .i64 0),.v (.int .i64 0),.z],.st [(0,52),(24,55)]⟩
def tok56:bJ Tryz.prog 56 ti56:=⟨by kernel_rfl,by simp[ti56,aG,Value.oneCell'],⟨_,Tryz.underlying56,rfl⟩⟩
def ti57:TI:=⟨26,432,[.z,.z,.z,.v (.int .i64 0),.z,.z,.z,.z,.z,.z,.z,.z,.v (.int .i64 0),.z,.v (.int .i64 0),.v (.int .i64 0),.v (.int .i64 0),.v (.int .i64 0),.v (.bool false),.v (.int .i64 0),.v (.int .i64 0),.z,.v (.int .i64 0),.v (.int .i64 0),.v (.int .i64 0),.z],.st [(0,52),(24,55)]⟩
def tok57:bJ Tryz.prog 57 ti57:=⟨by kernel_rfl,by simp[ti57,aG,Value.oneCell'],⟨_,Tryz.underlying57,rfl⟩⟩
def ti73:TI:=⟨4,32,[.v (.int .i64 0),.v (.int .i64 0),.v (.int .i64 0),.v (.int .i64 0)],.st [(0,3),(1,3),(2,3),(3,3)]⟩
def tok73:bJ Tryz.prog 73 ti73:=⟨by kernel_rfl,by simp[ti73,aG,Value.oneCell'],⟨_,Tryz.underlying73,rfl⟩⟩
def ti74:TI:=⟨4,32,[.v (.int .i64 0),.v (.int .i64 0),.v (.int .i64 0),.v (.int .i64 0)],.st [(0,3),(1,3),(2,3),(3,3)]⟩
def tok74:bJ Tryz.prog 74 ti74:=⟨by kernel_rfl,by simp[ti74,aG,Value.oneCell'],⟨_,Tryz.underlying74,rfl⟩⟩
def ti77:TI:=⟨1,24,[.z],.sl 168⟩
def tok77:bJ Tryz.prog 77 ti77:=⟨by kernel_rfl,by simp[ti77,aG,Value.oneCell'],Tryz.underlying77⟩
def ti81:TI:=⟨2,16,[.v (.int .i64 0),.v (.int .i64 0)],.st [(0,3),(1,3)]⟩
def tok81:bJ Tryz.prog 81 ti81:=⟨by kernel_rfl,by simp[ti81,aG,Value.oneCell'],⟨_,Tryz.underlying81,rfl⟩⟩
def ti82:TI:=⟨2,16,[.v (.int .i64 0),.v (.int .i64 0)],.st [(0,3),(1,3)]⟩
def tok82:bJ Tryz.prog 82 ti82:=⟨by kernel_rfl,by simp[ti82,aG,Value.oneCell'],⟨_,Tryz.underlying82,rfl⟩⟩
def ti86:TI:=⟨5,56,[.v (.int .i64 0),.v (.int .i64 0),.v (.int .i64 0),.v (.int .i64 0),.z],.st [(0,3),(1,3),(2,3),(3,3),(4,33)]⟩
def tok86:bJ Tryz.prog 86 ti86:=⟨by kernel_rfl,by simp[ti86,aG,Value.oneCell'],⟨_,Tryz.underlying86,rfl⟩⟩
def ti87:TI:=⟨5,56,[.v (.int .i64 0),.v (.int .i64 0),.v (.int .i64 0),.v (.int .i64 0),.z],.st [(0,3),(1,3),(2,3),(3,3),(4,33)]⟩
def tok87:bJ Tryz.prog 87 ti87:=⟨by kernel_rfl,by simp[ti87,aG,Value.oneCell'],⟨_,Tryz.underlying87,rfl⟩⟩
def ti88:TI:=⟨1,24,[.z],.sl 199⟩
def tok88:bJ Tryz.prog 88 ti88:=⟨by kernel_rfl,by simp[ti88,aG,Value.oneCell'],Tryz.underlying88⟩
def ti97:TI:=⟨2,48,[.z,.z],.st [(0,24),(1,25)]⟩
def tok97:bJ Tryz.prog 97 ti97:=⟨by kernel_rfl,by simp[ti97,aG,Value.oneCell'],⟨_,Tryz.underlying97,rfl⟩⟩
def ti98:TI:=⟨1,24,[.z],.sl 515⟩
def tok98:bJ Tryz.prog 98 ti98:=⟨by kernel_rfl,by simp[ti98,aG,Value.oneCell'],Tryz.underlying98⟩
def ti99:TI:=⟨1,24,[.z],.st [(0,98)]⟩
def tok99:bJ Tryz.prog 99 ti99:=⟨by kernel_rfl,by simp[ti99,aG,Value.oneCell'],⟨_,Tryz.underlying99,rfl⟩⟩
def ti100:TI:=⟨1,24,[.z],.st [(0,98)]⟩
def tok100:bJ Tryz.prog 100 ti100:=⟨by kernel_rfl,by simp[ti100,aG,Value.oneCell'],⟨_,Tryz.underlying100,rfl⟩⟩
def ti101:TI:=⟨3,72,[.z,.z,.z],.st [(0,97),(2,100)]⟩
def tok101:bJ Tryz.prog 101 ti101:=⟨by kernel_rfl,by simp[ti101,aG,Value.oneCell'],⟨_,Tryz.underlying101,rfl⟩⟩
def ti102:TI:=⟨3,72,[.z,.z,.z],.st [(0,97),(2,100)]⟩
def tok102:bJ Tryz.prog 102 ti102:=⟨by kernel_rfl,by simp[ti102,aG,Value.oneCell'],⟨_,Tryz.underlying102,rfl⟩⟩
def ti103:TI:=⟨5,104,[.z,.z,.z,.v (.int .i64 0),.z],.st [(0,102),(3,3),(4,33)]⟩
def tok103:bJ Tryz.prog 103 ti103:=⟨by kernel_rfl,by simp[ti103,aG,Value.oneCell'],⟨_,Tryz.underlying103,rfl⟩⟩
def ti104:TI:=⟨5,104,[.z,.z,.z,.v (.int .i64 0),.z],.st [(0,102),(3,3),(4,33)]⟩
def tok104:bJ Tryz.prog 104 ti104:=⟨by kernel_rfl,by simp[ti104,aG,Value.oneCell'],⟨_,Tryz.underlying104,rfl⟩⟩
def ti105:TI:=⟨1,24,[.z],.sl 343⟩
def tok105:bJ Tryz.prog 105 ti105:=⟨by kernel_rfl,by simp[ti105,aG,Value.oneCell'],Tryz.underlying105⟩
def ti106:TI:=⟨1,24,[.z],.sl 345⟩
def tok106:bJ Tryz.prog 106 ti106:=⟨by kernel_rfl,by simp[ti106,aG,Value.oneCell'],Tryz.underlying106⟩
def ti107:TI:=⟨1,24,[.z],.sl 347⟩
def tok107:bJ Tryz.prog 107 ti107:=⟨by kernel_rfl,by simp[ti107,aG,Value.oneCell'],Tryz.underlying107⟩
def ti108:TI:=⟨1,24,[.z],.sl 349⟩
def tok108:bJ Tryz.prog 108 ti108:=⟨by kernel_rfl,by simp[ti108,aG,Value.oneCell'],Tryz.underlying108⟩
def ti109:TI:=⟨1,24,[.z],.sl 336⟩
def tok109:bJ Tryz.prog 109 ti109:=⟨by kernel_rfl,by simp[ti109,aG,Value.oneCell'],Tryz.underlying109⟩
def ti110:TI:=⟨1,24,[.z],.sl 436⟩
def tok110:bJ Tryz.prog 110 ti110:=⟨by kernel_rfl,by simp[ti110,aG,Value.oneCell'],Tryz.underlying110⟩
def ti111:TI:=⟨2,48,[.z,.z],.st [(0,110),(1,24)]⟩
def tok111:bJ Tryz.prog 111 ti111:=⟨by kernel_rfl,by simp[ti111,aG,Value.oneCell'],⟨_,Tryz.underlying111,rfl⟩⟩
def ti112:TI:=⟨2,48,[.z,.z],.st [(0,110),(1,24)]⟩
def tok112:bJ Tryz.prog 112 ti112:=⟨by kernel_rfl,by simp[ti112,aG,Value.oneCell'],⟨_,Tryz.underlying112,rfl⟩⟩
def ti113:TI:=⟨1,24,[.z],.sl 441⟩
def tok113:bJ Tryz.prog 113 ti113:=⟨by kernel_rfl,by simp[ti113,aG,Value.oneCell'],Tryz.underlying113⟩
def ti114:TI:=⟨2,32,[.v (.int .i64 0),.z],.st [(0,3),(1,113)]⟩
def tok114:bJ Tryz.prog 114 ti114:=⟨by kernel_rfl,by simp[ti114,aG,Value.oneCell'],⟨_,Tryz.underlying114,rfl⟩⟩
def ti115:TI:=⟨2,32,[.v (.int .i64 0),.z],.st [(0,3),(1,113)]⟩
def tok115:bJ Tryz.prog 115 ti115:=⟨by kernel_rfl,by simp[ti115,aG,Value.oneCell'],⟨_,Tryz.underlying115,rfl⟩⟩
def ti116:TI:=⟨3,40,[.v (.int .i64 0),.v (.int .i64 0),.z],.st [(0,3),(1,3),(2,33)]⟩
def tok116:bJ Tryz.prog 116 ti116:=⟨by kernel_rfl,by simp[ti116,aG,Value.oneCell'],⟨_,Tryz.underlying116,rfl⟩⟩
def ti117:TI:=⟨5,56,[.v (.int .i64 0),.v (.int .i64 0),.z,.v (.int .i64 0),.v (.int .i64 0)],.st [(0,116),(3,3),(4,3)]⟩
def tok117:bJ Tryz.prog 117 ti117:=⟨by kernel_rfl,by simp[ti117,aG,Value.oneCell'],⟨_,Tryz.underlying117,rfl⟩⟩
def ti118:TI:=⟨5,56,[.v (.int .i64 0),.v (.int .i64 0),.z,.v (.int .i64 0),.v (.int .i64 0)],.st [(0,116),(3,3),(4,3)]⟩
def tok118:bJ Tryz.prog 118 ti118:=⟨by kernel_rfl,by simp[ti118,aG,Value.oneCell'],⟨_,Tryz.underlying118,rfl⟩⟩
def ti119:TI:=⟨24,400,[.z,.z,.z,.v (.int .i64 0),.z,.z,.z,.z,.z,.z,.z,.z,.v (.int .i64 0),.z,.v (.int .i64 0),.v (.int .i64 0),.v (.int .i64 0),.v (.int .i64 0),.v (.bool false),.v (.int .i64 0),.v (.int .i64 0),.z,.v (.int .i64 0),.v (.int .i64 0)],.st [(0,104),(5,105),(6,106),(7,107),(8,108),(9,109),(10,112),(12,115),(14,3),(15,3),(16,3),(17,3),(18,4),(19,118)]⟩
def tok119:bJ Tryz.prog 119 ti119:=⟨by kernel_rfl,by simp[ti119,aG,Value.oneCell'],⟨_,Tryz.underlying119,rfl⟩⟩
def ti120:TI:=⟨24,400,[.z,.z,.z,.v (.int .i64 0),.z,.z,.z,.z,.z,.z,.z,.z,.v (.int .i64 0),.z,.v (.int .i64 0),.v (.int .i64 0),.v (.int .i64 0),.v (.int .i64 0),.v (.bool false),.v (.int .i64 0),.v (.int .i64 0),.z,.v (.int .i64 0),.v (.int .i64 0)],.st [(0,104),(5,105),(6,106),(7,107),(8,108),(9,109),(10,112),(12,115),(14,3),(15,3),(16,3),(17,3),(18,4),(19,118)]⟩
def tok120:bJ Tryz.prog 120 ti120:=⟨by kernel_rfl,by simp[ti120,aG,Value.oneCell'],⟨_,Tryz.underlying120,rfl⟩⟩
def ti126:TI:=⟨5,56,[.v (.int .i64 0),.v (.int .i64 0),.v (.int .i64 0),.v (.int .i64 0),.z],.st [(0,3),(1,3),(2,3),(3,3),(4,33)]⟩
def tok126:bJ Tryz.prog 126 ti126:=⟨by kernel_rfl,by simp[ti126,aG,Value.oneCell'],⟨_,Tryz.underlying126,rfl⟩⟩
def ti127:TI:=⟨1,24,[.z],.sl 254⟩
def tok127:bJ Tryz.prog 127 ti127:=⟨by kernel_rfl,by simp[ti127,aG,Value.oneCell'],Tryz.underlying127⟩
def ti157:TI:=⟨1,24,[.z],.st [(0,24)]⟩
def tok157:bJ Tryz.prog 157 ti157:=⟨by kernel_rfl,by simp[ti157,aG,Value.oneCell'],⟨_,Tryz.underlying157,rfl⟩⟩
def ti158:TI:=⟨1,24,[.z],.st [(0,24)]⟩
def tok158:bJ Tryz.prog 158 ti158:=⟨by kernel_rfl,by simp[ti158,aG,Value.oneCell'],⟨_,Tryz.underlying158,rfl⟩⟩
def ti167:TI:=⟨3,24,[.v (.int .i64 0),.v (.int .i64 0),.v (.int .i64 0)],.st [(0,3),(1,3),(2,3)]⟩
def tok167:bJ Tryz.prog 167 ti167:=⟨by kernel_rfl,by simp[ti167,aG,Value.oneCell'],⟨_,Tryz.underlying167,rfl⟩⟩
def ti168:TI:=⟨3,24,[.v (.int .i64 0),.v (.int .i64 0),.v (.int .i64 0)],.st [(0,3),(1,3),(2,3)]⟩
def tok168:bJ Tryz.prog 168 ti168:=⟨by kernel_rfl,by simp[ti168,aG,Value.oneCell'],⟨_,Tryz.underlying168,rfl⟩⟩
def ti174:TI:=⟨3,24,[.v (.int .i64 0),.v (.int .i64 0),.v (.int .i64 0)],.st [(0,3),(1,3),(2,3)]⟩
def tok174:bJ Tryz.prog 174 ti174:=⟨by kernel_rfl,by simp[ti174,aG,Value.oneCell'],⟨_,Tryz.underlying174,rfl⟩⟩
def ti175:TI:=⟨3,24,[.v (.int .i64 0),.v (.int .i64 0),.v (.int .i64 0)],.st [(0,3),(1,3),(2,3)]⟩
def tok175:bJ Tryz.prog 175 ti175:=⟨by kernel_rfl,by simp[ti175,aG,Value.oneCell'],⟨_,Tryz.underlying175,rfl⟩⟩
def ti179:TI:=⟨2,16,[.v (.int .i64 0),.v (.int .i64 0)],.st [(0,3),(1,3)]⟩
def tok179:bJ Tryz.prog 179 ti179:=⟨by kernel_rfl,by simp[ti179,aG,Value.oneCell'],⟨_,Tryz.underlying179,rfl⟩⟩
def ti180:TI:=⟨2,16,[.v (.int .i64 0),.v (.int .i64 0)],.st [(0,3),(1,3)]⟩
def tok180:bJ Tryz.prog 180 ti180:=⟨by kernel_rfl,by simp[ti180,aG,Value.oneCell'],⟨_,Tryz.underlying180,rfl⟩⟩
def ti185:TI:=⟨2,16,[.v (.int .i64 0),.v (.int .i64 0)],.st [(0,3),(1,3)]⟩
def tok185:bJ Tryz.prog 185 ti185:=⟨by kernel_rfl,by simp[ti185,aG,Value.oneCell'],⟨_,Tryz.underlying185,rfl⟩⟩
def ti186:TI:=⟨2,16,[.v (.int .i64 0),.v (.int .i64 0)],.st [(0,3),(1,3)]⟩
def tok186:bJ Tryz.prog 186 ti186:=⟨by kernel_rfl,by simp[ti186,aG,Value.oneCell'],⟨_,Tryz.underlying186,rfl⟩⟩
def ti189:TI:=⟨3,24,[.v (.int .i64 0),.v (.int .i64 0),.v (.int .i64 0)],.st [(0,3),(1,3),(2,3)]⟩
def tok189:bJ Tryz.prog 189 ti189:=⟨by kernel_rfl,by simp[ti189,aG,Value.oneCell'],⟨_,Tryz.underlying189,rfl⟩⟩
def ti190:TI:=⟨3,24,[.v (.int .i64 0),.v (.int .i64 0),.v (.int .i64 0)],.st [(0,3),(1,3),(2,3)]⟩
def tok190:bJ Tryz.prog 190 ti190:=⟨by kernel_rfl,by simp[ti190,aG,Value.oneCell'],⟨_,Tryz.underlying190,rfl⟩⟩
def ti192:TI:=⟨1,24,[.z],.sl 186⟩
def tok192:bJ Tryz.prog 192 ti192:=⟨by kernel_rfl,by simp[ti192,aG,Value.oneCell'],Tryz.underlying192⟩
def ti198:TI:=⟨5,40,[.v (.int .i64 0),.v (.int .i64 0),.v (.int .i64 0),.v (.int .i64 0),.v (.int .i64 0)],.st [(0,3),(1,3),(2,3),(3,3),(4,3)]⟩
def tok198:bJ Tryz.prog 198 ti198:=⟨by kernel_rfl,by simp[ti198,aG,Value.oneCell'],⟨_,Tryz.underlying198,rfl⟩⟩
def ti199:TI:=⟨5,40,[.v (.int .i64 0),.v (.int .i64 0),.v (.int .i64 0),.v (.int .i64 0),.v (.int .i64 0)],.st [(0,3),(1,3),(2,3),(3,3),(4,3)]⟩
def tok199:bJ Tryz.prog 199 ti199:=⟨by kernel_rfl,by simp[ti199,aG,Value.oneCell'],⟨_,Tryz.underlying199,rfl⟩⟩
def ti210:TI:=⟨8,64,[.v (.int .i64 0),.v (.int .i64 0),.v (.int .i64 0),.v (.int .i64 0),.v (.int .i64 0),.v (.int .i64 0),.v (.int .i64 0),.v (.int .i64 0)],.st [(0,3),(1,3),(2,3),(3,3),(4,3),(5,3),(6,3),(7,3)]⟩
def tok210:bJ Tryz.prog 210 ti210:=⟨by kernel_rfl,by simp[ti210,aG,Value.oneCell'],⟨_,Tryz.underlying210,rfl⟩⟩
def ti211:TI:=⟨8,64,[.v (.int .i64 0),.v (.int .i64 0),.v (.int .i64 0),.v (.int .i64 0),.v (.int .i64 0),.v (.int .i64 0),.v (.int .i64 0),.v (.int .i64 0)],.st [(0,3),(1,3),(2,3),(3,3),(4,3),(5,3),(6,3),(7,3)]⟩
def tok211:bJ Tryz.prog 211 ti211:=⟨by kernel_rfl,by simp[ti211,aG,Value.oneCell'],⟨_,Tryz.underlying211,rfl⟩⟩
def ti254:TI:=⟨5,40,[.v (.int .i64 0),.v (.int .i64 0),.v (.int .i64 0),.v (.int .i64 0),.v (.int .i64 0)],.st [(0,3),(1,3),(2,3),(3,3),(4,3)]⟩
def tok254:bJ Tryz.prog 254 ti254:=⟨by kernel_rfl,by simp[ti254,aG,Value.oneCell'],⟨_,Tryz.underlying254,rfl⟩⟩
def ti256:TI:=⟨3,40,[.z,.v (.int .i64 0),.v (.int .i64 0)],.st [(0,22),(1,3),(2,3)]⟩
def tok256:bJ Tryz.prog 256 ti256:=⟨by kernel_rfl,by simp[ti256,aG,Value.oneCell'],⟨_,Tryz.underlying256,rfl⟩⟩
def ti257:TI:=⟨3,40,[.z,.v (.int .i64 0),.v (.int .i64 0)],.st [(0,22),(1,3),(2,3)]⟩
def tok257:bJ Tryz.prog 257 ti257:=⟨by kernel_rfl,by simp[ti257,aG,Value.oneCell'],⟨_,Tryz.underlying257,rfl⟩⟩
def ti266:TI:=⟨3,24,[.v (.int .i64 0),.v (.int .i64 0),.v (.int .i64 0)],.st [(0,3),(1,3),(2,3)]⟩
def tok266:bJ Tryz.prog 266 ti266:=⟨by kernel_rfl,by simp[ti266,aG,Value.oneCell'],⟨_,Tryz.underlying266,rfl⟩⟩
def ti267:TI:=⟨3,24,[.v (.int .i64 0),.v (.int .i64 0),.v (.int .i64 0)],.st [(0,3),(1,3),(2,3)]⟩
def tok267:bJ Tryz.prog 267 ti267:=⟨by kernel_rfl,by simp[ti267,aG,Value.oneCell'],⟨_,Tryz.underlying267,rfl⟩⟩
def ti281:TI:=⟨1,8,[.v (.map none)],.mp 3 4 (.bool false)⟩
def tok281:bJ Tryz.prog 281 ti281:=⟨by kernel_rfl,by simp[ti281,aG,Value.oneCell'],⟨Tryz.underlying281,Tryz.underlying3,by kernel_rfl,rfl⟩⟩
def ti289:TI:=⟨4,32,[.v (.int .i64 0),.v (.int .i64 0),.v (.int .i64 0),.v (.int .i64 0)],.st [(0,3),(1,3),(2,3),(3,3)]⟩
def tok289:bJ Tryz.prog 289 ti289:=⟨by kernel_rfl,by simp[ti289,aG,Value.oneCell'],⟨_,Tryz.underlying289,rfl⟩⟩
def ti290:TI:=⟨4,32,[.v (.int .i64 0),.v (.int .i64 0),.v (.int .i64 0),.v (.int .i64 0)],.st [(0,3),(1,3),(2,3),(3,3)]⟩
def tok290:bJ Tryz.prog 290 ti290:=⟨by kernel_rfl,by simp[ti290,aG,Value.oneCell'],⟨_,Tryz.underlying290,rfl⟩⟩
def ti292:TI:=⟨1,8,[.v (.map none)],.mp 3 3 (.int .i64 0)⟩
def tok292:bJ Tryz.prog 292 ti292:=⟨by kernel_rfl,by simp[ti292,aG,Value.oneCell'],⟨Tryz.underlying292,Tryz.underlying3,by kernel_rfl,rfl⟩⟩
def ti304:TI:=⟨1,8,[.v (.int .u64 0)],.sc (.int .u64)⟩
def tok304:bJ Tryz.prog 304 ti304:=⟨by kernel_rfl,by simp[ti304,aG,Value.oneCell'],⟨Tryz.underlying304,trivial⟩⟩
def ti324:TI:=⟨2,32,[.v (.int .i64 0),.z],.st [(0,3),(1,33)]⟩
def tok324:bJ Tryz.prog 324 ti324:=⟨by kernel_rfl,by simp[ti324,aG,Value.oneCell'],⟨_,Tryz.underlying324,rfl⟩⟩
def ti325:TI:=⟨2,32,[.v (.int .i64 0),.z],.st [(0,3),(1,33)]⟩
def tok325:bJ Tryz.prog 325 ti325:=⟨by kernel_rfl,by simp[ti325,aG,Value.oneCell'],⟨_,Tryz.underlying325,rfl⟩⟩
def ti336:TI:=⟨1,24,[.z],.st [(0,24)]⟩
def tok336:bJ Tryz.prog 336 ti336:=⟨by kernel_rfl,by simp[ti336,aG,Value.oneCell'],⟨_,Tryz.underlying336,rfl⟩⟩
def ti343:TI:=⟨2,16,[.v (.int .i64 0),.v (.int .i64 0)],.st [(0,3),(1,3)]⟩
def tok343:bJ Tryz.prog 343 ti343:=⟨by kernel_rfl,by simp[ti343,aG,Value.oneCell'],⟨_,Tryz.underlying343,rfl⟩⟩
def ti345:TI:=⟨3,24,[.v (.int .i64 0),.v (.int .i64 0),.v (.int .i64 0)],.st [(0,3),(1,3),(2,3)]⟩
def tok345:bJ Tryz.prog 345 ti345:=⟨by kernel_rfl,by simp[ti345,aG,Value.oneCell'],⟨_,Tryz.underlying345,rfl⟩⟩
def ti347:TI:=⟨3,24,[.v (.int .i64 0),.v (.int .i64 0),.v (.int .i64 0)],.st [(0,3),(1,3),(2,3)]⟩
def tok347:bJ Tryz.prog 347 ti347:=⟨by kernel_rfl,by simp[ti347,aG,Value.oneCell'],⟨_,Tryz.underlying347,rfl⟩⟩
def ti349:TI:=⟨4,32,[.v (.int .i64 0),.v (.int .i64 0),.v (.int .i64 0),.v (.int .i64 0)],.st [(0,3),(1,3),(2,3),(3,3)]⟩
def tok349:bJ Tryz.prog 349 ti349:=⟨by kernel_rfl,by simp[ti349,aG,Value.oneCell'],⟨_,Tryz.underlying349,rfl⟩⟩
def ti398:TI:=⟨1,24,[.z],.sl 404⟩
def tok398:bJ Tryz.prog 398 ti398:=⟨by kernel_rfl,by simp[ti398,aG,Value.oneCell'],Tryz.underlying398⟩
def ti403:TI:=⟨2,16,[.v (.int .i64 0),.v (.int .i64 0)],.st [(0,3),(1,3)]⟩
def tok403:bJ Tryz.prog 403 ti403:=⟨by kernel_rfl,by simp[ti403,aG,Value.oneCell'],⟨_,Tryz.underlying403,rfl⟩⟩
def ti404:TI:=⟨2,16,[.v (.int .i64 0),.v (.int .i64 0)],.st [(0,3),(1,3)]⟩
def tok404:bJ Tryz.prog 404 ti404:=⟨by kernel_rfl,by simp[ti404,aG,Value.oneCell'],⟨_,Tryz.underlying404,rfl⟩⟩
def ti408:TI:=⟨1,8,[.v (.int .i64 0)],.sc (.int .i64)⟩
def tok408:bJ Tryz.prog 408 ti408:=⟨by kernel_rfl,by simp[ti408,aG,Value.oneCell'],⟨Tryz.underlying408,trivial⟩⟩
def ti415:TI:=⟨1,4,[.v (.int .u32 0)],.sc (.int .u32)⟩
def tok415:bJ Tryz.prog 415 ti415:=⟨by kernel_rfl,by simp[ti415,aG,Value.oneCell'],⟨Tryz.underlying415,trivial⟩⟩
def ti417:TI:=⟨1,8,[.v (.int .u64 0)],.sc (.int .u64)⟩
def tok417:bJ Tryz.prog 417 ti417:=⟨by kernel_rfl,by simp[ti417,aG,Value.oneCell'],⟨Tryz.underlying417,trivial⟩⟩
def ti436:TI:=⟨1,24,[.z],.sl 491⟩
def tok436:bJ Tryz.prog 436 ti436:=⟨by kernel_rfl,by simp[ti436,aG,Value.oneCell'],Tryz.underlying436⟩
def ti441:TI:=⟨3,24,[.v (.int .i64 0),.v (.int .i64 0),.v (.int .i64 0)],.st [(0,3),(1,3),(2,3)]⟩
def tok441:bJ Tryz.prog 441 ti441:=⟨by kernel_rfl,by simp[ti441,aG,Value.oneCell'],⟨_,Tryz.underlying441,rfl⟩⟩
def ti470:TI:=⟨1,8,[.v (.int .u64 0)],.sc (.int .u64)⟩
def tok470:bJ Tryz.prog 470 ti470:=⟨by kernel_rfl,by simp[ti470,aG,Value.oneCell'],⟨Tryz.underlying470,trivial⟩⟩
def ti491:TI:=⟨2,16,[.v (.int .i64 0),.v (.int .i64 0)],.st [(0,3),(1,3)]⟩
def tok491:bJ Tryz.prog 491 ti491:=⟨by kernel_rfl,by simp[ti491,aG,Value.oneCell'],⟨_,Tryz.underlying491,rfl⟩⟩
def ti515:TI:=⟨2,16,[.v (.int .i64 0),.v (.int .i64 0)],.st [(0,3),(1,3)]⟩
def tok515:bJ Tryz.prog 515 ti515:=⟨by kernel_rfl,by simp[ti515,aG,Value.oneCell'],⟨_,Tryz.underlying515,rfl⟩⟩
def ti528:TI:=⟨0,0,[],.st [(0,527)]⟩
def tok528:bJ Tryz.prog 528 ti528:=⟨by kernel_rfl,by simp[ti528,aG,Value.oneCell'],⟨_,Tryz.underlying528,rfl⟩⟩
def ti529:TI:=⟨0,0,[],.st [(0,527)]⟩
def tok529:bJ Tryz.prog 529 ti529:=⟨by kernel_rfl,by simp[ti529,aG,Value.oneCell'],⟨_,Tryz.underlying529,rfl⟩⟩
def ti531:TI:=⟨1,1,[.v (.int .u8 0)],.sc (.int .u8)⟩
def tok531:bJ Tryz.prog 531 ti531:=⟨by kernel_rfl,by simp[ti531,aG,Value.oneCell'],⟨Tryz.underlying531,trivial⟩⟩
def ti532:TI:=⟨1,1,[.v (.int .u8 0)],.sc (.int .u8)⟩
def tok532:bJ Tryz.prog 532 ti532:=⟨by kernel_rfl,by simp[ti532,aG,Value.oneCell'],⟨Tryz.underlying532,trivial⟩⟩
def ti535:TI:=⟨1,4,[.v (.int .i32 0)],.sc (.int .i32)⟩
def tok535:bJ Tryz.prog 535 ti535:=⟨by kernel_rfl,by simp[ti535,aG,Value.oneCell'],⟨Tryz.underlying535,trivial⟩⟩
def ti536:TI:=⟨1,4,[.v (.int .i32 0)],.sc (.int .i32)⟩
def tok536:bJ Tryz.prog 536 ti536:=⟨by kernel_rfl,by simp[ti536,aG,Value.oneCell'],⟨Tryz.underlying536,trivial⟩⟩
def tab:List (Nat × TI):=[(3,ti3),(4,ti4),(2,ti2),(5,ti5),(6,ti6),(7,ti7),(8,ti8),(9,ti9),(10,ti10),(11,ti11),(12,ti12),(13,ti13),(14,ti14),(21,ti21),(22,ti22),(24,ti24),(25,ti25),(26,ti26),(27,ti27),(28,ti28),(29,ti29),(30,ti30),(31,ti31),(32,ti32),(33,ti33),(34,ti34),(35,ti35),(36,ti36),(37,ti37),(38,ti38),(39,ti39),(40,ti40),(41,ti41),(42,ti42),(43,ti43),(44,ti44),(45,ti45),(46,ti46),(47,ti47),(48,ti48),(49,ti49),(50,ti50),(51,ti51),(52,ti52),(53,ti53),(54,ti54),(55,ti55),(56,ti56),(57,ti57),(73,ti73),(74,ti74),(77,ti77),(81,ti81),(82,ti82),(86,ti86),(87,ti87),(88,ti88),(97,ti97),(98,ti98),(99,ti99),(100,ti100),(101,ti101),(102,ti102),(103,ti103),(104,ti104),(105,ti105),(106,ti106),(107,ti107),(108,ti108),(109,ti109),(110,ti110),(111,ti111),(112,ti112),(113,ti113),(114,ti114),(115,ti115),(116,ti116),(117,ti117),(118,ti118),(119,ti119),(120,ti120),(126,ti126),(127,ti127),(157,ti157),(158,ti158),(167,ti167),(168,ti168),(174,ti174),(175,ti175),(179,ti179),(180,ti180),(185,ti185),(186,ti186),(189,ti189),(190,ti190),(192,ti192),(198,ti198),(199,ti199),(210,ti210),(211,ti211),(254,ti254),(256,ti256),(257,ti257),(266,ti266),(267,ti267),(281,ti281),(289,ti289),(290,ti290),(292,ti292),(304,ti304),(324,ti324),(325,ti325),(336,ti336),(343,ti343),(345,ti345),(347,ti347),(349,ti349),(398,ti398),(403,ti403),(404,ti404),(408,ti408),(415,ti415),(417,ti417),(436,ti436),(441,ti441),(470,ti470),(491,ti491),(515,ti515),(528,ti528),(529,ti529),(531,ti531),(532,ti532),(535,ti535),(536,ti536)]
def QG:Re Tryz.prog tab:=⟨tok3,tok4,tok2,tok5,tok6,tok7,tok8,tok9,tok10,tok11,tok12,tok13,tok14,tok21,tok22,tok24,tok25,tok26,tok27,tok28,tok29,tok30,tok31,tok32,tok33,tok34,tok35,tok36,tok37,tok38,tok39,tok40,tok41,tok42,tok43,tok44,tok45,tok46,tok47,tok48,tok49,tok50,tok51,tok52,tok53,tok54,tok55,tok56,tok57,tok73,tok74,tok77,tok81,tok82,tok86,tok87,tok88,tok97,tok98,tok99,tok100,tok101,tok102,tok103,tok104,tok105,tok106,tok107,tok108,tok109,tok110,tok111,tok112,tok113,tok114,tok115,tok116,tok117,tok118,tok119,tok120,tok126,tok127,tok157,tok158,tok167,tok168,tok174,tok175,tok179,tok180,tok185,tok186,tok189,tok190,tok192,tok198,tok199,tok210,tok211,tok254,tok256,tok257,tok266,tok267,tok281,tok289,tok290,tok292,tok304,tok324,tok325,tok336,tok343,tok345,tok347,tok349,tok398,tok403,tok404,tok408,tok415,tok417,tok436,tok441,tok470,tok491,tok515,tok528,tok529,tok531,tok532,tok535,tok536,trivial⟩
def TE:Nat->Option TI:=Jb tab
def lA:∀t i,TE t=some i->bJ Tryz.prog t i:=ET QG
def Rg:C->Value->C
 | .s .own rows,v=>.s (.tag v) rows
 | c,_=>c
def yW(u:Nat->Value):Nat->List C->List C
 | _,[]=>[]
 | j,c::cs=>Rg c (u j)::yW u (j+1) cs
def wq(u:Nat->Nat->Value):Nat->List MA->List (Nat × AV)
 | _,[]=>[]
 | i,.val a cs::A=>(i,.G (lx a) cs)::wq u (i+1) A
 | i,.mut a cs::A=>(i,.G (lx a) (yW (u i) 0 cs))::wq u (i+1) A
 | i,.ptr cs::A=>(i,.G .box cs)::wq u (i+1) A
def HU(p:Nat->Value):Nat->List MA->List (Nat × Value)
 | _,[]=>[]
 | i,.ptr _::A=>(i,p i)::HU p (i+1) A
 | i,_::A=>HU p (i+1) A
def DR:Nat->List MA->List (Nat × Nat)->List (Option Nat)
 | i,.val _ _::A,_::pl=>none::DR (i+1) A pl
 | i,.mut _ _::A,p::pl=>some p.1::DR (i+1) A pl
 | i,.ptr _::A,_::pl=>some i::DR (i+1) A pl
 | _,_,_=>[]
def GO:List (Option Nat)->Bool
 | []=>true
 | none::l=>GO l
 | some t::l=>l.all (λx=>match x with|some a=>!Nat.beq t a|none=>true)&&GO l
def sles:List (Option Nat)->List Nat
 | []=>[]
 | none::l=>sles l
 | some t::l=>t::sles l
def RV(v:Value)(c y o:C):Prop:=
 match c with
 | .s .own _=>(match y with|.s (.tag v') rows=>v'=v/\o=.s .own rows|_=>False)
 | .s (.tag _) _=>False
 | .m _=>False
 | .it _ _=>False
 | c=>o=c
def Qj(u:Nat->Value):Nat->List C->List C->List C->Prop
 | _,[],_,o=>o=[]
 | j,c::cs,y::xs,o::os=>RV (u j) c y o/\Qj u (j+1) cs xs os
 | _,_,_,_=>False
def hP(u:Nat->Nat->Value)(F:Nat->AV):Nat->List MA->List (Nat × Nat)->List MA->Prop
 | _,[],_,[]=>True
 | i,.val _ _::A,_::pl,.val _ _::B=>hP u F (i+1) A pl B
 | i,.mut ag cs::A,p::pl,.mut a out::B=>(a=ag/\match F p.1 with|.G _ xs=>Qj (u i) 0 cs (xs.drop p.2) out|_=>False)/\hP u F (i+1) A pl B
 | i,.ptr _::A,_::pl,.ptr out::B=>(match F i with|.G .box xs=>xs=out|_=>False)/\hP u F (i+1) A pl B
 | _,_,_,_=>False
inductive ch(k k':Kd)(cs cs':List C)(Q:Prop):Prop
 |mk_ (h:k=k'/\cs=cs'/\Q)
theorem ch.mk{Q:Prop}(h1:k=b)(c:cs=a)(d:Q):ch k b cs a Q:=by refine .mk_ ?_;grind
def CK:type_of% @ch.mk:=@ch.mk
def ch.out{Q:Prop}(h:ch k b cs a Q):k=b/\cs=a/\Q:=by obtain⟨h⟩:=h;exact h
def QV(TE:Nat->Option TI)(d:List ResultVar)(k:Kd)(rcs:List C)(u:Nat->Nat->Value)(A B:List MA)(a:List (Nat × Nat)):Exit->(Nat->AV)->Prop:=λe F=>
 match e with
 | .normal=>resA TE F d (sles (DR 0 A a)) λb c=>ch (kn b) k c rcs (hP u F 0 A a B)
 | .ret=>resA TE F d (sles (DR 0 A a)) λb c=>ch (kn b) k c rcs (hP u F 0 A a B)
 | _=>False
section
variable{P:Program}{w0 w w1:World}{M S0 S:af}{N:eA}{φ:Nat->af}{F:Nat->AV}{a:Act}{TE:Nat->Option TI}
theorem dw.tag{Y:af}{c:C}{v:Value}(h:dw w S Y c v):dw w S Y (Rg c v) v:=by
 cases h with
 | nil _ o a B=>cases o with
  | own=>exact .nil _ _ _ rfl
  | _=>exact .nil _ _ _ B
 | own _ o g k n l e u f B D E i p t K L M y=>cases o with
  | own=>exact .own _ _ g k n l e u f rfl D E i p t K L M y
  | U=>exact B.elim
  | tag z=>exact .own _ _ g k n l e u f B D E i p t K L M y
 | v _ x F=>exact .v _ _ F
 | x _ u F=>exact .x _ _ F
 | z _ a=>exact .z _ _
 | U _ g G k n l e u D E i N y=>exact .U _ g G k n l e u D E i N y
 | m _ b d O j t H P J q=>exact .m _ b d O j t H P J q
 | it _ r b since Q d seen j cur left t R H q y J T A=>exact .it _ r b since Q d seen j cur left t R H q y J T A
def dw.untag{Y:af}{z v:Value}{rows:List (List C)}(h:dw w S Y (.s (.tag z) rows) v):v=z/\dw w S Y (.s .own rows) v:=by
 cases h with
 | nil _ o a d=>exact⟨Eq.symm d,.nil _ _ _ trivial⟩
 | own _ o g k n e rows u f d i j b c l p q r t=>exact⟨Eq.symm d,.own _ _ g k n e rows u f trivial i j b c l p q r t⟩
theorem o9(u:Nat->Value):∀(j:Nat)(cs:List C),(yW u j cs).length=cs.length
 | _,[]=>rfl
 | j,c::cs=>by simp[yW,o9 u (j+1) cs]
theorem DO(u:Nat->Value):∀(a:Nat)(cs:List C)(j:Nat),(yW u a cs)[j]? = (cs[j]?).map λc=>Rg c (u (a+j))
 | _,[],j=>by simp[yW]
 | a,c::cs,0=>by simp[yW]
 | a,c::cs,j+1=>by simp only[yW,List.getElem?_cons_succ];rw[DO u (a+1) cs j,show a+1+j=a+(j+1) by omega]
variable{u:Nat->Value}
theorem cC.tag{Y:af}{cs:List C}(h:cC w S Y cs u):cC w S Y (yW u 0 cs) u:=by
 obtain⟨f,i,b,d⟩:=h;refine⟨f,λj c a=>?_,λj a=>b j (by grind [o9]),λj e a g=>d j e (by grind [o9]) (by grind [o9])⟩
 grind [DO,dw.tag]
def celF(v:Value)(j:Nat):Value:=v.cells.toList.getD j undef
def bv.celF{Y:af}{ag:Option Nat}{cs:List C}{v:Value}(h:bv w S Y ag cs v):cs.length=ag.getD 1/\v=mkv ag (celF v)/\cC w S Y cs (celF v):=by
 obtain⟨b,u,c,d⟩:=h;have g:=pu (ag:=ag) (u:=u) (λe=>by subst e;exact d.one (by simp at b;omega));have f:∀j,j<ag.getD 1->Ab.celF v j=u j:=λj a=>by
  unfold Ab.celF;rw[c,g];simp[List.getD,a]
 exact⟨b,c.trans (iZ λj a=>(f j a).symm),d.congr λj a=>f j ω⟩
def Ql(u:Nat->Nat->Value)(i:Nat):MA->AV
 | .val a cs=>.G (lx a) cs
 | .mut a cs=>.G (lx a) (yW (u i) 0 cs)
 | .ptr cs=>.G .box cs
theorem zw{u:Nat->Nat->Value} : ∀{A:List MA}{vs:List Value}{V:Nat->af}(i:Nat),KN w S V A vs->∀t,(lay (wq u i A) t=.dead)\/(∃m v,i<=t/\vs[t - i]? = some v/\A[t - i]? = some m/\lay (wq u i A) t=Ql u t m/\pL w S (V (t - i)) m v)
 | [],_,_,i,_,t=>.inl rfl
 | m::A,[],_,i,h,t=>h.elim
 | m::A,v::vs,V,i,h,t=>by
  have b:lay (wq u i (m::A)) t=bif Nat.beq t i then Ql u i m else lay (wq u (i+1) A) t:=by cases m<;>rfl
  rw[b];cases c:Nat.beq t i with
  | true=>
   have:=I2 c;subst this;exact .inr ⟨m,v,C3 _,by simp,by simp,rfl,by rw[Nat.sub_self];exact h.1⟩
  | false=>
   have d:t≠i:=λe=>by simp_all
   rcases zw (i+1) h.2 t with a|⟨f,g,a,j,k,l,n⟩
   ·exact .inl a
   grind
def Jp:∀{A:List MA}{vs:List Value}{V:Nat->af},KN w S V A vs->A.length=vs.length
 | [],[],_,_=>rfl
 | _::_,_::_,_,h=>by simp[Jp h.2]
 | [],_::_,_,h=>h.elim
 | _::_,[],_,h=>h.elim
theorem HB{p:Nat->Value} : ∀{A:List MA}{i:Nat}{q:Nat × Value},q∈HU p i A->i<=q.1/\q.1<i+A.length/\q.2=p q.1
 | [],_,_,h=>by simp[HU]at h
 | m::A,i,q,h=>by
  have a:q∈HU p (i+1) A->i<=q.1/\q.1<i+(m::A).length/\q.2=p q.1:=λh=>by
   obtain⟨b,c,d⟩:=HB h
   grind
  cases m with
  | ptr e=>
   rcases List.mem_cons.1 h with rfl|h
   all_goals grind
  | val=>exact a h
  | «mut»=>exact a h
theorem Jh{p:Nat->Value} : ∀{A:List MA}{i n:Nat}{cs:List C},A[n]? = some (.ptr cs)->(i+n,p (i+n))∈HU p i A
 | [],_,n,_,h=>by simp at h
 | m::A,i,0,cs,h=>by grind [HU]
 | m::A,i,n+1,cs,h=>by
  have a:=Jh (p:=p) (i:=i+1) (show A[n]? = some (.ptr cs) by simpa using h);rw[show i+1+n=i+(n+1) by omega]at a;cases m with
  | ptr cs=>exact Y4 _ a
  | val=>exact a
  | «mut»=>exact a
def QR(φ:Nat->af):Option (Option Nat)->af
 | some (some t)=>φ t
 | _=>NO
theorem Db{u:Nat->Value} : ∀{b:Nat}{cs xs a:List C},Qj u b cs xs a->cs.length=a.length/\∀(j:Nat)(c o:C),cs[j]? = some c->a[j]? = some o->∃y,(eP c=true->xs[j]? = some y)/\RV (u (b+j)) c y o
 | _,[],xs,a,h=>by grind [Qj]
 | _,_::_,[],_,h=>by grind [Qj]
 | _,_::_,_::_,[],h=>by grind [Qj]
 | b,d::cs,e::xs,f::a,h=>by
  simp only[Qj]at h;obtain⟨g,i⟩:=Db h.2
  grind
theorem Mh{S' Y r:af}{E:Nat->Value}{cs xs t:List C}{off:Nat}(g:bm S w w1)(l:∀b o,S b o->S' b o)(h:cC w S Y cs u)(h':cC w1 S' r xs E)(F:Qj u 0 cs (xs.drop off) t):cC w1 S' r t u:=by
 obtain⟨f,G,O,P⟩:=h;obtain⟨A,n,H,J⟩:=h';obtain⟨Q,K⟩:=Db F;refine⟨λj b o=>off+j<xs.length/\A (off+j) b o,λj c B=>?_,ψ,ψ⟩;have L:=(U2.1 B).1;have i:cs[j]? = some cs[j]:=ψ
 obtain⟨y,k,a⟩:=K j _ c i B;rw[Z5]at a;have d:=G j _ i;generalize cs[j]=p at i a d k;have keep:eP p=false->c=p->dw w1 S' (λb o=>off+j<xs.length/\A (off+j) b o) c (u j):=λM e=>by
  subst e;exact((d.bare (F':=NO) M).keep g (λ_ _ h=>h.elim)).mono l (λ_ _ h=>h.elim)
 cases p with
 | v R=>exact keep rfl a
 | x=>exact keep rfl a
 | z=>exact keep rfl a
 | m T=>exact a.elim
 | it=>exact a.elim
 | s o D=>
  cases o with
  | U=>exact keep rfl a
  | tag z=>exact a.elim
  | own=>
   have k:=k rfl;rw[List.getElem?_drop]at k;have N:=(U2.1 k).1;simp only[RV]at a;split at a
   case h_2=>exact a.elim
   rename_i U q;obtain⟨rfl,rfl⟩:=a;obtain⟨V,W⟩:=(n _ _ k).untag
   simp_all
theorem aZ.backs{C:World}{S':af}{u:Nat->Nat->Value}(h:aZ w0 M S0 N S' φ F a C)(d:bm S w C)(f:∀b o,S b o->S' b o):∀{A:List MA}{g:List (Nat × Nat)}{B:List MA}{vs:List Value}{V:Nat->af}{i:Nat},KN w S V A vs->
  (∀j v,vs[j]? = some v->u (i+j)=celF v)->(∀j v cs,vs[j]? = some v->A[j]? = some (.ptr cs)->tvs a (i+j)=v)->hP u F i A g B->AZ C S' (λn=>QR φ (DR i A g)[n]?) B vs
 | [],g,B,vs,V,i,l,r,t,c=>by
  cases vs with
  | cons _ _=>exact l.elim
  | nil=>cases B with
   | nil=>trivial
   | cons _ _=>grind [hP]
 | m::A,[],B,vs,V,i,l,r,t,c=>by grind [hP]
 | m::A,p::g,[],vs,V,i,l,r,t,c=>by grind [hP]
 | m::A,p::g,D::B,[],V,i,l,r,t,c=>l.elim
 | m::A,p::g,D::B,v::vs,V,i,l,r,t,c=>by
  have next:hP u F (i+1) A g B->AZ C S' (λn=>QR φ (DR (i+1) A g)[n]?) B vs:=λc=>
   aZ.backs h d f l.2 (λj v T=>by rw[show i+1+j=i+(j+1) by omega];simp_all)
    (λj v cs T X=>by rw[show i+1+j=i+(j+1) by omega];simp_all) c
  cases m with
  | val U cs=>
   cases D with
   | val y W=>simp only[hP]at c;exact⟨trivial,next c⟩
   | ptr=>grind [hP]
   | «mut»=>grind [hP]
  | «mut» U cs=>
   cases D with
   | val=>grind [hP]
   | ptr=>grind [hP]
   | «mut» y out=>
    simp only[hP]at c;obtain⟨⟨rfl,e⟩,G⟩:=c;refine⟨?_,next G⟩;have E:=bv.celF (show bv w S (V 0) y cs v from l.1);have H:u i=celF v:=r 0 v (by simp);have q:=h.slot p.1;cases J:F p.1 with
    | G k xs=>
     rw[J]at e q;simp only at e;rw[H]at e;obtain⟨O,Y,P,K,Q,R,L⟩:=q;refine⟨by grind [Db],celF v,E.2.1,?_⟩;exact(Mh d f E.2.2 L e).mono (λ_ _ h=>h) (λb o c=>by simpa[DR,QR] using K b o c)
    | _=>grind
  | ptr cs=>
   cases D with
   | val=>grind [hP]
   | «mut»=>grind [hP]
   | ptr out=>
    simp only[hP]at c;refine⟨?_,next c.2⟩;have E:tvs a i=v:=t 0 v cs (by simp) (by simp);have q:=h.slot i;cases J:F i with
    | G k xs=>
     cases k with
     | box=>
      rw[J]at c q;have:=c.1;simp only at this;subst this;rw[E]at q;obtain⟨O,Y,P,K,Q,R,L⟩:=q;exact⟨O,Y,λb o c=>by simpa[DR,QR] using P b o c,λb o c=>by simpa[DR,QR] using K b o c,Q,R,L⟩
     | _=>grind
    | _=>grind
theorem ta:∀{l:List (Option Nat)},GO l=true->∀(i a t c:Nat),i≠a->l[i]? = some (some t)->l[a]? = some (some c)->t≠c
 | [],_,i,a,t,c,_,h,_=>by simp at h
 | none::l,b,i,a,t,c,f,h,d=>by
  cases i with
  | zero=>simp at h
  | succ i=>cases a with
   | zero=>simp at d
   | succ a=>exact ta (l:=l) b i a t c ω (by simpa using h) (by simpa using d)
 | some g::l,b,i,a,t,c,f,h,d=>by
  simp only[GO,I0]at b;have k:∀(n s:Nat),l[n]? = some (some s)->g≠s:=λn s j e=>by
   have:=Z3.1 b.1 _ (C2 j)
   simp_all
  cases i with
  | zero=>
   grind
  | succ i=>cases a with
   | zero=>grind
   | succ a=>exact ta b.2 i a t c ω (by simpa using h) (by simpa using d)
theorem vQ:∀{l:List (Option Nat)}{i t:Nat},l[i]? = some (some t)->t∈sles l
 | [],i,t,h=>by simp at h
 | none::l,i,t,h=>by
  cases i with
  | zero=>simp at h
  | succ i=>exact vQ (l:=l) (i:=i) (by simpa using h)
 | some a::l,i,t,h=>by
  cases i with
  | zero=>grind [sles]
  | succ i=>exact Y4 _ (vQ (l:=l) (i:=i) (by simpa using h))
theorem wv{φ:Nat->af}{x:Option (Option Nat)}{b o:Nat}(h:QR φ x b o):∃t,x=some (some t)/\φ t b o:=by
 match x,h with
 | some (some t),h=>exact⟨t,rfl,h⟩
 | some none,h=>exact h.elim
 | none,h=>exact h.elim
theorem Ks{f : Nat}{y : Func}{c : Code}{sh : Bool}{A B : List MA}{k : Kd}{rcs : List C}{mo : List (Nat × List Nat)}{n : Nat}(O : List (Nat × Nat))(hTE : ∀t i, TE t = some i -> bJ P t i)(hf : P.funcs[f]? = some y)(hn : (y.name == "runtime.NumGoroutine") = false)(d:y.body=some c){ck:Nat->Array Oper->Bool}{D:eA->Nat->Array Oper->((Nat->AV)->Prop)->(Nat->AV)->Prop}(hD:∀N,xp P N ck (D N))(hc:fL ck c=true)(hN:A.length+(y.ntmps - A.length)=n)(hok:GO (DR 0 A O)=true)(hsh:sh=true\/g9 rcs)(hp:∀(u:Nat->Nat->Value)(p:Nat->Value),aw P TE ⟨n,HU p 0 A,mo⟩ (D ⟨n,HU p 0 A,mo⟩) c (QV TE y.results.toList k rcs u A B O) (lay (wq u 0 A))):bf P f sh A B k rcs:=by
 refine⟨⟨y,hf,hn,by rw[d];rfl⟩,λw S V E hS hV hVd hA=>?_⟩;have hlen:=Jp hA;refine calls_of_wp hf d ?_
 let u:Nat->Nat->Value:=λi=>celF (E.getD i undef)
 let p:Nat->Value:=λi=>E.getD i undef
 have htv:∀t v,E[t]? = some v->tvs {tmps:=E.toArray++Array.replicate (y.ntmps - E.toArray.size) undef,defers:=[]} t=v:=λt v r=>by
  have Q:=(U2.1 r).1;simp only[tvs,W5]
  grind
 have hst:St w (λb o=>∃i,V i b o) S ⟨n,HU p 0 A,mo⟩ (lay (wq u 0 A)) {tmps:=E.toArray++Array.replicate (y.ntmps - E.toArray.size) undef,defers:=[]} w:=by
  refine⟨S,V,λt=>?_,hVd,ψ,ψ,λ_ _ h=>h,ψ,CU _ _,by simp;omega,rfl,λq hq=>?_⟩
  ·rcases zw (u:=u) 0 hA t with J|⟨m,v,-,r,h2',K,U⟩
   ·rw[J];trivial
   rw[K];rw[Nat.sub_zero]at r U;rw[htv t v r];have hu:u t=celF v:=ψ
   cases m with
   | val M G=>exact(bv.mono (show bv w S NO M G v from U) (λ_ _ h=>h) (λ_ _ h=>h.elim)).slot
   | «mut» M G=>
    obtain⟨e1,e2,e3⟩:=bv.celF (show bv w S (V t) M G v from U);refine bv.slot ⟨by grind [o9],celF v,e2,?_⟩
    grind [cC.tag]
   | ptr G=>exact U
  obtain⟨-,J,r⟩:=HB hq
  grind
 refine iD hTE (hD _) c hc _ _ _ _ w (hp u p) hst λe F' W l he hs'=>?_
 obtain⟨S',φ',h⟩:=hs';have fin:resA TE F' y.results.toList (sles (DR 0 A O)) (λsh G=>ch (kn sh) k G rcs (hP u F' 0 A O B))->W.defers=[]/\∃v,(results y W.tmps).run P l=.ok v l/\(∃v',Ending.returned v=.returned v'/\bw (λb o=>∃i,V i b o) w l/\∃(X:af)(Z:Nat->af)(S1:af),
     (∀b o,X b o->(∃i,V i b o)\/(b<l.heap.size/\w.heap.size<=b))/\(∀i b o,Z i b o->(∃i,V i b o)\/(b<l.heap.size/\w.heap.size<=b))/\
     (∀b o,S1 b o->(sh=true/\S b o)\/(∃i,V i b o)\/(b<l.heap.size/\w.heap.size<=b))/\
     (∀i i',i≠i'->∀b o,Z i b o->¬Z i' b o)/\(∀i b o,X b o->¬Z i b o)/\(∀b o,X b o->¬S1 b o)/\(∀i b o,Z i b o->¬S1 b o)/\
     fg l NO k rcs.length v'/\cC l S1 X rcs (cg l k v')/\AZ l (λb o=>S b o\/S1 b o) Z B E):=by
  intro hr;obtain⟨shs,G,a,u',hfin,hrun,L,hln,hL,hcells,H,hrow⟩:=h.resA hTE hr;obtain⟨rfl,rfl,R⟩:=hfin.out;refine⟨h.defers,?_⟩;have T:(results y W.tmps).run P l=.ok (if h:a.toArray.size=1 then a.toArray[0] else .tuple a.toArray) l:=by
   have e:results y W.tmps=(do let E <-y.results.mapM (FP W.tmps);pure (if h:E.size=1 then E[0] else .tuple E)):=by
    unfold results
    congr 1
   rw[e,<-Array.toArray_toList (xs:=y.results),List.mapM_toArray]
   simp_all
  have hex:∀t b o,φ' t b o->(∃i,V i b o)\/(b<l.heap.size/\w.heap.size<=b):=λt b o d=>(h.ex t b o d).2.elim (λh'=>.inr ⟨(h.ex t b o d).1,h'⟩) .inl
  have hsameS:bm S w l:=λb o d=>by
   have Q:=hS b o d;exact⟨h.old.cel b o Q ψ,h.old.fro b o Q ψ⟩
  have hm:=h.backs (u:=u) hsameS h.sub hA ψ (λj v G hj hc=>by
    have:=h.par _ (Jh (p:=p) (i:=0) hc)
    grind) R
  refine⟨_,T,_,rfl,h.old,λb o=>∃t,t∉sles (DR 0 A O)/\φ' t b o,λi=>QR φ' (DR 0 A O)[i]?,λb o=>(sh=true/\S' b o)\/(S' b o/\((∃i,V i b o)\/w.heap.size<=b)),ψ,λi b o d=>?_,λb o d=>?_,λi i' hne b o d g=>?_,λi b o ⟨t,ht,d⟩ g=>?_,λb o ⟨t,_,d⟩ g=>h.disS t b o d ψ,λi b o d g=>?_,?_⟩
  ·grind [wv]
  ·rcases d with⟨J,r⟩|⟨J,r⟩
   ·rcases(h.sup b o r).2 with K|K|K
    ·grind
    ·exact .inr (.inr ⟨(h.sup b o r).1,K⟩)
    grind
   rcases r with r|r
   ·grind
   exact .inr (.inr ⟨(h.sup b o J).1,r⟩)
  ·obtain⟨t,e1,d⟩:=wv d
   obtain⟨t',e2,g⟩:=wv g;exact h.dis t t' (ta hok i i' t t' hne e1 e2) b o d g
  ·obtain⟨t',e2,g⟩:=wv g
   exact h.dis t t' (λe=>ht (by grind [vQ])) b o d g
  ·obtain⟨t,-,d⟩:=wv d
   exact h.disS t b o d ψ
  have hk:fg l NO (kn shs) G.length (if h:a.toArray.size=1 then a.toArray[0] else .tuple a.toArray)/\cC l S' (λb o=>∃t,t∉sles (DR 0 A O)/\φ' t b o) G (cg l (kn shs) (if h:a.toArray.size=1 then a.toArray[0] else .tuple a.toArray)):=by
   match shs,L,H,hL with
   | [],L,_,hL=>
    cases a with
    | cons _ _=>exact L.elim
    | nil=>
     have:G=[]:=ψ
     subst this;exact⟨⟨_,rfl,trivial,rfl⟩,cC.nil _ _ _ _⟩
   | [M],_,H,_=>
    obtain⟨v,rfl,hv⟩:=H M rfl;have:=hv.slot (F:=F') (tv:=tvs W);obtain⟨X1,Y,J,r,K,U,h5⟩:=this;refine⟨?_,h5.mono (λ_ _ h=>h) r⟩;cases M<;>exact U
   | M::ag2::sh,L,_,hL=>
    have hsz:¬a.toArray.size=1:=by
     match a,L with
     | [],L=>simp
     | [v],L=>cases M<;>cases ag2<;>exact L.2.elim
     | _::_::_,_=>simp
    rw[dif_neg hsz];refine⟨⟨_,rfl,L,hL⟩,hrow.congr λj hj=>?_⟩;simp only[cg,kn,mE,hcells];simp[List.getD,hj]
  refine⟨hk.1,?_,hm.mono λb o d=>?_⟩
  ·rcases hsh with J|J
   ·exact hk.2.mono ψ (λ_ _ h=>h)
   exact(hk.2.fresh J).mono (λ_ _ h=>h.elim) (λ_ _ h=>h)
  rcases(h.sup b o d).2 with K|K|K
  all_goals grind
 cases e with
 | normal=>exact fin he
 | ret=>exact fin he
 | _=>exact he.elim
end
abbrev I(z:Int):C:=.v (.int .i64 z)
abbrev B(b:Bool):C:=.v (.bool b)
def rI(_:dH)(z:Int):List C:=[I z]
def rB(_:dH)(b:Bool):List C:=[B b]
def pU(z:Int):g9 (rI .own z):=⟨trivial,trivial⟩
def DT(b:Bool):g9 (rB .own b):=⟨trivial,trivial⟩
def nI(z:Int):Prop:=-9223372036854775808<=z/\z<=9223372036854775807
def Tn(_:Bool):Prop:=True
def qE : Tryz.prog.follows .mixedOrders=true:=by kernel_rfl
variable{tb: List (Nat × Nat × List Nat)}{rcs: List C}{A: List RA}{c: Code}{mo: List (Nat × List Nat)}{f: Nat}
def Rr{a : Func}{sh : Bool}(d : Tryz.prog.funcs[f]? = some a)(e : (a.name == "runtime.NumGoroutine") = false)(g : a.body = some c)(h : fL (ni tb) c = true)(i:A.length+(a.ntmps - A.length)=n)(b:sh=true\/g9 rcs)(j:aw Tryz.prog TE ⟨n,[],mo⟩ (DF Tryz.prog TE ⟨n,[],mo⟩ tb) c (Pm TE a.results.toList k rcs) (lay (ve 0 A))):zzA f sh A k rcs:=
 KD lA d e g (qK lA qE ⟨n,[],mo⟩ tb) h i rfl b j
def RG{a : Func}{sh : Bool}{A B : List MA}(b : List (Nat × Nat))(g : Tryz.prog.funcs[f]? = some a)(h : (a.name == "runtime.NumGoroutine") = false)(i : a.body = some c)(j : fL (ni tb) c = true)(l:A.length+(a.ntmps - A.length)=n)(d:GO (DR 0 A b)=true)(e:sh=true\/g9 rcs)(o:∀(u:Nat->Nat->Value)(p:Nat->Value),aw Tryz.prog TE ⟨n,HU p 0 A,mo⟩ (DF Tryz.prog TE ⟨n,HU p 0 A,mo⟩ tb) c (QV TE a.results.toList k rcs u A B b) (lay (wq u 0 A))):zzB f sh A B k rcs:=
 Ks b lA g h i (λN=>qK lA qE N tb) j l d e o
def R7{t: Nat}{a : Func}(b : Tryz.prog.funcs[f]? = some a)(d : (a.name == "runtime.NumGoroutine") = false)(e : a.body = some c)(g : fL (ni tb) c = true)(h:A.length+(a.ntmps - A.length)=n)(i:a.results = #[.tmp t])(j:aw Tryz.prog TE ⟨n,[],mo⟩ (DF Tryz.prog TE ⟨n,[],mo⟩ tb) c (RI t rcs) (lay (ve 0 A))):q7 Tryz.prog f true A .box rcs:=
 Kx lA b d e (qK lA qE ⟨n,[],mo⟩ tb) g h rfl i j
theorem fF{x:Int}(h1 : -9223372036854775808<=x)(a:x<=9223372036854775807):IntKind.i64.wrap x=x:=IntWalk.i64_in x ω
def LJ:RA->RA->Prop
 | .val ag cs,.val ag' cs'=>ag=ag'/\cs=cs'
 | .ptr cs,.ptr cs'=>cs=cs'
 | A,a=>A=a
theorem LJ.eq{A a:RA}(h:LJ A a):A=a:=by
 unfold LJ at h
 grind
def Az:List RA->List RA->Prop
 | [],[]=>True
 | A::As,B::Bs=>LJ A B/\Az As Bs
 | _,_=>False
theorem Az.eq:∀{A a:List RA},Az A a->A=a
 | [],[],_=>rfl
 | A::As,B::Bs,h=>by rw[LJ.eq h.1,Az.eq h.2]
 | [],_::_,h=>h.elim
 | _::_,[],h=>h.elim
theorem Cl.eq{P:Program}{b:Bool}{a:List RA}{K:AV->Prop}(h:am P f false a k rcs)(c:Az A a)(d:K (.G k rcs)):Cl P f b A K:=by grind [Az.eq,C7]
def CJ:type_of% @Cl.eq:=@Cl.eq
def D8{b:Nat}(h:n<=1048576)(a:b<=1000):n*b<=140737488355328:=U4 (Nat.mul_le_mul h a) (by decide)
theorem Bf.NB{a b:Bool}{X Y:Prop}(h1:a≠b->X)(c:a=b->Y):Bf (a != b) X Y:=by grind [Bf.P]
theorem Rw.one{off k j:Nat}{K:List C->Nat->Prop}{o:dH}{rows:List (List C)}{r:List C}(h1:a[off]? = some (.s o rows))(c:rows[i]? = some r)(d:r.length=k)(b:K r j):Rw a off [(i,k,j)] K:=
 Rw.mk (r:=r) (j:=j) (by grind [ci]) b
def CE:type_of% @Rw.one:=@Rw.one
section
variable{α:Type}{A B:List α}
end
def aa{β:Type}{f:α->β}{l:List α}{k:Nat}{x:α}(h:l[k]? = some x):(l.map f)[k]? = some (f x):=by simp[h]
end Go.Proofs.YtiopgblagimpmaaGreat.Ab
