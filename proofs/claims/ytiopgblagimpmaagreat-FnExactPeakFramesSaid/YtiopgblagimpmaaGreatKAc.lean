/- A region that draws its order may be run in the text's order, where its operations are apart. No condition. -/
import Derived.Test.YtiopgblagimpmaaGreatKAb
import Derived.Orders
import Derived.Test.YtiopgblagimpmaaGreatKAa
import Derived.KernelRfl
import Derived.Test.YtiopgblagimpmaaGreatProg
set_option linter.unusedVariables false
set_option linter.defProp false
set_option linter.unusedSimpArgs false
set_option linter.constructorNameAsVariable false
namespace Go.Proofs.YtiopgblagimpmaaGreat.Ab
open Go.RowKit
def de(o:Oper)(i:Nat):Bool:=o.after.toList.any λe=>Region.binds .any e&&Nat.beq e.on i
def dr(ops:Array Oper)(i:Nat):Oper:=ops.getD i default
def below(n:Nat)(p:Nat->Bool):Bool:=(List.range n).all p
def uH(ops:Array Oper)(i j:Nat):Bool:=match(dr ops i).dst with|some d=>((dr ops j).looksAt ops).any (Nat.beq d)|none=>false
def Gd:List Nat->Nat
 | []=>0
 | k::a=>2 ^ k ||| Gd a
def ons(o:Oper):List Nat:=(o.after.toList.filter λe=>Region.binds .any e).map (·.on)
variable{α:Type}
def frc(n:Nat)(K:Nat->α):α:=match n with|0=>K 0|n+1=>K (n+1)
def Pn(n:Nat)(K:Nat->α):frc n K=K n:=by cases n<;>rfl
def clo(ops:Array Oper):Nat->Nat->Nat
 | 0,S=>S
 | k+1,S=>bif S.testBit k then frc (S ||| Gd (ons (dr ops k))) (clo ops k) else clo ops k S
def Eh(ops:Array Oper)(m:Nat):Bool:=
 below ops.size λj=>((dr ops j).after.toList.all λe=>!Region.binds .any e || Nat.blt e.on j) &&
  (bif Nat.blt j m then below m (λi=>Nat.beq i j || ((de (dr ops j) i || de (dr ops i) j || (dr ops i).apart ops (dr ops j))&&(!uH ops i j || de (dr ops j) i))) else frc (clo ops j (Gd (ons (dr ops j)))) λS=>below j λi=>S.testBit i)
def yE:List (Nat × Nat × List Nat)->Nat->Option (Nat × List Nat)
 | [],_=>none
 | p::l,id=>bif Nat.beq id p.1 then some p.2 else yE l id
def gK(P:Program)(TE:Nat->Option TI)(N:fo)(ops:Array Oper)(o:Oper)(K:(Nat->AV)->Prop)(F:Nat->AV):Prop:=
 fL F ops o.guard (λF=>match o.dst with|some d=>di P TE F o.op λa=>bT N F d a K|none=>False)
  (λF=>match o.dst with|some d=>bT N F d (.G (.tup []) []) K|none=>False)
def nR:Op->Option (Option Nat × Nat)
 | .buildSlice T 1 ps=>(match ps.toList with|[(0,.tmp s)]=>some (some T,s)|_=>none)
 | .move (.tmp s)=>some (none,s)
 | _=>none
def own1(T:Option Nat)(k:Kd)(cs:List C):Bool:=match T with
 | some _=>(match k with
   | .one=>(match cs with|[c]=>eP c|_=>false)
   | .agg=>(match cs with|[c]=>eP c|_=>false)
   | _=>false)
 | none=>(match k with|.tup _=>!bn cs|_=>false)
def TF(TE:Nat->Option TI)(N:fo)(F:Nat->AV)(d:Nat)(T:Option Nat)(s:Nat)(K:(Nat->AV)->Prop):Prop:=match T with
 | some T=>gl TE N F d T 1 [(0,.tmp s)] K
 | none=>jd N F d (.tmp s) K
def Lb(F:Nat->AV)(o:Oper):Option (Option Nat × Nat):=
 match o.guard with
 | some _=>none
 | none=>match nR o.op with
  | none=>none
  | some p=>match F p.2 with
   | .G k cs=>bif own1 p.1 k cs then some p else none
   | .dead=>none
   | .ref ..=>none
   | .c2 ..=>none
   | .iref ..=>none
   | .fn ..=>none
   | .fv _=>none
def j7(ops:Array Oper)(o:Oper)(s:Nat):Bool:=
 ((List.range ops.size).any λk=>de o k&&(match(dr ops k).dst with|some a=>Nat.beq a s|none=>false))&&Nat.ble (ops.toList.filter λk=>(k.looksAt ops).any (Nat.beq s)).length 1
def ro(ds:List Nat)(o:Oper):Bool:=match o.dst with|some d=>ds.any (Nat.beq d)|none=>false
def twk:List Nat->List Nat
 | []=>[]
 | e::l=>bif Nat.ble 1000 e then(e - 1000)::twk l else []
def dec:List Nat->List (Nat × List Nat)
 | []=>[]
 | e::l=>bif Nat.ble 1000 e then dec l else(e,twk l)::dec l
def RK:Op->Bool
 | .move (.tmp _)=>true
 | .assign _=>true
 | .extract ..=>true
 | .build ..=>true
 | .buildSlice ..=>true
 | .store ..=>true
 | .load ..=>true
 | .fieldAddr ..=>true
 | .field ..=>true
 | .binOp ..=>true
 | .unOp ..=>true
 | .call c=>(rv c).isSome
 | .slice _ _ none (some _) none=>true
 | _=>false
def qd:Op->Bool
 | .call c=>(match c.callee with|.value (.func _)=>true|_=>false)
 | _=>false
def zm(l:List (Nat × List Nat))(i:Nat):Bool:=l.any λp=>Nat.beq p.1 i
def xb(ops:Array Oper)(j i:Nat):Bool:=(clo ops j (Gd (ons (dr ops j)))).testBit i
def TV(o:Oper):Bool:=match o.guard with|none=>true|some _=>false
def Uw(sch:List (Nat × List Nat))(i:Nat):Bool:=sch.any λp=>Nat.beq p.1 i&&!p.2.isEmpty
def Uq(ops:Array Oper)(a b:Oper)(nm:Bool):Bool:=match b.dst with
 | none=>false
 | some c=>TV a&&(RK a.op || qd a.op)&&!(match a.dst with|some d=>Nat.beq d c|none=>false)&&!(a.looksAt ops).any (Nat.beq c)&&TV b&&!(b.looksAt ops).any (Nat.beq c)&&(nm || match nR b.op with|none=>true|some p=>!j7 ops b p.2)
def BS(ops:Array Oper)(ds:List Nat)(nm:Nat->Bool)(i j:Nat):Bool:=
 bif ro ds (dr ops j) then(bif ro ds (dr ops i) then(de (dr ops j) i || de (dr ops i) j || (dr ops i).apart ops (dr ops j))&&(!uH ops i j || de (dr ops j) i)&&!(match(dr ops i).dst with|some d=>(match(dr ops j).dst with|some e=>Nat.beq d e|none=>false)|none=>false) else true)
 else(bif ro ds (dr ops i) then(xb ops j i || xb ops i j || Uq ops (dr ops j) (dr ops i) (nm i))&&(!uH ops i j || de (dr ops j) i) else true)
def FE(ops:Array Oper)(ds:List Nat):List (Nat × List Nat)->Bool
 | []=>true
 | k::l=>Nat.blt k.1 ops.size&&!zm l k.1&&((dr ops k.1).after.toList.all λe=>!Region.binds .any e || !(Nat.beq k.1 e.on || zm l e.on)) &&
  (ro ds (dr ops k.1) || ((l.all λj=>xb ops j.1 k.1)&&(below ops.size λp=>!ro ds (dr ops p) || zm l p || xb ops k.1 p || k.2.any (Nat.beq p))&&(!(l.any λj=>ro ds (dr ops j.1)) || (TV (dr ops k.1)&&(RK (dr ops k.1).op || qd (dr ops k.1).op)))))&&FE ops ds l
def E0(ops:Array Oper)(ds:List Nat)(sch:List (Nat × List Nat)):Bool:=
 (below ops.size λj=>((dr ops j).after.toList.all λe=>!Region.binds .any e || Nat.blt e.on j)&&zm sch j&&(!ro ds (dr ops j) || (match nR (dr ops j).op with|none=>true|some p=>!j7 ops (dr ops j) p.2 || ds.any (Nat.beq p.2)))&&below ops.size λi=>Nat.beq i j || BS ops ds (Uw sch) i j)&&Nat.beq sch.length ops.size&&FE ops ds sch
def pY(a:List (Nat × Nat × List Nat))(id:Nat)(ops:Array Oper):Bool:=
 match yE a id with
 | some (m,ds)=>bif Nat.ble 65536 m then true else bif Nat.ble 256 m then E0 ops (ds.take (m - 256)) (dec (ds.drop (m - 256))) else(Nat.ble m ops.size&&below m λj=>match(dr ops j).dst with|some d=>ds.any (Nat.beq d)|none=>true)&&Eh ops m
 | none=>false
def lS(P:Program)(TE:Nat->Option TI)(N:fo)(ops:Array Oper)(o:Oper)(K:(Nat->AV)->Prop)(F:Nat->AV):Prop:=
 match Lb F o with
 | some p=>(match o.dst with|some d=>bif j7 ops o p.2 then TF TE N F d p.1 p.2 K else False|none=>False)
 | none=>gK P TE N ops o K F
def N3(P:Program)(TE:Nat->Option TI)(N:fo)(ops:Array Oper):Nat->List Oper->((Nat->AV)->Prop)->(Nat->AV)->Prop
 | 0,l,K,F=>L2 P TE N ops l K F
 | _+1,[],K,F=>K F
 | m+1,o::l,K,F=>lS P TE N ops o (N3 P TE N ops m l K) F
def Q4(ds:List Nat)(t:Nat):Bool:=ds.any (Nat.beq t)
def Uz(ds:List Nat):AV->AV
 | .ref t off st=>bif Q4 ds t then .dead else .ref t off st
 | .c2 t off st ag=>bif Q4 ds t then .dead else .c2 t off st ag
 | .fn f caps=>bif caps.any (Q4 ds) then .dead else .fn f caps
 | .G k cs=>.G k cs
 | .iref r off=>.iref r off
 | .fv Ok=>.fv Ok
 | .dead=>.dead
def clr(ds:List Nat)(F:Nat->AV):Nat->AV:=λt=>Uz ds (F t)
theorem Ek(ds:List Nat)(F:Nat->AV)(t:Nat):clr ds F t=bif ds.any (λd=>(F t).uses d) then .dead else F t:=by
 unfold clr;cases F t with
 | dead=>cases ds.any λd=>AV.uses d .dead<;>rfl
 | G k i=>
  have:ds.any (λd=>(AV.G k i).uses d)=false:=by
   rw[<-W5,z4]
   rintro⟨d,_,h⟩
   cases h
  rw[this];rfl
 | iref r a=>
  have:ds.any (λd=>(AV.iref r a).uses d)=false:=by
   rw[<-W5,z4]
   rintro⟨d,_,h⟩
   cases h
  rw[this];rfl
 | fv Ok=>
  have:ds.any (λd=>(AV.fv Ok).uses d)=false:=by
   rw[<-W5,z4]
   rintro⟨d,_,h⟩
   cases h
  rw[this];rfl
 | ref j a l=>rfl
 | c2 j a l n=>rfl
 | fn f caps=>
  have:ds.any (λd=>(AV.fn f caps).uses d)=caps.any (Q4 ds):=by
   rw[v5,z4,z4];constructor
   ·rintro⟨d,b,h⟩
    simp only[AV.uses,z4]at h;obtain⟨c,e,g⟩:=h;exact⟨c,e,z4.2 ⟨d,b,g⟩⟩
   rintro⟨c,e,h⟩
   obtain⟨d,b,g⟩:=z4.1 h
   grind [AV.uses]
  rw[this];rfl
inductive Sm(a b:AV)(K:Prop):Prop
 |mk_ (h:a=b/\K)
def Sm.rf{a:AV}{K:Prop}(h:K):Sm a a K:=.mk_ ⟨rfl,h⟩
def C9:type_of% @Sm.rf:=@Sm.rf
def Sm.out{a b:AV}{K:Prop}(h:Sm a b K):a=b/\K:=h.1
def Uk(P:Program)(TE:Nat->Option TI)(ops:Array Oper)(p:Nat)(K:Prop)(F:Nat->AV):Prop:=
 match(dr ops p).dst with
 | none=>False
 | some d=>(match Lb F (dr ops p) with
   | some _=>False
   | none=>di P TE F (dr ops p).op λa=>Sm a (F d) K)
def Nj(P:Program)(TE:Nat->Option TI)(ops:Array Oper):List Nat->Prop->(Nat->AV)->Prop
 | [],K,_=>K
 | p::l,K,F=>Uk P TE ops p (Nj P TE ops l K F) F
def P9(P:Program)(TE:Nat->Option TI)(N:fo)(ops:Array Oper)(nm:Bool)(o:Oper)(K:(Nat->AV)->Prop)(F:Nat->AV):Prop:=
 match nm with
 | false=>lS P TE N ops o K F
 | true=>(match Lb F o with
   | some _=>False
   | none=>gK P TE N ops o K F)
def LS(P:Program)(TE:Nat->Option TI)(N:fo)(ops:Array Oper)(ds:List Nat)(nm:Nat->Bool):List (Nat × List Nat)->((Nat->AV)->Prop)->(Nat->AV)->Prop
 | [],K,F=>K F
 | k::l,K,F=>bif ro ds (dr ops k.1) then P9 P TE N ops (nm k.1) (dr ops k.1) (LS P TE N ops ds nm l K) F else jt P TE N ops (dr ops k.1) (λa=>Nj P TE ops k.2 (LS P TE N ops ds nm l K a) a) F
def Q1:List Nat->(List Nat->Prop)->Prop
 | [],K=>K []
 | a::l,K=>Q1 l λb=>K (a::b)
def Kx:∀(l:List Nat)(K:List Nat->Prop),Q1 l K=K l
 | [],_=>rfl
 | a::l,K=>by rw[Q1,Kx l]
def DO(l:List Nat)(j:Nat):Bool:=l.any (Nat.beq j)
def ND(ops:Array Oper)(done:List Nat):List Nat:=(List.range ops.size).filter λj=>!DO done j&&((dr ops j).after.toList.all λe=>!Region.binds .any e || DO done e.on)
def U3(p:Nat->Prop):Nat->List Nat->Prop
 | i,[]=>p i
 | i,j::l=>p i/\U3 p j l
def U1(l:List Nat)(K:Prop)(p:Nat->Prop):Prop:=match l with
 | []=>K
 | i::l=>U3 p i l
def T8(P:Program)(TE:Nat->Option TI)(N:fo)(ops:Array Oper)(K:(Nat->AV)->Prop):Nat->List Nat->(Nat->AV)->Prop
 | 0,done,F=>U1 (ND ops done) (K F) λ_=>False
 | n+1,done,F=>U1 (ND ops done) (K F) λi=>jt P TE N ops (dr ops i) (T8 P TE N ops K n (i::done)) F
def DD(P:Program)(TE:Nat->Option TI)(N:fo)(b:List (Nat × Nat × List Nat))(id:Nat)(ops:Array Oper)(K:(Nat->AV)->Prop)(F:Nat->AV):Prop:=
 match yE b id with
 | some (m,ds)=>bif Nat.ble 65536 m then T8 P TE N ops K ops.size [] F else bif Nat.ble 256 m then Q1 (ds.take (m - 256)) λa=>LS P TE N ops a (Uw (dec (ds.drop (m - 256)))) (dec (ds.drop (m - 256))) K (clr a F) else N3 P TE N ops m ops.toList K (clr ds F)
 | none=>False
variable{i n:Nat}{p:Nat->Bool}
theorem gM(h:below n p=true)(a:i<n):p i=true:=C4.1 h i ψ
theorem cu{o:Oper} : de o i=true↔∃e,e∈o.after/\Region.binds .any e=true/\e.on=i:=by grind [W2,Nat.beq_refl,de]
theorem bE{ops:Array Oper}{o:Oper}(h:ops[i]? = some o):dr ops i=o:=by simp[dr,Z6,h]
section
variable{P:Program}{w0 w w1:World}{M S0 S:af}{N:fo}{φ:Nat->af}{F:Nat->AV}{a:Act}{TE:Nat->Option TI}{ops:Array Oper}
variable{d:Nat}
theorem B6{b:Bool}(a:F d=.G .one [.v (.bool b)]):HH F d b=F:=by grind [W2,HH]
theorem iE(o:Oper)(t:Nat)(h:t∈dz o.op):t∈o.looksAt ops:=by grind [Go.Oper.looksAt,dz,tm]
structure UG(P:Program)(TE:Nat->Option TI)(N:fo)(ops:Array Oper)(o:Oper)(F:Nat->AV)(d:Nat)(av:AV):Prop where
 dst:o.dst=some d
 lt:N.free d=true
 self:av.uses d=false
 from_:eK F (o.looksAt ops) av
 at_:∀F':Nat->AV,ig F F' (o.looksAt ops)->∀K':(Nat->AV)->Prop,K' (put F' d av)->gK P TE N ops o K' F'
def ig.refl(F:Nat->AV)(ts:List Nat):ig F F ts:=λ_ _=>⟨rfl,λ_ _ _ _ h=>h⟩
theorem Cc:type_of% @ig.refl:=@ig.refl
variable{K:(Nat->AV)->Prop}{o:Oper}
theorem zq(h:gK P TE N ops o K F):∃d av,UG P TE N ops o F d av/\K (put F d av):=by
 cases e:o.dst with
 | none=>
  exfalso;unfold gK at h;rw[e]at h;unfold fL at h
  grind [Bf.out]
 | some d=>
  have put1:∀{a:Nat->AV}{av:AV}{c:(Nat->AV)->Prop},N.free d=true->av.uses d=false->c (put a d av)->bT N a d av c:=λA B E=>by grind [bT]
  have put2:∀{a:Nat->AV}{av:AV}{c:(Nat->AV)->Prop},bT N a d av c->N.free d=true/\av.uses d=false/\c (put a d av):=fun {a av c} n=>by grind [bT]
  have pure1:di P TE F o.op (λav=>bT N F d av K)->∃av,N.free d=true/\av.uses d=false/\K (put F d av)/\eK F (o.looksAt ops) av/\∀a:Nat->AV,ig F a (o.looksAt ops)->∀c:(Nat->AV)->Prop,c (put a d av)->di P TE a o.op (λav=>bT N a d av c):=λn=>by
   obtain⟨av,A,B,E⟩:=kv n
   grind [eK.mono,iE,ig.mono]
  unfold gK at h;rw[e]at h;unfold fL at h;cases r:o.guard with
  | none=>
   rw[r]at h;obtain⟨av,i,k,l,w,C⟩:=pure1 h;exact⟨d,av,⟨e,i,k,w,λa f c t=>by unfold gK fL;simp_all⟩,l⟩
  | some p=>
   obtain⟨j,want⟩:=p;rw[r]at h;simp only at h;cases y:(ops[j]?).bind (·.dst) with
   | none=>grind
   | some u=>
    rw[y]at h;simp only at h;have q:u∈o.looksAt ops:=by grind [Go.Oper.looksAt]
    split at h
    case h_3=>exact h.elim
    case h_2=>
     rename_i J L g;obtain⟨i,k,l⟩:=put2 h;refine⟨d,.G (.tup []) [],⟨e,i,k,(λd e=>by cases e),λa f c t=>?_⟩,l⟩;unfold gK fL;rw[r,e];simp only;rw[y];simp only;rw[(f u q).1.trans g];exact put1 i k t
    rename_i b g;have same:∀{a:Nat->AV},ig F a (o.looksAt ops)->a u=.G .one [.v (.bool b)]:=λf=>(f u q).1.trans g
    have back:∀{a:Nat->AV}{c:(Nat->AV)->Prop},ig F a (o.looksAt ops)->(b=want->di P TE a o.op (λav=>bT N a d av c))->(b = !want->bT N a d (.G (.tup []) []) c)->gK P TE N ops o c a:=fun {a c} f A B=>by
     unfold gK fL;rw[r,e];simp only;rw[y];simp only;rw[same f];simp only;refine Bf.P (λG=>?_) (λG=>?_)
     all_goals grind [B6]
    have D:=B6 g;replace h:=Bf.out h;by_cases H:b=want
    ·have n:di P TE F o.op (λav=>bT N F d av K):=ψ
     obtain⟨av,i,k,l,w,C⟩:=pure1 n;exact⟨d,av,⟨e,i,k,w,λa f c t=>back f (λ_=>C a f c t) ψ⟩,l⟩
    have n:bT N F d (.G (.tup []) []) K:=ψ
    obtain⟨i,k,l⟩:=put2 n;exact⟨d,.G (.tup []) [],⟨e,i,k,(λd e=>by cases e),ψ⟩,l⟩
def aft:AV->AV
 | .G k a=>.G k (splice a 0 (List.replicate a.length .x))
 | _=>.G .one [.x]
theorem NR(v:AV)(e:Nat):(aft v).uses e=false:=by unfold aft;split<;>rfl
def eff(a:Option Nat)(d:Nat)(av:AV)(F:Nat->AV):Nat->AV:=λt=>if t=d then av else if a=some t then aft (F t) else F t
theorem Ex(av:AV)(a:∀t,(F t).uses d=false):put F d av=eff none d av F:=by grind [qq,iP,BP,eff]
variable{s:Nat}
theorem TB{v:AV}(h:v.uses s=false):tO s v=v:=by
 cases v with
 | c2 t a b c=>grind [AV.uses,tO]
 | ref t a b=>simp only[AV.uses]at h;cases b<;>simp[tO,h]
 | _=>rfl
theorem PK{k:Kd}{cs:List C}(av:AV)(a:F s=.G k cs)(c:∀t,(F t).uses d=false)(e:∀t,(F t).uses s=false):put (updH F s k (splice cs 0 (List.replicate cs.length .x))) d av=eff (some s) d av F:=by
 funext t
 unfold eff;by_cases h:t=d
 ·grind [qq]
 rw[iP _ _ h,CB h];by_cases b:t=s
 ·subst b;rw[iO,CC rfl,a];rfl
 grind [Nat.beq_eq,TB,BP,updH]
theorem JE{T:Nat}{k:Kd}{c:C}(o:k=.one\/k=.agg)(p:F s=.G k [c])(q:eP c=true)(h:gl TE N F d T 1 [(0,.tmp s)] K) :
  ∃av,N.free d=true/\(∀e,av.uses e=false)/\K (put (updH F s k [.x]) d av)/\∀(F':Nat->AV)(b:(Nat->AV)->Prop),F' s=.G k [c]->b (put (updH F' s k [.x]) d av)->gl TE N F' d T 1 [(0,.tmp s)] b:=by
 have key:∀F':Nat->AV,F' s=.G k [c]->∀b:(Nat->AV)->Prop,gl TE N F' d T 1 [(0,.tmp s)] b=Jt TE T λ_ a=>bif Nat.ble (1*a.size) 16777216 then(bif Nat.beq 1 a.size&&Nat.ble (0*a.size+a.size) (rep a.zero 1).length then bT N (updH F' s k [.x]) d (.G .one [.s .own (chunk a.size 1 (splice (rep a.zero 1) (0*a.size) [c]))]) b else False) else False:=by
  intro F' f b;unfold gl
  congr 1
  funext e a
  rcases o with rfl|rfl<;>simp only[dq,fillW,Uy,wi,nG,f,iI,bn,q,cond_true,cond_false,gQ,pB,List.length_singleton,List.replicate]
  all_goals rfl
 rw[key F p]at h;obtain⟨e,a,g,n⟩:=iA h;cases i:Nat.ble (1*a.size) 16777216 with
 | false=>grind
 | true=>
  cases j:(Nat.beq 1 a.size&&Nat.ble (0*a.size+a.size) (rep a.zero 1).length) with
  | false=>grind
  | true=>
   rw[i,j]at g;simp only[cond_true]at g;unfold bT at g;cases l:N.free d with
   | false=>grind
   | true=>
    rw[l]at g;refine⟨_,rfl,λ_=>rfl,g,λF' b f r=>?_⟩
    grind [bT]
variable{T:Option Nat}
theorem Tt{k:Kd}{cs:List C}(j:F s=.G k cs)(l:own1 T k cs=true)(h:TF TE N F d T s K) :
  ∃av,N.free d=true/\(∀e,av.uses e=false)/\K (put (updH F s k (splice cs 0 (List.replicate cs.length .x))) d av)/\∀(F':Nat->AV)(a:(Nat->AV)->Prop),F' s=.G k cs->a (put (updH F' s k (splice cs 0 (List.replicate cs.length .x))) d av)->TF TE N F' d T s a:=by
 cases T with
 | some T=>
  have f:(k=.one\/k=.agg)/\∃c,cs=[c]/\eP c=true:=by
   unfold own1 at l
   grind
  obtain⟨n,c,rfl,o⟩:=f;exact JE n j o h
 | none=>
  have f:∃b,k=.tup b/\bn cs=false:=by
   unfold own1 at l
   grind
  obtain⟨b,rfl,p⟩:=f;have key:∀F':Nat->AV,F' s=.G (.tup b) cs->∀a,TF TE N F' d none s a=bT N (updH F' s (.tup b) (splice cs 0 (List.replicate cs.length .x))) d (.G (.tup b) cs) a:=λF' g a=>by grind [TF,jd]
  rw[key F j]at h;unfold bT at h;cases i:N.free d with
  | false=>grind
  | true=>
   rw[i]at h;refine⟨_,rfl,λ_=>rfl,h,λF' a g q=>?_⟩
   grind [bT]
structure Yl(P:Program)(TE:Nat->Option TI)(N:fo)(ops:Array Oper)(o:Oper)(F:Nat->AV)(mv:Option Nat)(d:Nat)(av:AV):Prop where
 dst:o.dst=some d
 lt:N.free d=true
 self:av.uses d=false
 from_:eK F (o.looksAt ops) av
 mvl:∀s,mv=some s->o.guard=none/\(∃T,nR o.op=some (T,s))/\j7 ops o s=true
 at_:∀F':Nat->AV,ig F F' (o.looksAt ops)->(∀t,(F' t).uses d=false)->(∀s,mv=some s->∀t,(F' t).uses s=false)->∀K':(Nat->AV)->Prop,K' (eff mv d av F')->lS P TE N ops o K' F'
theorem Kt{o:Op}(h:nR o=some (T,s)):(∃a ps,T=some a/\o=.buildSlice a 1 ps/\ps.toList=[(0,.tmp s)])\/(T=none/\o=.move (.tmp s)):=by
 unfold nR at h
 grind
theorem cZ(h:nR o.op=some (T,s)):s∈o.looksAt ops:=by
 refine iE o s ?_;unfold dz;refine List.mem_flatMap.2 ⟨.tmp s,?_,by simp[tm]⟩
 grind [Kt,Go.Op.operands]
theorem Hs{p:Option Nat × Nat}(h:Lb F o=some p):o.guard=none/\nR o.op=some p/\∃k cs,F p.2=.G k cs/\own1 p.1 k cs=true:=by grind [Lb]
theorem xv{F':Nat->AV}(a:ig F F' (o.looksAt ops)):Lb F' o=Lb F o:=by
 unfold Lb;cases c:o.guard with
 | some _=>rfl
 | none=>
  cases b:nR o.op with
  | none=>rfl
  | some p=>simp only;rw[(a p.2 (cZ b)).1]
theorem tN(c:Lb F o=none)(h:gK P TE N ops o K F)(e:∀d,o.dst=some d->∀t,(F t).uses d=false):∃d av,Yl P TE N ops o F none d av/\K (eff none d av F):=by
 obtain⟨d,av,a,f⟩:=zq h;refine⟨d,av,⟨a.dst,a.lt,a.self,a.from_,ψ,λg i j _ k b=>?_⟩,by grind [Ex,UG.dst]⟩
 grind [xv,UG.at_,Ex,lS]
theorem qS(h:lS P TE N ops o K F)(E:∀d,o.dst=some d->∀t,(F t).uses d=false)(y:∀T s,o.guard=none->nR o.op=some (T,s)->j7 ops o s=true->∀t,(F t).uses s=false) :
  ∃r d av,Yl P TE N ops o F r d av/\K (eff r d av F):=by
 unfold lS at h;cases f:Lb F o with
 | none=>
  grind [tN]
 | some p=>
  rw[f]at h;obtain⟨G,a,k,H,g,b⟩:=Hs f;simp only at h;cases i:o.dst with
  | none=>grind
  | some d=>
   rw[i]at h;simp only at h;cases c:j7 ops o p.2 with
   | false=>grind
   | true=>
    rw[c]at h;simp only[cond_true]at h;obtain⟨av,A,u,J,B⟩:=Tt g b h;refine⟨some p.2,d,av,⟨i,A,u d,λe w=>(by rw[u e]at w;cases w),λs y=>?_,λC j l n D q=>?_⟩,?_⟩
    ·grind
    ·unfold lS
     rw[xv j,f];simp only;rw[i];simp only;rw[c];refine B C D ((j p.2 (cZ a)).1.trans g) ?_;rw[PK av ((j p.2 (cZ a)).1.trans g) l (n p.2 rfl)];exact q
    grind [PK]
theorem LN{nm:Bool}(h:P9 P TE N ops nm o K F)(b:∀d,o.dst=some d->∀t,(F t).uses d=false)(c:∀T s,o.guard=none->nR o.op=some (T,s)->j7 ops o s=true->∀t,(F t).uses s=false) :
  ∃a d av,Yl P TE N ops o F a d av/\K (eff a d av F)/\(nm=true->a=none):=by
 unfold P9 at h
 grind [qS,tN]
end
section
variable{P:Program}{w0 w w1:World}{M S0 S:af}{N:fo}{φ:Nat->af}{F:Nat->AV}{a:Act}{TE:Nat->Option TI}{ops:Array Oper}
def xJ(P:Program)(TE:Nat->Option TI)(N:fo)(ops:Array Oper)(m i:Nat)(K:(Nat->AV)->Prop)(F:Nat->AV):Prop:=
 match ops[i]? with
 | none=>K F
 | some o=>if i<m then lS P TE N ops o K F else jt P TE N ops o K F
def J3(P:Program)(TE:Nat->Option TI)(N:fo)(ops:Array Oper)(m:Nat)(K:(Nat->AV)->Prop):Nat->Array Bool->(Nat->AV)->Prop
 | 0,listed,F=>Region.ready .any ops listed=[]/\K F
 | fuel+1,listed,F=>(Region.ready .any ops listed=[]->K F)/\∀i,i∈Region.ready .any ops listed->xJ P TE N ops m i (J3 P TE N ops m K fuel (listed.setIfInBounds i true)) F
variable{Q:Exit->Act->World->Prop}{Kc:Act->World->Prop}{K:(Nat->AV)->Prop}{o:Oper}
theorem bm.oneP0(h:bm w0 M S0 N S φ F a w)(c:∀t i,TE t=some i->im P t i)(b:gK P TE N ops o K F)(p:∀F' j e,K F'->St w0 M S0 N F' j e->Kc j e) :
  if Region.wanted o (yielded ops a.tmps) then o.wp P a w Kc Q else Kc (a.put o.dst undef) w:=by
 unfold gK at b;rcases zh h b with⟨f,b⟩|⟨f,b⟩
 ·rw[f,CC rfl]
  cases g:o.dst with
  | none=>grind
  | some d=>
   rw[g]at b;obtain⟨av,k,l⟩:=h.pure_ c b;refine l Kc Q λv e q=>?_
   grind [bm.putD_new]
 rw[f,CB (by simp)];cases g:o.dst with
 | none=>grind
 | some d=>
  rw[g]at b;obtain⟨F',k,n⟩:=h.putD_new (v:=undef) (mj.same (av:=.G (.tup []) []) NQ) b
  grind
variable{d:Nat}
def M3{p:Option Nat × Nat}(f:Lb F o=some p)(c:o.dst=some d)(h:TF TE N F d p.1 p.2 K):jt P TE N ops o K F:=by
 obtain⟨e,a,-⟩:=Hs f;obtain⟨T,s⟩:=p;rcases Kt a with⟨i,j,rfl,b,g⟩|⟨rfl,b⟩
 ·unfold jt fL
  rw[e];simp only;rw[b];simp only[Do];rw[c];simp only[kT,g];exact h
 unfold jt fL;rw[e];simp only;rw[b];simp only[Do];rw[c];simp only[kT];exact h
theorem bm.oneP(h:bm w0 M S0 N S φ F a w)(c:∀t i,TE t=some i->im P t i)(b:lS P TE N ops o K F)(g:∀F' j k,K F'->St w0 M S0 N F' j k->Kc j k) :
  if Region.wanted o (yielded ops a.tmps) then o.wp P a w Kc Q else Kc (a.put o.dst undef) w:=by
 unfold lS at b;cases e:Lb F o with
 | none=>rw[e]at b;exact h.oneP0 c b g
 | some p=>
  rw[e]at b;simp only at b;cases l:o.dst with
  | none=>grind
  | some d=>
   rw[l]at b;simp only at b;cases f:j7 ops o p.2 with
   | false=>grind
   | true=>
    rw[f]at b;have:=h.one c (M3 (P:=P) (ops:=ops) e l b) (Q:=Q) g
    grind
variable{m i:Nat}
theorem Jx(c:∀t i,TE t=some i->im P t i)(b:xJ P TE N ops m i K F)(g:St w0 M S0 N F a w)(d:∀F' e f,K F'->St w0 M S0 N F' e f->Kc e f):wpOp P ops Q i Kc a w:=by
 unfold xJ at b;unfold wpOp;cases j:ops[i]? with
 | none=>grind
 | some o=>
  rw[j]at b;simp only at b |-;obtain⟨S,φ,h⟩:=g;have:if Region.wanted o (yielded ops a.tmps) then o.wp P a w Kc Q else Kc (a.put o.dst undef) w:=by
   split at b
   ·exact h.oneP c b d
   exact h.one c b d
  grind
def B4(b:∀t i,TE t=some i->im P t i){m:Nat}{K:(Nat->AV)->Prop}{Q:Exit->Act->World->Prop}(g:∀F' d e,K F'->St w0 M S0 N F' d e->Q .normal d e) :
  ∀(fuel:Nat)(listed:Array Bool)(F:Nat->AV)(a:Act)(w:World),J3 P TE N ops m K fuel listed F->St w0 M S0 N F a w->wpAny P .any ops Q fuel listed a w
 | 0,_,F,a,w,c,f=>⟨c.1,g F a w c.2 f⟩
 | fuel+1,_,F,a,w,c,f=>⟨λj=>g F a w (c.1 j) f,λi k=>Jx b (c.2 i k) f λF' d e l h=>B4 b g fuel _ F' d e l h⟩
structure Dq(ops:Array Oper)(m:Nat)(F:Nat->AV)(listed:Array Bool):Prop where
 dst:∀j o d,j<m->ops[j]? = some o->listed.getD j true=false->o.dst=some d->∀t,(F t).uses d=false
 mv:∀j o T s,j<m->ops[j]? = some o->listed.getD j true=false->o.guard=none->nR o.op=some (T,s)->j7 ops o s=true->∀t,(F t).uses s=false
def DC(ops:Array Oper)(listed:Array Bool):Prop:=∀j a,ops[j]? = some a->listed.getD j false=true->∀k,de a k=true->listed.getD k false=true
variable{e:Nat}
theorem Rv{v:AV}(h:(kl d v).uses e=true):v.uses e=true/\v.uses d=false:=by
 rw[BP]at h;cases a:v.uses d with
 | true=>rw[a]at h;cases h
 | false=>grind
theorem zJ{α:Type}{p:α->Bool} : ∀{l:List α}{i j:Nat}{x y:α},(l.filter p).length<=1->l[i]? = some x->l[j]? = some y->p x=true->p y=true->i=j
 | [],_,_,_,_,_,h,_,_,_=>by simp at h
 | a::l,0,0,_,_,_,_,_,_,_=>rfl
 | a::l,i+1,j+1,x,y,h,b,c,d,e=>by
  rw[zJ (l:=l) (z5 (List.Sublist.length_le ((List.sublist_cons_self a l).filter p)) h) b c d e]
 | a::l,0,j+1,x,y,h,b,c,d,e=>by
  simp only[List.getElem?_cons_zero,C1]at b;subst b;rw[List.filter_cons_of_pos d]at h;have:y∈l.filter p:=X4.2 ⟨O2 c,e⟩;have:=List.length_pos_of_mem this;rw[List.length_cons]at h;omega
 | a::l,i+1,0,x,y,h,b,c,d,e=>by
  simp only[List.getElem?_cons_zero,C1]at c;subst c;rw[List.filter_cons_of_pos e]at h;have:x∈l.filter p:=X4.2 ⟨O2 b,d⟩;have:=List.length_pos_of_mem this;rw[List.length_cons]at h;omega
variable{j:Nat}{listed:Array Bool}
theorem iS{a:Nat}(b:(listed.setIfInBounds j true).getD a true=false):a≠j:=λe=>by simp_all
variable{av:AV}{t:Nat}
theorem kx{a:Option Nat}(b:av.uses e=false)(c:(F t).uses e=false):(eff a d av F t).uses e=false:=by grind [NR,eff]
theorem Dq.put{o:Option Nat}(h:Dq ops m F listed)(p:∀a b g,a<m->a≠j->ops[a]? = some b->listed.getD a true=false->b.dst=some g->av.uses g=false)(q:∀a b T s,a<m->a≠j->ops[a]? = some b->listed.getD a true=false->b.guard=none->nR b.op=some (T,s)->j7 ops b s=true->av.uses s=false) :
  Dq ops m (eff o d av F) (listed.setIfInBounds j true):=by
 refine⟨λa b g i c e k t=>?_,λa b T s i c e r l n t=>?_⟩
 ·have f:=iS e
  rw[getD_set_ne true (Ne.symm f)]at e;exact kx ψ (h.dst a b g i c e k t)
 have f:=iS e;rw[getD_set_ne true (Ne.symm f)]at e;exact kx ψ (h.mv a b T s i c e r l n t)
inductive pc(ops:Array Oper):Nat->Nat->Prop
 |one {j i:Nat} (h:de (dr ops j) i=true):pc ops j i
 |step {j k i:Nat} (h:de (dr ops j) k=true) (h2:pc ops k i):pc ops j i
def pc.trans{k:Nat}(h:pc ops j k)(a:pc ops k i):pc ops j i:=by
 induction h with
 | one h=>exact .step h a
 | step h _ b=>exact .step h (b a)
theorem GB{i:Nat} : ∀{a:List Nat},(Gd a).testBit i=true->i∈a
 | [],h=>by simp[Gd]at h
 | k::a,h=>by
  rw[Gd,Nat.testBit_or,W6]at h;rcases h with h|h
  ·grind
  exact V5 _ (GB h)
theorem x9(h:(Gd (ons o)).testBit i=true):de o i=true:=by
 have:=GB h
 grind [cu,ons]
def t8{j:Nat} : ∀(k S:Nat),(∀i,S.testBit i=true->pc ops j i)->∀i,(clo ops k S).testBit i=true->pc ops j i
 | 0,_,h,i,a=>h i a
 | k+1,S,h,i,a=>by
  rw[clo,Pn]at a;cases c:S.testBit k with
  | false=>rw[c]at a;exact t8 k S h i a
  | true=>
   rw[c]at a;refine t8 k _ (λe b=>?_) i a;rw[Nat.testBit_or,W6]at b;rcases b with d|d
   ·exact h e d
   exact(h k c).trans (.one (x9 d))
theorem od(d:DC ops listed)(b:∀j n,ops[j]? = some n->∀e∈n.after,Region.binds .any e=true->e.on<j)(o:pc ops j i):j<ops.size->(∀k,de (dr ops j) k=true->listed.getD k false=true)->listed.getD i false=true:=by
 induction o with
 | one h=>grind
 | @step j k i h h2 ih=>
  intro f p;have r:k<j:=by
   have c:=(show ops[j]? = some ops[j] from X6 f)
   rw[bE c]at h;obtain⟨e,g,l,rfl⟩:=cu.1 h;exact b j _ c e g l
  have a:k<ops.size:=ω
  have c:=(show ops[k]? = some ops[k] from X6 a)
  exact ih a λq a=>d k _ c (p k h) q (by rw[bE c]at a;exact a)
theorem DC.put(h:DC ops listed)(d:j∈Region.ready .any ops listed):DC ops (listed.setIfInBounds j true):=by
 obtain⟨l,n,f,b⟩:=mem_ready.1 d;intro k ok g c e i;by_cases a:k=j
 ·grind [cu,Go.getD_set_true]
 rw[getD_set_ne false (Ne.symm a)]at c;exact getD_set_true (h k ok g c e i)
theorem gq{s:Nat}(h:j7 ops o s=true):(∃k ok,de o k=true/\ops[k]? = some ok/\ok.dst=some s)/\∀(i j:Nat)(a b:Oper),ops[i]? = some a->ops[j]? = some b->s∈a.looksAt ops->s∈b.looksAt ops->i=j:=by
 unfold j7 at h;rw[I0]at h;obtain⟨q,c⟩:=h;constructor
 ·grind [bE,W2]
 intro i j a b d e f g;have l:=O1 c;have n:ops.toList[i]? = some a:=by simpa using d
 have p:ops.toList[j]? = some b:=by simpa using e
 grind [Nat.beq_refl,zJ]
structure Tm(ops:Array Oper)(m:Nat):Prop where
 back:∀j oj,ops[j]? = some oj->∀e∈oj.after,Region.binds .any e=true->e.on<j
 tail:∀j,m<=j->j<ops.size->∀i,i<j->pc ops j i
 apart:∀i j oi oj,i<m->j<m->i≠j->ops[i]? = some oi->ops[j]? = some oj->de oj i=true\/de oi j=true\/oi.apart ops oj=true
 look:∀i j oi oj d,i<m->j<m->i≠j->ops[i]? = some oi->ops[j]? = some oj->oi.dst=some d->d∈oj.looksAt ops->de oj i=true
theorem H1(h:Eh ops m=true):Tm ops m:=by
 have o:∀j b,ops[j]? = some b->_:=λj b a=>gM h (Z3.1 a).1
 refine⟨λj b a e t p=>?_,λj u a i f=>?_,λi j q b f a g r k=>?_,λi j q b d f a g r k w y=>?_⟩
 ·grind [bE,Nat.blt_eq]
 ·have l:=(show ops[j]? = some ops[j] from X6 a)
  have:=o j _ l;simp only[I0]at this;have c:=this.2;rw[show Nat.blt j m=false by rw[<-W5,Nat.blt_eq];omega]at c;simp only[cond_false,Pn]at c;exact t8 j _ (λA n=>.one (x9 n)) i (gM c f)
 ·grind [bE,Nat.blt_eq,gM,Nat.beq_eq]
 have:=o j b k;rw[bE k]at this;simp only[I0]at this;have c:=this.2;rw[show Nat.blt j m=true by simpa[Nat.blt_eq] using a]at c
 grind [gM,bE,Nat.beq_eq,uH]
theorem Mr(V:Tm ops m){c:Oper}{u:Option Nat}(R:ops[i]? = some c)(w:i<m) :
  ∀(fuel:Nat)(listed:Array Bool)(F:Nat->AV),i∈Region.ready .any ops listed->Dq ops m F listed->DC ops listed->Yl P TE N ops c F u d av->J3 P TE N ops m K fuel (listed.setIfInBounds i true) (eff u d av F)->J3 P TE N ops m K (fuel+1) listed F:=by
 have self:∀(listed:Array Bool)(F:Nat->AV),i∈Region.ready .any ops listed->Dq ops m F listed->Yl P TE N ops c F u d av->∀S:(Nat->AV)->Prop,S (eff u d av F)->lS P TE N ops c S F:=λlisted F W a g S hK=>by
  have b:=(mem_ready.1 W).1;refine g.at_ F (Cc _ _) (a.dst i c d w R b g.dst) (λs X=>?_) S hK;obtain⟨A,⟨T,h2⟩,h3⟩:=g.mvl s X;exact a.mv i c T s w R b A h2 h3
 intro fuel
 induction fuel with
 | zero=>
  intro listed F W a E g H;refine⟨ψ,λj Y=>?_⟩;by_cases n:j=i
  ·grind [xJ]
  have:=ready_mono Y n;rw[H.1]at this;cases this
 | succ fuel ih=>
  intro listed F W a E g H;refine⟨ψ,λj Y=>?_⟩;by_cases n:j=i
  ·grind [xJ]
  have A:=H.2 j (ready_mono Y n);obtain⟨B,f,o,hall⟩:=mem_ready.1 Y;have b:=(mem_ready.1 W).1;have unl:∀k,listed.getD k true=false->listed.getD k false=true->False:=ψ
  have noedge:∀k ok,ops[k]? = some ok->listed.getD k true=false->de f k=false:=λk ok hk Z=>by grind [cu]
  have noedge':∀k ok,ops[k]? = some ok->listed.getD k true=false->de c k=false:=λk ok hk Z=>by grind [cu,Go.mem_ready]
  have G:j<m:=by
   rcases Nat.lt_or_ge j m with h|h
   ·exact h
   have C:=(Z3.1 o).1;refine(unl i b (od E V.back (V.tail j h C i ω) C λk hk=>?_)).elim
   grind [bE,cu]
  have hap:c.apart ops f=true:=by grind [Tm.apart]
  obtain⟨ap1,ap2,ap3⟩:=Oper.apart_spec hap;unfold xJ at A |-;rw[o]at A |-;simp only[CC G]at A |-;have hdl:d∉f.looksAt ops:=ap1 d g.dst;have cd:∀t,(F t).uses d=false:=a.dst i c d w R b g.dst
  have cdj':∀l,f.dst=some l->∀t,(F t).uses l=false:=λl J=>a.dst j f l G o B J
  have cmv:∀s,u=some s->(∀t,(F t).uses s=false)/\s∉f.looksAt ops/\s∈c.looksAt ops:=λs X=>by
   obtain⟨L,⟨T,q⟩,r⟩:=g.mvl s X;exact⟨a.mv i c T s w R b L q r,λhl=>n ((gq r).2 i j c f R o (cZ q) hl).symm,cZ q⟩
  have cmvj:∀T s,f.guard=none->nR f.op=some (T,s)->j7 ops f s=true->(∀t,(F t).uses s=false)/\s∉c.looksAt ops/\s∈f.looksAt ops:=λT s L q r=>
   ⟨a.mv j f T s G o B L q r,λhl=>n ((gq r).2 i j c f R o hl (cZ q)).symm,cZ q⟩
  have avno:∀e,e∉c.looksAt ops->(∀t,(F t).uses e=false)->av.uses e=false:=λe A h2=>by
   cases hu:av.uses e with
   | false=>rfl
   | true=>
    rcases g.from_ e hu with h|⟨t,_,h⟩
    all_goals grind
  obtain⟨mvj,l,avj,p,hKj⟩:=qS A (λl J t=>kx ψ (cdj' l J t)) (λT s L q r t=>by grind [kx]);have hdne:d≠l:=λe=>ap2 d g.dst (by rw[p.dst,e])
  have hdjl:l∉c.looksAt ops:=ap3 l p.dst;have cdj:∀t,(F t).uses l=false:=cdj' l p.dst
  have cmj:∀s,mvj=some s->(∀t,(F t).uses s=false)/\s∉c.looksAt ops/\s∈f.looksAt ops:=λs X=>by
   obtain⟨L,⟨T,q⟩,r⟩:=p.mvl s X
   grind
  have lookj:∀t,t∈f.looksAt ops->eff u d av F t=F t:=λt U=>by grind [eff]
  have looki:∀t,t∈c.looksAt ops->eff mvj l avj F t=F t:=λt U=>by grind [eff]
  have avjno:∀e,e∉f.looksAt ops->(∀t,(F t).uses e=false)->avj.uses e=false:=λe A h2=>by
   cases hu:avj.uses e with
   | false=>rfl
   | true=>
    rcases p.from_ e hu with h|⟨t,U,h⟩
    all_goals grind
  have agrj:ig (eff u d av F) F (f.looksAt ops):=λt U=>by grind [eff]
  refine p.at_ F agrj cdj ψ _ (ih (listed.setIfInBounds j true) (eff mvj l avj F) (ready_mono W (Ne.symm n)) (a.put (λj' o' d' M D y O Q=>?_) (λj' o' T s M D y O L q r=>?_)) (E.put Y) ?_ ?_)
  ·refine avjno d' (λh=>?_) (a.dst j' o' d' M y O Q)
   grind [Tm.look]
  ·exact avjno s (λh=>D ((gq r).2 j' j o' f y o (cZ q) h)) (a.mv j' o' T s M y O L q r)
  ·refine⟨g.dst,g.lt,g.self,λe he=>?_,g.mvl,λF' hA Q hs' S hK=>g.at_ F' (λt U=>?_) Q hs' S hK⟩
   ·rcases g.from_ e he with h|⟨t,U,h⟩
    all_goals grind
   obtain⟨a1,a2⟩:=hA t U
   grind [eff]
  rw[Array.setIfInBounds_comm _ _ n];have:eff u d av (eff mvj l avj F)=eff mvj l avj (eff u d av F):=by grind [eff]
  grind
theorem jW{o:Op}{K a:AV->Prop}(h:di P TE F o K)(b:∀av,K av->a av):di P TE F o a:=by
 obtain⟨av,c,-,d⟩:=kv h
 grind [Cc]
theorem b6{a:(Nat->AV)->Prop}(h:bT N F d av K)(b:∀F',K F'->a F'):bT N F d av a:=by grind [bT]
variable{y:Operand}
theorem fp{K b:(Nat->AV)->Option Nat->List C->Prop}(h:gQ F y K)(g:∀F' ag cs,K F' ag cs->b F' ag cs):gQ F y b:=by
 cases y with
 | tmp t=>
  simp only[gQ]at h |-;cases d:F t with
  | G k cs=>
   grind
  | c2 e f c ag=>
   rw[d]at h;cases c with
   | cons s c=>
    simp only at h |-;cases a:F e with
    | G k cs=>
     rw[a]at h;obtain⟨r,j,i,l,n,o⟩:=Lq.out h;exact .mk_ ψ
    | _=>grind
   | nil=>
    grind
  | _=>grind
 | _=>exact h.elim
variable{x:Operand}
theorem Db{K a:AV->Prop}(h:bH F x K)(b:∀av,K av->a av):bH F x a:=by
 obtain⟨av,c,-,d⟩:=kD h
 grind [Cc]
theorem FG{a:(Nat->AV)->Prop}(h:lz N F d x K)(j:∀F',K F'->a F'):lz N F d x a:=by
 have i:∀y,bH F y (λb=>bT N F d b K)->bH F y (λb=>bT N F d b a):=λy h=>Db h λb h=>b6 h j
 have k:∀y,gQ F y (λF' c e=>bT N F' d (.G (ml c) e) K)->gQ F y (λF' c e=>bT N F' d (.G (ml c) e) a):=λy h=>fp h λF' c e h=>b6 h j
 cases x with
 | tmp t=>
  grind [lz]
 | const v=>exact i (.const v) h
 | global g=>exact i (.global g) h
 | func f=>exact i (.func f) h
theorem Qe{a:(Nat->AV)->Prop}(h:Et N F d x K)(b:∀F',K F'->a F'):Et N F d x a:=by grind [b6,FG,Et,Kn]
variable{b:(Nat->AV)->Prop}
theorem BL{cs:List C}(h:rO F x cs K)(d:∀F',K F'->b F'):rO F x cs b:=by
 cases x with
 | tmp t=>
  simp only[rO]at h |-;cases e:F t with
  | G k f=>
   grind [dq]
  | ref g i c=>
   rw[e]at h;cases c with
   | cons s c=>
    simp only at h |-;cases a:F g with
    | G k f=>
     rw[a]at h;obtain⟨r,j,l,n,o,p⟩:=Pu.out h;exact Pu.mk l n o rfl (d _ p)
    | _=>grind
   | nil=>
    grind [dq]
  | _=>grind
 | _=>exact h.elim
variable{T:Nat}
theorem yf{a:(Nat->AV)->Prop}(h:mJ TE F T x y K)(b:∀F',K F'->a F'):mJ TE F T x y a:=by
 unfold mJ at h |-;split at h
 all_goals grind [cA,Cc,BL,fp]
theorem HX{g:Option (Nat × Bool)}{K1 a K1' K0':(Nat->AV)->Prop}(h:fL F ops g K1 a)(h1:∀F,K1 F->K1' F)(b:∀F,a F->K0' F):fL F ops g K1' K0':=by
 unfold fL at h |-;split at h
 ·exact h1 _ h
 rename_i j want;split at h
 all_goals grind [Bf.out,Bf.in_]
theorem vp{K a:(Nat->AV)->Option Nat->List C->Prop}(h:wi F x K)(c:∀F' ag cs,K F' ag cs->a F' ag cs):wi F x a:=by
 obtain⟨ag,cs,d,b⟩:=cA h;refine b F (Cc _ _) _ ?_
 grind [fp]
theorem jE{c:Nat->Option (Nat × Nat)} : ∀{parts:List (Nat × Operand)}{cs:List C}{K a:(Nat->AV)->List C->Prop}{F:Nat->AV},fillW c parts cs K F->(∀F' cs,K F' cs->a F' cs)->fillW c parts cs a F
 | [],cs,K,a,F,h,b=>b _ _ h
 | p::rest,cs,K,a,F,h,b=>by
  simp only[fillW]at h |-;split at h
  case h_2=>exact h.elim
  rename_i q e;refine vp h λF' f xs h=>?_
  cases d:(Nat.beq xs.length q.2&&Nat.ble (q.1+q.2) cs.length) with
  | false=>grind
  | true=>
   rw[d]at h;simp only[cond_true,dq]at h |-;exact jE h b
variable{parts:List (Nat × Operand)}
theorem Gv{a:(Nat->AV)->Prop}(h:lc TE N F d T parts K)(b:∀F',K F'->a F'):lc TE N F d T parts a:=by grind [jE,b6,lc]
theorem En{n:Nat}{a:(Nat->AV)->Prop}(h:gl TE N F d T n parts K)(c:∀F',K F'->a F'):gl TE N F d T n parts a:=by
 obtain⟨e,f,h,b⟩:=iA h;refine b _ ?_
 grind [b6,dq,jE,pB]
theorem H5{K a:Bool->(Nat->AV)->List (List C)->Prop}(h:DY F y K)(c:∀b F' xr,K b F' xr->a b F' xr):DY F y a:=by
 unfold DY at h |-;split at h
 all_goals grind [fp,cA,Cc]
theorem B9{K a:(Nat->AV)->List (List C)->Prop}(h:D3 F x K)(c:∀F' xr,K F' xr->a F' xr):D3 F x a:=by
 obtain⟨d,e,f,b⟩:=cA h;refine b F (Cc _ _) _ ?_
 grind [fp]
theorem Mw{a:(Nat->AV)->Prop}(h:D1 TE N F d T x y K)(f:∀F',K F'->a F'):D1 TE N F d T x y a:=by
 obtain⟨e,p,h,g⟩:=iA h;refine g _ (H5 h λb F' q h=>B9 h λF'' c h=>?_);obtain⟨i,j,k,l,n,o⟩:=h.out;exact CT i j k l n rfl (b6 o f)
theorem Gw{a:(Nat->AV)->Prop}(h:qQ TE N F d T x K)(b:∀F',K F'->a F'):qQ TE N F d T x a:=by
 unfold qQ at h |-;split at h
 all_goals grind [fp,b6]
theorem J2(h:jd N F d x K)(c:∀F',K F'->b F'):jd N F d x b:=by
 have std:∀{y:Operand},bH F y (λa=>bT N F d a K)->bH F y (λa=>bT N F d a b):=λh=>Db h λa h=>b6 h c
 cases x with
 | tmp t=>
  simp only[jd]at h |-
  grind [b6]
 | const v=>grind [jd]
 | global g=>grind [jd]
 | func f=>grind [jd]
theorem J6{a:(Nat->AV)->Prop}(h:vC N F d x K)(b:∀F',K F'->a F'):vC N F d x a:=by
 unfold vC at h |-;split at h
 case h_2=>exact h.elim
 split at h
 all_goals grind [Nt.out,Nt.mk,b6]
theorem Ga{a:(Nat->AV)->Prop}(h:qM N F d x K)(b:∀F',K F'->a F'):qM N F d x a:=by
 unfold qM at h |-
 grind [b6]
variable{c:(Nat->AV)->Prop}
theorem N4{b:Operand}(h:GE TE N F d T x b K)(f:∀F',K F'->c F'):GE TE N F d T x b c:=by
 unfold GE at h |-;obtain⟨e,q,h,a⟩:=iA h;refine a _ ?_;obtain⟨n,g,i⟩:=og h;refine i F (Cc _ _) _ (fp g λF' r t h=>?_);split at h
 case h_2=>exact h.elim
 obtain⟨m,y,j,k,l,o,p,h⟩:=h.out;exact .mk_ ⟨m,y,j,k,l,o,p,_,rfl,b6 h f⟩
theorem He{b:Op}{e:(Nat->AV)->Prop}(h:kT P TE N d b K F)(a:∀F',K F'->e F'):kT P TE N d b e F:=by
 cases b with
 | assign x=>exact Qe h a
 | box T x=>grind [vp,b6,kT,Nm]
 | build T g=>exact Gv h a
 | buildSlice T n g=>exact En h a
 | range T x=>exact Gw h a
 | move x=>exact J2 h a
 | next x str=>
  cases str with
  | true=>exact h.elim
  | false=>exact J6 h a
 | entry x=>exact Ga h a
 | call c=>
  grind [jW,b6,Mw,kT]
 | slice T x i f j=>
  cases i with
  | some _=>grind [jW,b6,kT]
  | none=>
   cases f with
   | none=>grind [jW,b6,kT]
   | some f=>
    cases j with
    | some _=>grind [jW,b6,kT]
    | none=>
     grind [jW,b6,N4,kT]
 | _=>grind [jW,b6,kT]
theorem fB{off n:Nat}{st:cG}{K a:(Nat->AV)->List C->Prop}(h:lendAt F t off st n K)(b:∀F' cs,K F' cs->a F' cs):lendAt F t off st n a:=by
 unfold lendAt at h |-;split at h
 case h_2=>exact h.elim
 split at h
 ·grind [dq]
 obtain⟨r,j,c,d,e,f⟩:=Lq.out h;refine .mk_ ?_
 grind
theorem cv:∀{xs:List (Operand × Nat)}{K a:(Nat->AV)->List (MA × sr)->Prop}{F:Nat->AV},lendP xs K F->(∀F' l,K F' l->a F' l)->lendP xs a F
 | [],K,a,F,h,b=>b _ _ h
 | (x,0)::xs,K,a,F,h,b=>cv (xs:=xs) h ψ
 | (x,1)::xs,K,a,F,h,b=>by
  simp only[lendP]at h |-;split at h
  case h_2=>exact h.elim
  split at h
  ·exact fB h λF' c h=>cv h ψ
  ·exact fB h λF' c h=>cv h ψ
  ·exact fB h λF' c h=>cv h ψ
  exact h.elim
 | (x,n+2)::xs,K,a,F,h,b=>by
  simp only[lendP]at h |-;split at h
  case h_2=>exact h.elim
  split at h
  ·split at h
   ·exact cv h ψ
   exact h.elim
  ·exact cv h ψ
  exact h.elim
theorem jG:∀{l:List (MA × sr)}{xs:List Operand}{K a:Bool->List MA->Prop},valsP F l xs K->(∀b A,K b A->a b A)->valsP F l xs a
 | [],[],K,a,h,c=>c _ _ h
 | (m,.no)::l,x::xs,K,a,h,c=>by
  obtain⟨f,g,d,e⟩:=cA h;refine e F (Cc _ _) _ (jG d λb A h=>?_)
  grind
 | (m,.at_ t off st)::l,x::xs,K,a,h,c=>jG (l:=l) (xs:=xs) h ψ
 | (m,.box t)::l,x::xs,K,a,h,c=>jG (l:=l) (xs:=xs) h ψ
 | [],_::_,K,a,h,c=>h.elim
 | (m,.no)::l,[],K,a,h,c=>h.elim
 | (m,.at_ t off st)::l,[],K,a,h,c=>h.elim
 | (m,.box t)::l,[],K,a,h,c=>h.elim
theorem dv{K b:(Nat->AV)->Prop}(a:∀F',K F'->b F'):∀{l:List (MA × sr)}{B:List MA}{F:Nat->AV},ia l B K F->ia l B b F
 | [],[],F,h=>a _ h
 | [],_::_,F,h=>h.elim
 | (m,.no)::l,[],F,h=>h.elim
 | (m,.at_ t off st)::l,[],F,h=>h.elim
 | (m,.box t)::l,[],F,h=>h.elim
 | (m,.no)::l,.val _ _::B,F,h=>dv a (l:=l) (B:=B) h
 | (m,.no)::l,.mut _ _::B,F,h=>dv a (l:=l) (B:=B) h
 | (m,.no)::l,.ptr _::B,F,h=>dv a (l:=l) (B:=B) h
 | (m,.at_ t off st)::l,.val _ _::B,F,h=>h.elim
 | (m,.at_ t off st)::l,.ptr _::B,F,h=>h.elim
 | (m,.box t)::l,.val _ _::B,F,h=>h.elim
 | (m,.box t)::l,.mut _ _::B,F,h=>h.elim
 | (m,.at_ t off st)::l,.mut ag out::B,F,h=>by
  simp only[ia]at h |-;split at h
  case h_2=>exact h.elim
  split at h
  ·rename_i k c _ _
   cases d:Nat.ble (off+out.length) c.length with
   | false=>grind
   | true=>
    rw[d]at h;simp only[cond_true,dq]at h |-;exact dv a h
  obtain⟨r,j,e,f,g,i⟩:=Pu.out h;exact Pu.mk e f g rfl (dv a i)
 | (m,.box t)::l,.ptr out::B,F,h=>by
  simp only[ia]at h |-;split at h
  ·exact dv a h
  exact h.elim
variable{modes:List Nat}{args:List Operand}{f:Nat}
theorem JJ{d:Option Nat}{a:(Nat->AV)->Prop}(h:lZ P N F d f args modes K)(j:∀F',K F'->a F'):lZ P N F d f args modes a:=by
 unfold lZ at h |-;refine cv h λF' l h=>?_
 cases c:(wu l&&Nat.beq args.length modes.length) with
 | false=>grind
 | true=>
  rw[c]at h;refine jG h λb A h=>?_
  obtain⟨n,B,k,rcs,e,g,i⟩:=cw.out h;refine CI e g (dv (λF'' h=>?_) i)
  grind [b6]
theorem lG{F:Nat->AV}{K a:Nat->Nat->Prop}(h:B0 F x K)(b:∀t o,K t o->a t o):B0 F x a:=by grind [uG,B0]
theorem LM{d:Option Nat}{cs:List C}{c a b:Nat}{f:(Nat->AV)->Prop}{k:Kd}{rcs:List C}{B:List MA}(h:yv N F d t cs c a e b K k rcs B)(l:∀F',K F'->f F'):yv N F d t cs c a e b f k rcs B:=by
 unfold yv at h |-;split at h
 case h_2=>exact h.elim
 rename_i g i;cases j:(Nat.beq g.length a&&Nat.beq i.length b) with
 | false=>grind
 | true=>
  rw[j]at h;simp only[cond_true,dq]at h |-
  grind [b6]
theorem JB{d:Option Nat}{a b:Nat}(h:kN P N F d f args a b K)(e:∀F',K F'->c F'):kN P N F d f args a b c:=by
 unfold kN at h |-;split at h
 case h_2=>exact h.elim
 refine lG h λt g h=>lG h λi j h=>?_
 split at h
 all_goals grind [dq,cw.out,CI,LM]
theorem rU{d:Option Nat}{a:(Nat->AV)->Prop}(h:kQ P N F d f args modes K)(b:∀F',K F'->a F'):kQ P N F d f args modes a:=by grind [JB,JJ,kQ]
theorem G9{off:Nat}{z:Int}{v:Value}{a:(Nat->AV)->Prop}(h:putMap F t off z v K)(f:∀F',K F'->a F'):putMap F t off z v a:=by
 unfold putMap at h |-;cases b:F t with
 | G k d=>
  rw[b]at h;simp only at h |-;cases e:d[off]? with
  | none=>grind
  | some c=>
   rw[e]at h;cases c with
   | m g=>
    simp only at h |-;have:=h.out;refine Mu.mk rfl ?_
    grind [dq]
   | _=>exact h.elim
 | _=>grind
theorem wy{v:Operand}(h:o7 TE F T x y v K)(f:∀F',K F'->b F'):o7 TE F T x y v b:=by
 unfold o7 at h |-;split at h
 case h_2=>exact h.elim
 obtain⟨z,c,d⟩:=jp h;refine d F (Cc F _) _ ?_;obtain⟨g,a,e⟩:=jp c;refine e F (Cc F _) _ ?_;split at a
 case h_2=>exact a.elim
 split at a
 all_goals grind [G9]
theorem ky{a:(Nat->AV)->Prop}(h:jt P TE N ops o K F)(c:∀F',K F'->a F'):jt P TE N ops o a F:=by
 unfold jt at h |-;refine HX h (λF h=>?_) (λF h=>?_)
 ·split at h
  ·rename_i p _
   have lt:um P N F o.dst p.1 p.2.1 p.2.2 K->um P N F o.dst p.1 p.2.1 p.2.2 a:=λh=>rU h λF' h=>by grind [ov]
   cases b:PA N o.op with
   | false=>grind
   | true=>
    rw[b]at h;rcases h with h|h
    ·refine .pl ?_
     grind [yf,wy,He,kP]
    exact .lt (lt h)
  grind [yf,wy,He]
 grind [b6]
theorem Fe{m:Nat}(a:Tm ops m){K:(Nat->AV)->Prop}(hm:m<=ops.size):∀(l:List Oper)(k:Nat)(listed:Array Bool)(F:Nat->AV),(∀j,l[j]? = ops[k+j]?)->listed.size=ops.size->(∀j,j<ops.size->listed.getD j true=decide (j<k))->Dq ops m F listed->DC ops listed->
  N3 P TE N ops (m - k) l K F->J3 P TE N ops m K l.length listed F
 | [],k,listed,F,C,L,b,_,_,i=>by
  have D:ops.size<=k:=by
   rcases Nat.lt_or_ge k ops.size with h|h
   ·have:=C 0;simp[h]at this
   exact h
  refine⟨?_,?_⟩
  ·apply List.eq_nil_iff_forall_not_mem.2
   grind [Go.mem_ready]
  cases M:m - k with
  | zero=>rw[M]at i;exact i
  | succ x=>omega
 | o::l,k,listed,F,C,L,b,c,n,i=>by
  have w:ops[k]? = some o:=by simpa using (C 0).symm
  have D:=(Z3.1 w).1;have hready:k∈Region.ready .any ops listed:=mem_ready.2 ⟨by rw[b k D];simp,o,w,λe he hb=>by grind [Tm.back]⟩;have A:∀j,l[j]? = ops[k+1+j]?:=λj=>by have:=C (j+1);grind
  have r:∀j,j<ops.size->(listed.setIfInBounds k true).getD j true=decide (j<k+1):=λj O=>by
   by_cases y:j=k
   ·simp_all
   rw[getD_set_ne true (Ne.symm y),b j O]
   grind
  show J3 P TE N ops m K (l.length+1) listed F;by_cases f:k<m
  ·have e1:m - k=(m - (k+1))+1:=ω
   rw[e1]at i;obtain⟨mv,d,av,Q,i⟩:=qS (show lS P TE N ops o (N3 P TE N ops (m - (k+1)) l K) F from i) (λd hd=>c.dst k o d f w (by rw[b k D];simp) hd) (λT s R S U=>c.mv k o T s f w (by rw[b k D];simp) R S U);refine Mr a w f l.length listed F hready c n Q (Fe a hm l (k+1) _ _ A (by simpa using L) r (c.put (λE G H p u q hl'' B=>?_) (λE G T s p u q hl'' R S U=>?_)) (n.put hready) i)
   ·cases V:av.uses H with
    | false=>rfl
    | true=>
     rcases Q.from_ H V with h|⟨t,_,h⟩
     ·have:=a.look E k G o H p f u q w B h
      grind [cu,Tm.back]
     rw[c.dst E G H p q hl'' B t]at h;cases h
   cases V:av.uses s with
   | false=>rfl
   | true=>
    rcases Q.from_ s V with h|⟨t,_,h⟩
    ·grind [gq,cZ]
    rw[c.mv E G T s p q hl'' R S U t]at h;cases h
  refine⟨ψ,λj O=>?_⟩;have y:j=k:=by
   obtain⟨h1,oj,W,hall⟩:=mem_ready.1 O;have g:=(Z3.1 W).1;rw[b j g]at h1;simp at h1;rcases Nat.lt_or_ge k j with X|hge
   ·exfalso
    have h2:=od n a.back (a.tail j ω g k X) g λk' hk'=>by grind [bE,cu]
    grind
   omega
  subst y;unfold xJ;rw[w];simp only[CB f];have e0:m - j=0:=ω
  rw[e0]at i;have hp':jt P TE N ops o (L2 P TE N ops l K) F:=i;have Y:∀J,L2 P TE N ops l K J->J3 P TE N ops m K l.length (listed.setIfInBounds j true) J:=λJ Z=>
   Fe a hm l (j+1) _ J A (by simpa using L) r ⟨ψ,ψ⟩ (n.put hready) (by rw[show m - (j+1)=0 by omega];cases l<;>exact Z)
  grind [ky]
theorem St.clr(h:St w0 M S0 N F a w)(ds:List Nat):St w0 M S0 N (Ab.clr ds F) a w:=by
 obtain⟨S,φ,h⟩:=h;refine⟨S,φ,λt=>?_,h.dis,h.disS,h.ex,h.sub,h.sup,h.old,h.size,h.defers,h.par⟩;rw[Ek];cases b:ds.any (λd=>(F t).uses d) with
 | true=>trivial
 | false=>
  simp only[cond_false];refine(h.slot t).keep (φ:=φ) (λt _ _ _=>h.slot t) (λc _=>⟨λk e f=>?_,rfl,λ_ _ _=>⟨rfl,rfl⟩⟩) (λ_ _ _=>⟨rfl,rfl⟩) (λ_ _ _=>⟨rfl,rfl⟩) (λ_ _ h=>h) (λ_ _ h=>h)
  grind [Ek,AV.uses]
theorem DZ(g:∀t i,TE t=some i->im P t i)(E:P.follows .mixedOrders=true){id:Nat}{ds:List Nat}(b:((Nat.ble m ops.size&&below m λj=>match(dr ops j).dst with|some d=>ds.any (Nat.beq d)|none=>true)&&Eh ops m)=true)(G:N3 P TE N ops m ops.toList K (Ab.clr ds F))(H:St w0 M S0 N F a w)(J:∀F' u y,K F'->St w0 M S0 N F' u y->Q .normal u y):(Code.region id ops true).wp P Q a w:=by
 simp only[I0]at b;obtain⟨⟨A,L⟩,b⟩:=b;have c:m<=ops.size:=by simp_all
 refine wp_region_any E ?_;have l:St w0 M S0 N (Ab.clr ds F) a {w with drawn:=w.drawn+1}:=by
  have O:=H.clr ds;obtain⟨S,φ,h⟩:=O;exact⟨S,φ,h.more (w1:={w with drawn:=w.drawn+1}) (λ_ _ h=>h) ψ ⟨rfl,rfl,rfl,V3 _,λ_ _ _=>rfl,λ_ _ _ _=>rfl,λ_ _ _ _=>rfl⟩⟩
 refine B4 g (m:=m) J ops.size (Array.replicate ops.size false) _ a _ ?_ l;have R:∀d,ds.any (Nat.beq d)=true->∀t,(Ab.clr ds F t).uses d=false:=λd U t=>by
  rw[Ek];cases Z:ds.any (λd=>(F t).uses d) with
  | true=>rfl
  | false=>
   simp_all
 have B:∀j o d,j<m->ops[j]? = some o->o.dst=some d->ds.any (Nat.beq d)=true:=λj o d f C U=>by grind [gM,bE]
 have D:=H1 b;have:=Fe (P:=P) (TE:=TE) (N:=N) D (K:=K) c ops.toList 0 (Array.replicate ops.size false) (Ab.clr ds F) (by simp) (by simp) (λj f=>by simp[f]) ⟨ψ,λj o T s f C _ _ _ V t=>by
   obtain⟨k,ok,n,W,X⟩:=(gq V).1;obtain⟨e,p,q,rfl⟩:=cu.1 n;have:=D.back j o C e p q
   grind⟩ (λj oj f Y=>by
   have r:=(Z3.1 f).1;simp[r]at Y) G
 simpa using this
end
section
variable{P:Program}{w0 w w1:World}{M S0 S:af}{N:fo}{φ:Nat->af}{F:Nat->AV}{a:Act}{TE:Nat->Option TI}{ops:Array Oper}{ds:List Nat}{nm:Nat->Bool}
def T0(P:Program)(TE:Nat->Option TI)(ops:Array Oper)(p:Nat)(F:Nat->AV):Prop:=∃d,(dr ops p).dst=some d/\Lb F (dr ops p)=none/\di P TE F (dr ops p).op λa=>a=F d
def wm(P:Program)(TE:Nat->Option TI)(N:fo)(ops:Array Oper)(ds:List Nat)(listed:Array Bool)(i:Nat)(K:(Nat->AV)->Prop)(F:Nat->AV):Prop:=
 match ops[i]? with
 | none=>K F
 | some o=>if ro ds o=true then lS P TE N ops o K F else jt P TE N ops o (λa=>(∀p,listed.getD p false=true->ro ds (dr ops p)=true->xb ops i p=false->T0 P TE ops p a)/\K a) F
def HG(P:Program)(TE:Nat->Option TI)(N:fo)(ops:Array Oper)(ds:List Nat)(K:(Nat->AV)->Prop):Nat->Array Bool->(Nat->AV)->Prop
 | 0,listed,F=>Region.ready .any ops listed=[]/\K F
 | fuel+1,listed,F=>(Region.ready .any ops listed=[]->K F)/\∀i,i∈Region.ready .any ops listed->wm P TE N ops ds listed i (HG P TE N ops ds K fuel (listed.setIfInBounds i true)) F
variable{Q:Exit->Act->World->Prop}{K:(Nat->AV)->Prop}{i:Nat}{listed:Array Bool}
theorem Hn(c:∀t i,TE t=some i->im P t i)(b:wm P TE N ops ds listed i K F)(g:St w0 M S0 N F a w){Kc:Act->World->Prop}(d:∀F' e f,K F'->St w0 M S0 N F' e f->Kc e f):wpOp P ops Q i Kc a w:=by
 unfold wm at b;unfold wpOp;cases j:ops[i]? with
 | none=>grind
 | some o=>
  rw[j]at b;simp only at b |-;obtain⟨S,φ,h⟩:=g;have:if Region.wanted o (yielded ops a.tmps) then o.wp P a w Kc Q else Kc (a.put o.dst undef) w:=by
   split at b
   ·exact h.oneP c b d
   exact h.one c (ky b λF' h=>h.2) d
  grind
def sM(b:∀t i,TE t=some i->im P t i){K:(Nat->AV)->Prop}{Q:Exit->Act->World->Prop}(g:∀F' d e,K F'->St w0 M S0 N F' d e->Q .normal d e) :
  ∀(fuel:Nat)(listed:Array Bool)(F:Nat->AV)(a:Act)(w:World),HG P TE N ops ds K fuel listed F->St w0 M S0 N F a w->wpAny P .any ops Q fuel listed a w
 | 0,_,F,a,w,c,f=>⟨c.1,g F a w c.2 f⟩
 | fuel+1,_,F,a,w,c,f=>⟨λj=>g F a w (c.1 j) f,λi k=>Hn b (c.2 i k) f λF' d e l h=>sM b g fuel _ F' d e l h⟩
def bY(ts:List Nat)(F F1:Nat->AV):Prop:=∀t e,(F1 t).uses e=true->e∈ts\/∃a,(F a).uses e=true
theorem bY.refl(ts:List Nat)(F:Nat->AV):bY ts F F:=λt _ h=>.inr ⟨t,h⟩
variable{F1:Nat->AV}{ts:List Nat}
theorem bY.trans{F a:Nat->AV}(h1:bY ts F F1)(b:bY ts F1 a):bY ts F a:=λt e h=>by
 rcases b t e h with h|⟨c,h⟩
 ·exact .inl h
 exact h1 c e h
variable{d:Nat}
theorem bY.clean(h:bY ts F F1)(b:d∉ts)(c:∀t,(F t).uses d=false):∀t,(F1 t).uses d=false:=λt=>by
 cases a:(F1 t).uses d with
 | false=>rfl
 | true=>
  rcases h t d a with h|⟨e,h⟩
  all_goals grind
theorem bY.put{ts:List Nat}{dj:Nat}{av:AV}(h:∀e,av.uses e=true->e∈ts\/∃b,(F b).uses e=true):bY ts F (put F dj av):=λt e a=>by
 by_cases c:t=dj
 ·grind [qq]
 rw[iP _ _ c]at a;exact .inr ⟨t,(Rv a).1⟩
variable{v:AV}{t e:Nat}
theorem P8(h:(tO t v).uses e=true):v.uses e=true:=by
 cases v with
 | c2 a b d f=>simp only[tO]at h;cases c:Nat.beq a t<;>rw[c]at h<;>first|exact h|cases h
 | ref a b d=>cases d<;>simp only[tO]at h<;>first|exact h|(cases c:Nat.beq a t<;>rw[c]at h<;>first|exact h|cases h)
 | _=>exact h
theorem bY.updH{ts:List Nat}{t:Nat}{k:Kd}{cs:List C} : bY ts F (updH F t k cs):=λs e a=>by
 unfold Ab.updH at a;cases b:Nat.beq s t with
 | true=>rw[b]at a;cases a
 | false=>grind [P8]
theorem Pt(h:(Qn t v).uses e=true):v.uses e=true:=by
 cases v with
 | c2 a b d f=>simp only[Qn]at h;cases c:Nat.beq a t<;>rw[c]at h<;>first|exact h|cases h
 | ref a b d=>simp only[Qn]at h;cases c:Nat.beq a t<;>rw[c]at h<;>first|exact h|cases h
 | _=>exact h
theorem bY.kill{ts:List Nat}{t:Nat} : bY ts F (kill F t):=λs e a=>by
 unfold Ab.kill at a;cases b:Nat.beq s t with
 | true=>rw[b]at a;cases a
 | false=>grind [Pt]
variable{av:AV}
theorem cm(h:t≠d):eff none d av F t=F t:=by grind [eff]
theorem mL{a:Option Nat} : eff a d av F d=av:=by grind [eff]
theorem Pv : eff none d (F d) F=F:=by grind [mL,cm]
theorem mW(a:d∉ts)(b:∀t,(F t).uses d=false):ig (eff none d av F) F ts:=λt c=>by grind [cm]
variable{dj:Nat}
theorem Tg(a:dj≠d):put (eff none d v F) dj av=eff none d (kl dj v) (put F dj av):=by grind [qq,cm,iP,mL]
variable{b:Kd}
theorem oU{a:List C}(c:t≠d):updH (eff none d v F) t b a=eff none d (tO t v) (updH F t b a):=by grind [mL,Nat.beq_eq,cm,updH]
theorem yu{a:List C}(c:t≠d):updH F t b a d=tO t (F d):=by grind [Nat.beq_eq,updH]
theorem KO{a:List C}(c:t≠d):updN (eff none d v F) t b a=eff none d (Qo t v) (updN F t b a):=by grind [mL,Nat.beq_eq,cm,updN]
theorem FL{a:List C}(c:t≠d):updN F t b a d=Qo t (F d):=by grind [Nat.beq_eq,updN]
theorem Pp(h:(Qo t v).uses e=true):v.uses e=true:=by
 cases v with
 | c2 b c a f=>
  cases a with
  | nil=>exact h
  | cons s a=>simp only[Qo]at h;cases d:Nat.beq b t<;>rw[d]at h<;>first|exact h|cases h
 | ref b c a=>
  cases a with
  | nil=>exact h
  | cons s a=>simp only[Qo]at h;cases d:Nat.beq b t<;>rw[d]at h<;>first|exact h|cases h
 | _=>exact h
theorem bY.updN{ts:List Nat}{t:Nat}{k:Kd}{cs:List C} : bY ts F (updN F t k cs):=λs e a=>by
 unfold Ab.updN at a;cases b:Nat.beq s t with
 | true=>rw[b]at a;cases a
 | false=>grind [Pp]
def Fq(d:Nat)(ts:List Nat)(v:AV)(F:Nat->AV)(K:(Nat->AV)->Prop)(F1:Nat->AV):Prop:=∃a,(v=F d->a=F1 d)/\K (eff none d a F1)/\bY ts F F1
def Ux(d:Nat)(ts:List Nat)(v:AV)(F:Nat->AV)(K:(Nat->AV)->Option Nat->List C->Prop)(F1:Nat->AV)(ag:Option Nat)(cs:List C):Prop:=∃a,(v=F d->a=F1 d)/\K (eff none d a F1) ag cs/\bY ts F F1
def Fq.trans{v1:AV}{a:Nat->AV}(h1:v=F d->v1=F1 d)(b:bY ts F F1)(h:Fq d ts v1 F1 K a):Fq d ts v F K a:=by
 obtain⟨c,f,g,i⟩:=h;exact⟨c,λe=>f (h1 e),g,b.trans i⟩
theorem gX(h:bT N (eff none d v F) dj av K)(a:dj≠d)(b:∀e,av.uses e=true->e∈ts\/∃c,(F c).uses e=true):bT N F dj av (Fq d ts v F K):=by
 unfold bT at h |-;cases f:(N.free dj&&!av.uses dj) with
 | false=>grind
 | true=>
  rw[f]at h;simp only[cond_true]at h |-;rw[Tg a]at h;exact⟨kl dj v,λe=>by grind [iP],h,bY.put b⟩
variable{cs:List C}{k:Kd}
def jq : ∀e,(AV.G k cs).uses e=true->e∈ts\/∃a,(F a).uses e=true:=λe h=>by cases h
theorem E8{p:(Nat->AV)->(AV->Prop)->Prop}{ts0:List Nat}(h:pw p (eff none d v F) ts0 λav=>bT N (eff none d v F) dj av K)(a:dj≠d)(j:∀t,t∈ts0->t∈ts)(k:d∉ts)(b:∀t,(F t).uses d=false) :
  p F λav=>bT N F dj av (Fq d ts v F K):=by
 obtain⟨av,c,f,g⟩:=h;refine g F (mW ψ b) _ (gX c a λe i=>?_);rcases f e i with h|⟨t,l,h⟩
 all_goals grind [cm]
variable{y:Operand}
theorem qD{K:(Nat->AV)->Option Nat->List C->Prop}(h:gQ (eff none d v F) y K)(n:d∉tm y)(o:∀t,(F t).uses d=false):gQ F y (Ux d ts v F K):=by
 have fin:∀{t:Nat}{k:Kd}{b:List C}{a:Option Nat}{xs:List C},t≠d->K (updH (eff none d v F) t k b) a xs->Ux d ts v F K (updH F t k b) a xs:=fun {t k b a xs} c h=>by
  rw[oU c]at h;exact⟨_,λe=>by rw[yu c,e],h,bY.updH⟩
 have A7:∀{t:Nat}{k:Kd}{b:List C}{a:Option Nat}{xs:List C},t≠d->K (updN (eff none d v F) t k b) a xs->Ux d ts v F K (updN F t k b) a xs:=fun {t k b a xs} c h=>by
  rw[KO c]at h;exact⟨_,λe=>by rw[FL c,e],h,bY.updN⟩
 cases y with
 | tmp t=>
  have c:t≠d:=λe=>n (by simp[tm,e])
  simp only[gQ]at h |-;rw[cm c]at h;cases g:F t with
  | G p q=>
   grind
  | c2 i u l a=>
   rw[g]at h;have w:i≠d:=λe=>by have:=o t;rw[g,e]at this;simp[AV.uses]at this
   cases l with
   | cons s l=>
    simp only at h |-;rw[cm w]at h;cases f:F i with
    | G p q=>
     rw[f]at h;obtain⟨r,j,A,B,D,E⟩:=Lq.out h;exact .mk_ ψ
    | _=>grind
   | nil=>
    grind [cm]
  | _=>grind
 | _=>exact h.elim
theorem Q8{K:(Nat->AV)->Option Nat->List C->Prop}(h:wi (eff none d v F) y K)(b:d∉tm y)(c:∀t,(F t).uses d=false):wi F y (Ux d ts v F K):=by
 obtain⟨i,xs,a,f⟩:=cA h;refine f F (mW b c) _ ?_;cases g:bn xs with
 | true=>rw[g]at a;exact⟨v,λe=>e,a,bY.refl _ _⟩
 | false=>grind [qD]
def Vc(d:Nat)(ts:List Nat)(v:AV)(F:Nat->AV)(K:(Nat->AV)->List C->Prop)(F1:Nat->AV)(cs:List C):Prop:=∃a,(v=F d->a=F1 d)/\K (eff none d a F1) cs/\bY ts F F1
theorem xC{d:Nat}{ts:List Nat}{c:Nat->Option (Nat × Nat)}(a:d∉ts):∀{parts:List (Nat × Operand)}{cs:List C}{K:(Nat->AV)->List C->Prop}{F:Nat->AV}{v:AV},fillW c parts cs K (eff none d v F)->(∀p,p∈parts->d∉tm p.2)->(∀t,(F t).uses d=false)->
  fillW c parts cs (Vc d ts v F K) F
 | [],cs,K,F,v,h,_,b=>⟨v,λe=>e,h,bY.refl _ _⟩
 | p::rest,cs,K,F,v,h,r,b=>by
  simp only[fillW]at h |-;split at h
  case h_2=>exact h.elim
  rename_i q u;refine vp (Q8 (ts:=ts) h ψ b) λw y xs h=>?_
  obtain⟨A,g,h,f⟩:=h;cases i:(Nat.beq xs.length q.2&&Nat.ble (q.1+q.2) cs.length) with
  | false=>grind
  | true=>
   rw[i]at h;simp only[cond_true,dq]at h |-;refine jE (xC a h ψ (f.clean a b)) λB cs2 j=>?_
   obtain⟨k,l,n,o⟩:=j;exact⟨k,λe=>l (g e),n,f.trans o⟩
variable{parts:List (Nat × Operand)}{T:Nat}
theorem MG(h:lc TE N (eff none d v F) dj T parts K)(a:dj≠d)(b:d∉ts)(c:∀p,p∈parts->d∉tm p.2)(e:∀t,(F t).uses d=false) :
  lc TE N F dj T parts (Fq d ts v F K):=by
 unfold lc at h |-;split at h
 case h_2=>exact h.elim
 rename_i size bytes zero flds k;cases f:Eu TE flds with
 | false=>grind
 | true=>
  rw[f]at h;refine jE (xC b h c e) λl n h=>?_
  obtain⟨o,g,h,i⟩:=h;exact b6 (gX (ts:=ts) h a jq) λq j=>Fq.trans g i j
variable{n:Nat}
theorem HQ(h:gl TE N (eff none d v F) dj T n parts K)(a:dj≠d)(c:d∉ts)(f:∀p,p∈parts->d∉tm p.2)(g:∀t,(F t).uses d=false) :
  gl TE N F dj T n parts (Fq d ts v F K):=by
 unfold gl at h |-;obtain⟨e,i,h,b⟩:=iA h;refine b _ ?_;cases j:Nat.ble (n*i.size) 16777216 with
 | false=>grind
 | true=>
  rw[j]at h;simp only[cond_true]at h |-;cases n with
  | zero=>
   cases parts with
   | nil=>exact gX h a jq
   | cons=>exact h.elim
  | succ n=>
   simp only[dq]at h |-;refine jE (xC c h f g) λq r h=>?_
   obtain⟨u,k,h,l⟩:=h;rw[pB]at h |-;exact b6 (gX (ts:=ts) h a jq) λw o=>Fq.trans k l o
theorem N9(h:jd N (eff none d v F) dj (.tmp t) K)(a:dj≠d)(c:d∉ts)(l:t∈ts)(g:∀t,(F t).uses d=false):jd N F dj (.tmp t) (Fq d ts v F K):=by
 have b:t≠d:=ψ
 have std:bH (eff none d v F) (.tmp t) (λf=>bT N (eff none d v F) dj f K)->bH F (.tmp t) (λf=>bT N F dj f (Fq d ts v F K)):=λh=>
  E8 (p:=λF K=>bH F (.tmp t) K) (kD h) a (λn o=>by grind [tm]) c g
 simp only[jd]at h |-;rw[cm b]at h;split at h
 ·rename_i i xs q
  cases j:bn xs with
  | true=>grind [gX]
  | false=>
   rw[j]at h;simp only[cond_false]at h |-;rw[oU b]at h;exact b6 (gX (ts:=ts) h a jq) λr k=>Fq.trans (F1:=updH F t (.tup i) _) (λe=>by grind [yu]) bY.updH k
 all_goals exact std h
variable{x:Operand}
theorem Tq{b:Operand}(h:GE TE N (eff none d v F) dj T x b K)(c:dj≠d)(f:d∉tm x)(g:d∉tm b)(j:∀t,(F t).uses d=false):GE TE N F dj T x b (Fq d ts v F K):=by
 unfold GE at h |-;obtain⟨e,A,h,a⟩:=iA h;refine a _ ?_;obtain⟨n,k,i⟩:=og h;refine i F (mW g j) _ ?_;refine fp (qD (ts:=ts) k f j) λB C D h=>?_
 obtain⟨E,l,h,o⟩:=h;split at h
 case h_2=>exact h.elim
 obtain⟨m,y,p,q,r,u,w,h⟩:=h.out;exact .mk_ ⟨m,y,p,q,r,u,w,_,rfl,b6 (gX (ts:=ts) h c jq) λG i=>Fq.trans l o i⟩
theorem LR(h:lz N (eff none d v F) dj x K)(a:dj≠d)(j:d∉ts)(k:∀t,t∈tm x->t∈ts)(o:∀t,(F t).uses d=false):lz N F dj x (Fq d ts v F K):=by
 have l:∀y,(∀t,t∈tm y->t∈ts)->bH (eff none d v F) y (λn=>bT N (eff none d v F) dj n K)->bH F y (λn=>bT N F dj n (Fq d ts v F K)):=λy q h=>E8 (p:=λF K=>bH F y K) (kD h) a q j o
 have A:∀y,(∀t,t∈tm y->t∈ts)->gQ (eff none d v F) y (λb e i=>bT N b dj (.G (ml e) i) K)->gQ F y (λb e i=>bT N b dj (.G (ml e) i) (Fq d ts v F K)):=λy q h=>
  fp (qD (ts:=ts) h ψ o) λb e i h=>by
   obtain⟨B,r,h,u⟩:=h;exact b6 (gX (ts:=ts) h a jq) λC w=>Fq.trans r u w
 cases x with
 | tmp t=>
  grind [cm,tm,lz]
 | const c=>exact l (.const c) k h
 | global g=>exact l (.global g) k h
 | func f=>exact l (.func f) k h
theorem Ey(a:t≠d):kill (eff none d v F) t=eff none d (Qn t v) (kill F t):=by grind [mL,lQ,cm,qP]
theorem T6(h:Et N (eff none d v F) dj x K)(a:dj≠d)(c:d∉ts)(j:∀t,t∈tm x->t∈ts)(l:∀t,(F t).uses d=false):Et N F dj x (Fq d ts v F K):=by
 have f:G2 N (eff none d v F) dj x=G2 N F dj x:=by
  cases x with
  | tmp t=>
   grind [cm,tm,G2]
  | _=>rfl
 unfold Et at h |-;cases b:NI N dj x with
 | true=>
  rw[b]at h;simp only[cond_true]at h |-;exact gX (ts:=ts) h a jq
 | false=>
 rw[b]at h;simp only[cond_false]at h |-;unfold Kn at h |-;rw[f]at h;cases i:G2 N F dj x with
 | none=>grind [LR]
 | some p=>
  rw[i]at h;simp only at h |-;obtain⟨rfl,n⟩:=BH i;have g:p.1≠d:=λe=>c (e ▸ j p.1 (by simp[tm]))
  rw[Ey g]at h;exact b6 (gX (ts:=ts) h a jq) λo k=>Fq.trans (F1:=kill F p.1) (λe=>by grind [lQ]) bY.kill k
theorem Ko(h:rO (eff none d v F) x cs K)(l:d∉tm x)(n:∀t,(F t).uses d=false):rO F x cs (Fq d ts v F K):=by
 have fin:∀{t:Nat}{k:Kd}{cs:List C},t≠d->K (updH (eff none d v F) t k cs)->Fq d ts v F K (updH F t k cs):=fun {t k cs} a h=>by
  rw[oU a]at h;exact⟨_,λe=>by rw[yu a,e],h,bY.updH⟩
 have A7:∀{t:Nat}{k:Kd}{cs:List C},t≠d->K (updN (eff none d v F) t k cs)->Fq d ts v F K (updN F t k cs):=fun {t k cs} a h=>by
  rw[KO a]at h;exact⟨_,λe=>by rw[FL a,e],h,bY.updN⟩
 have finP:∀{t:Nat}{k:Kd}{cs:List C},t≠d->K (QE (eff none d v F) t k cs)->Fq d ts v F K (QE F t k cs):=fun {t k cs} a h=>by
  cases k with
  | box=>exact fin a h
  | _=>exact A7 a h
 cases x with
 | tmp t=>
  have a:t≠d:=λe=>l (by simp[tm,e])
  simp only[rO]at h |-;rw[cm a]at h;cases c:F t with
  | G k o=>
   grind [dq]
  | ref f p g=>
   rw[c]at h;have i:f≠d:=λe=>by have:=n t;rw[c,e]at this;simp[AV.uses]at this
   cases g with
   | cons s g=>
    simp only at h |-;rw[cm i]at h;cases b:F f with
    | G k o=>
     rw[b]at h;obtain⟨r,j,q,u,w,y⟩:=Pu.out h;exact Pu.mk q u w rfl (finP i y)
    | _=>grind
   | nil=>
    grind [cm,dq]
  | _=>grind
 | _=>exact h.elim
theorem NU(h:mJ TE (eff none d v F) T x y K)(b:d∉ts)(n:d∉tm x)(j:d∉tm y)(c:∀t,(F t).uses d=false):mJ TE F T x y (Fq d ts v F K):=by
 unfold mJ at h |-;split at h
 ·rename_i i r
  obtain⟨u,k,a,e⟩:=cA h;refine e F (mW j c) _ ?_;cases o:Nat.beq k.length i.size with
  | false=>grind
  | true=>
   rw[o]at a;simp only[cond_true]at a |-;cases p:bn k with
   | true=>grind [Ko]
   | false=>
    rw[p]at a;simp only[cond_false]at a |-;refine fp (qD (ts:=ts) a j c) λw q f h=>?_
    obtain⟨A,a,h,l⟩:=h;cases g:Nat.beq f.length i.size with
    | false=>grind
    | true=>rw[g]at h;exact BL (Ko (ts:=ts) h n (l.clean b c)) λB e=>Fq.trans a l e
 exact h.elim
def Tk(a:d∉tm y):nG (eff none d v F) y=nG F y:=by
 cases y with
 | tmp t=>exact cm λe=>a (by simp[tm,e])
 | _=>rfl
theorem T3{K:Bool->(Nat->AV)->List (List C)->Prop}(h:DY (eff none d v F) y K)(b:d∉tm y)(c:∀t,(F t).uses d=false):DY F y λe F1 rows=>∃v1,(v=F d->v1=F1 d)/\K e (eff none d v1 F1) rows/\bY ts F F1:=by
 have a:=Tk (F:=F) (v:=v) b;unfold DY at h |-;rw[a]at h;split at h
 ·refine fp (qD (ts:=ts) h b c) λF1 f g h=>?_
  obtain⟨v1,i,h,j⟩:=h
  grind
 grind [cA,mW,bY.refl]
theorem QF{K:(Nat->AV)->List (List C)->Prop}(h:D3 (eff none d v F) y K)(b:d∉tm y)(c:∀t,(F t).uses d=false):D3 F y λF1 rows=>∃v1,(v=F d->v1=F1 d)/\K (eff none d v1 F1) rows/\bY ts F F1:=by
 obtain⟨e,xs,a,f⟩:=cA h;refine f F (mW b c) _ ?_;split at a
 ·grind [bY.refl]
 ·refine fp (qD (ts:=ts) a b c) λF1 e g h=>?_
  obtain⟨v1,a,h,i⟩:=h
  grind
 exact a.elim
theorem Rc(h:D1 TE N (eff none d v F) dj T x y K)(b:dj≠d)(c:d∉ts)(j:d∉tm x)(k:d∉tm y)(f:∀t,(F t).uses d=false):D1 TE N F dj T x y (Fq d ts v F K):=by
 obtain⟨e,B,h,a⟩:=iA h;refine a _ (H5 (T3 (ts:=ts) h k f) λC D E h=>?_);obtain⟨G,l,h,g⟩:=h;refine B9 (QF (ts:=ts) h j (g.clean c f)) λH i h=>?_
 obtain⟨J,n,h,o⟩:=h;obtain⟨p,q,r,u,w,h⟩:=Ap.out h;refine CT p q r u w rfl (b6 (gX (ts:=ts) h b jq) λL A=>?_);exact Fq.trans l g (Fq.trans n o A)
theorem NV{f:Oper}(B:f.guard=none)(g:RK f.op=true)(k:f.dst≠some d)(u:d∉f.looksAt ops)(w:∀t,(F t).uses d=false)(h:jt P TE N ops f K (eff none d v F)) :
  jt P TE N ops f (Fq d (f.looksAt ops) v F K) F:=by
 unfold jt fL at h |-;rw[B]at h |-;simp only at h |-;have j:∀t,t∈dz f.op->t∈f.looksAt ops:=λt l=>iE f t l
 have pur:∀b,b≠d->di P TE (eff none d v F) f.op (λq=>bT N (eff none d v F) b q K)->di P TE F f.op λq=>bT N F b q (Fq d (f.looksAt ops) v F K):=λb k h=>
  E8 (p:=λF K=>di P TE F f.op K) (kv h) k j u w
 have dne:∀b,f.dst=some b->b≠d:=ψ
 have tmI:∀x,x∈f.op.operands.toList->∀t,t∈tm x->t∈f.looksAt ops:=λx C t l=>j t (List.mem_flatMap.2 ⟨x,C,l⟩)
 cases e:f.op with
 | store T x y=>
  rw[e]at h tmI;simp only[Do]at h |-;cases a:f.dst with
  | some b=>rw[a]at h;simp only[kT]at h;exact h.elim
  | none=>
   grind [NU,Go.Op.operands]
 | move x=>
  rw[e]at h tmI;cases a:f.dst with
  | none=>rw[a]at h;exact h.elim
  | some b=>
   rw[a]at h;cases x with
   | tmp t=>
    simp only[Do,kT]at h |-;exact N9 h (dne b a) u (tmI (.tmp t) (by simp[Op.operands]) t (by simp[tm])) w
   | _=>rw[e]at g;cases g
 | assign x=>
  rw[e]at h tmI
  grind [T6,Do,kT,Go.Op.operands]
 | build T D=>
  rw[e]at h tmI
  grind [MG,Do,kT,Go.Op.operands]
 | buildSlice T n D=>
  rw[e]at h tmI
  grind [HQ,Do,kT,Go.Op.operands]
 | extract x i=>rw[e]at h pur;cases a:f.dst with|none=>rw[a]at h;exact h.elim|some b=>rw[a]at h;exact pur b (dne b a) h
 | load T x=>rw[e]at h pur;cases a:f.dst with|none=>rw[a]at h;exact h.elim|some b=>rw[a]at h;exact pur b (dne b a) h
 | fieldAddr T x i=>rw[e]at h pur;cases a:f.dst with|none=>rw[a]at h;exact h.elim|some b=>rw[a]at h;exact pur b (dne b a) h
 | field T x i=>rw[e]at h pur;cases a:f.dst with|none=>rw[a]at h;exact h.elim|some b=>rw[a]at h;exact pur b (dne b a) h
 | binOp o T x y L=>rw[e]at h pur;cases a:f.dst with|none=>rw[a]at h;exact h.elim|some b=>rw[a]at h;exact pur b (dne b a) h
 | unOp o T x=>rw[e]at h pur;cases a:f.dst with|none=>rw[a]at h;exact h.elim|some b=>rw[a]at h;exact pur b (dne b a) h
 | call c=>
  rw[e]at g h tmI;cases E:rv c with
  | none=>grind [RK]
  | some p=>
   have r:=zM E;subst r;cases a:f.dst with
   | none=>rw[a]at h;exact h.elim
   | some b=>
    grind [Rc,Do,kT,Go.Op.operands,Go.Call.operands]
 | slice T x G A H=>
  rw[e]at g h tmI pur;cases G with
  | some _=>cases g
  | none=>
   cases A with
   | none=>cases g
   | some A=>
    cases H with
    | some _=>cases g
    | none=>
     cases a:f.dst with
     | none=>rw[a]at h;exact h.elim
     | some b=>
      rw[a]at h;simp only[Do,kT]at h |-;cases J:UB N b with
      | false=>simp_all
      | true=>
       grind [Tq,Go.Op.operands]
 | _=>rw[e]at g;cases g
theorem RU{a:Oper}(c:a.guard=none)(f:RK a.op=true)(b:a.dst≠some d)(g:d∉a.looksAt ops)(i:∀t,(F t).uses d=false)(h:jt P TE N ops a K F) :
  jt P TE N ops a (λF1=>K F1/\bY (a.looksAt ops) F F1) F:=by
 refine ky (NV (d:=d) (v:=F d) c f b g i (by rw[Pv];exact h)) λF1 j=>?_
 obtain⟨k,e,l,u⟩:=j
 grind [Pv]
theorem bY.setH{ts:List Nat}{t:Nat}{k:Kd}{cs:List C} : bY ts F (setH F t (.G k cs)):=λs e a=>by
 unfold Ab.setH at a;cases b:Nat.beq s t with
 | true=>rw[b]at a;cases a
 | false=>grind
variable{rcs:List C}
theorem K4(h:bT N F d (.G k rcs) K):bT N F d (.G k rcs) λF1=>K F1/\bY ts F F1:=by
 unfold bT at h |-;cases a:(N.free d&&!(AV.G k rcs).uses d) with
 | false=>grind
 | true=>rw[a]at h;exact⟨h,bY.put λe b=>by cases b⟩
theorem vt{off:Nat}{st:cG}{K:(Nat->AV)->List C->Prop}(h:lendAt F t off st n K):lendAt F t off st n λF1 cs=>K F1 cs/\bY ts F F1:=by
 unfold lendAt at h |-;split at h
 all_goals grind [dq,bY.updH]
def mb{ts:List Nat} : ∀{xs:List (Operand × Nat)}{K:(Nat->AV)->List (MA × sr)->Prop}{F:Nat->AV},lendP xs K F->lendP xs (λF1 l=>K F1 l/\bY ts F F1) F
 | [],K,F,h=>⟨h,bY.refl _ _⟩
 | (x,0)::xs,K,F,h=>mb (xs:=xs) h
 | (x,1)::xs,K,F,h=>by
  simp only[lendP]at h |-;split at h
  case h_2=>exact h.elim
  split at h
  ·exact fB (vt (ts:=ts) h) λF1 c h=>cv (mb (ts:=ts) h.1) λb l a=>⟨a.1,h.2.trans a.2⟩
  ·exact fB (vt (ts:=ts) h) λF1 c h=>cv (mb (ts:=ts) h.1) λb l a=>⟨a.1,h.2.trans a.2⟩
  ·exact fB (vt (ts:=ts) h) λF1 c h=>cv (mb (ts:=ts) h.1) λb l a=>⟨a.1,h.2.trans a.2⟩
  exact h.elim
 | (x,n+2)::xs,K,F,h=>by
  simp only[lendP]at h |-;split at h
  case h_2=>exact h.elim
  split at h
  ·split at h
   ·exact cv (mb (ts:=ts) h) λb l a=>⟨a.1,bY.kill.trans a.2⟩
   exact h.elim
  ·exact cv (mb (ts:=ts) h) λb l a=>⟨a.1,bY.kill.trans a.2⟩
  exact h.elim
theorem lN{ts:List Nat}{K:(Nat->AV)->Prop} : ∀{l:List (MA × sr)}{B:List MA}{F:Nat->AV},ia l B K F->ia l B (λF1=>K F1/\bY ts F F1) F
 | [],[],F,h=>⟨h,bY.refl _ _⟩
 | [],_::_,F,h=>h.elim
 | (m,.no)::l,[],F,h=>h.elim
 | (m,.at_ t off st)::l,[],F,h=>h.elim
 | (m,.box t)::l,[],F,h=>h.elim
 | (m,.no)::l,.val _ _::B,F,h=>lN (l:=l) (B:=B) h
 | (m,.no)::l,.mut _ _::B,F,h=>lN (l:=l) (B:=B) h
 | (m,.no)::l,.ptr _::B,F,h=>lN (l:=l) (B:=B) h
 | (m,.at_ t off st)::l,.val _ _::B,F,h=>h.elim
 | (m,.at_ t off st)::l,.ptr _::B,F,h=>h.elim
 | (m,.box t)::l,.val _ _::B,F,h=>h.elim
 | (m,.box t)::l,.mut _ _::B,F,h=>h.elim
 | (m,.at_ t off st)::l,.mut ag out::B,F,h=>by
  simp only[ia]at h |-;split at h
  case h_2=>exact h.elim
  split at h
  ·rename_i k c _ _
   cases d:Nat.ble (off+out.length) c.length with
   | false=>grind
   | true=>
    rw[d]at h;simp only[cond_true,dq]at h |-;exact dv (λb a=>⟨a.1,bY.updH.trans a.2⟩) (lN (ts:=ts) h)
  obtain⟨r,j,e,f,g,i⟩:=Pu.out h;exact Pu.mk e f g rfl (dv (λb a=>⟨a.1,bY.updH.trans a.2⟩) (lN (ts:=ts) i))
 | (m,.box t)::l,.ptr out::B,F,h=>by
  simp only[ia]at h |-;split at h
  ·exact dv (λb a=>⟨a.1,bY.setH.trans a.2⟩) (lN (ts:=ts) h)
  exact h.elim
variable{modes:List Nat}{args:List Operand}{f:Nat}
theorem Nu{d:Option Nat}(h:lZ P N F d f args modes K):lZ P N F d f args modes λF1=>K F1/\bY ts F F1:=by
 unfold lZ at h |-;refine cv (mb (ts:=ts) h) λn l h=>?_
 obtain⟨h,c⟩:=h;cases e:(wu l&&Nat.beq args.length modes.length) with
 | false=>grind
 | true=>
  rw[e]at h;refine jG h λb A h=>?_
  obtain⟨o,B,k,rcs,g,a,i⟩:=cw.out h;refine CI g a (dv (λF'' h=>?_) (lN (ts:=ts) i));obtain⟨h,j⟩:=h;cases d with
  | none=>grind [bY.trans]
  | some d=>exact b6 (K4 (ts:=ts) h) λp a=>⟨a.1,(c.trans j).trans a.2⟩
theorem QK{d:Option Nat}{c a b:Nat}{B:List MA}(h:yv N F d t cs c a e b K k rcs B):yv N F d t cs c a e b (λF1=>K F1/\bY ts F F1) k rcs B:=by
 unfold yv at h |-;split at h
 case h_2=>exact h.elim
 rename_i g i;cases j:(Nat.beq g.length a&&Nat.beq i.length b) with
 | false=>grind
 | true=>
  rw[j]at h;simp only[cond_true,dq]at h |-;cases d with
  | none=>exact⟨h,bY.kill.trans bY.setH⟩
  | some d=>exact b6 (K4 (ts:=ts) h) λl f=>⟨f.1,(bY.kill.trans bY.setH).trans f.2⟩
theorem NL{d:Option Nat}{a b:Nat}(h:kN P N F d f args a b K):kN P N F d f args a b λF1=>K F1/\bY ts F F1:=by
 unfold kN at h |-;split at h
 case h_2=>exact h.elim
 refine lG h λt e h=>lG h λg c h=>?_
 split at h
 case h_2=>exact h.elim
 rename_i i p;cases j:(Nat.beq g t&&Nat.ble (e+a) c&&Nat.ble (c+b) i.length) with
 | false=>grind
 | true=>
  rw[j]at h;simp only[cond_true,dq]at h |-;obtain⟨q,B,k,rcs,l,n,o⟩:=cw.out h;exact CI l n (QK o)
def N2{d:Option Nat}(h:kQ P N F d f args modes K):kQ P N F d f args modes λF1=>K F1/\bY ts F F1:=by
 unfold kQ at h |-;split
 ·rename_i p a;rw[a]at h;exact NL h
 rename_i a;rw[a]at h;exact Nu h
variable{s:Nat}
theorem Tx{dj:Option Nat}{a:Nat->AV}(u:bY ts F a):bY ts F (rv1 F dj s a):=by
 unfold rv1;split
 case h_2=>exact u
 rename_i t c f;cases g:(dne dj s&&dne dj t) with
 | false=>exact u
 | true=>
  simp only[cond_true];split
  case h_2=>exact u
  split
  case h_2=>exact u
  intro q e b;by_cases d:q=s
  ·grind [qB]
  rw[fD _ _ d]at b;exact u q e b
theorem JD{ts:List Nat}{dj:Option Nat} : ∀{l:List Nat}{a:Nat->AV},bY ts F a->bY ts F (rvE F dj l a)
 | [],_,u=>u
 | _::l,_,u=>JD (l:=l) (Tx u)
theorem Rg{a:Oper}(k:a.guard=none)(i:qd a.op=true)(h:jt P TE N ops a K F):jt P TE N ops a (λF1=>K F1/\bY (a.looksAt ops) F F1) F:=by
 have pur:∀d,a.dst=some d->di P TE F a.op (λg=>bT N F d g K)->di P TE F a.op λg=>bT N F d g λF1=>K F1/\bY (a.looksAt ops) F F1:=λd l h=>by
  have n:gK P TE N ops a K F:=by grind [gK,fL]
  obtain⟨y,g,j,o⟩:=zq n;have b:=j.dst;rw[l]at b;simp only[C1]at b;subst b;have A:=j.at_ F (Cc _ _) (λF1=>K F1/\bY (a.looksAt ops) F F1) ⟨o,bY.put λe q=>(j.from_ e q).imp id ψ⟩
  grind [gK,fL]
 unfold jt fL at h |-;rw[k]at h |-;simp only at h |-;cases f:a.op with
 | call c=>
  rw[f]at h i;have r:rv c=none:=by grind [qd,rv]
  have pl:kP P TE N a K F->kP P TE N a (λF1=>K F1/\bY (a.looksAt ops) F F1) F:=λh=>by grind [kP,kT]
  cases t:Do N F (.call c) with
  | some p=>
   rw[t]at h;simp only at h |-;have lt:um P N F a.dst p.1 p.2.1 p.2.2 K->um P N F a.dst p.1 p.2.1 p.2.2 λF1=>K F1/\bY (a.looksAt ops) F F1:=λh=>rU (N2 (ts:=a.looksAt ops) h) λF1 ⟨h,u⟩=>by grind [ov,JD]
   cases w:PA N (.call c) with
   | false=>grind
   | true=>
    rw[w]at h;rcases h with h|h
    ·exact .pl (pl h)
    exact .lt (lt h)
  | none=>
   grind [kP]
 | _=>rw[f]at i;cases i
theorem R6{a:Oper}(c:a.guard=none)(e:(RK a.op || qd a.op)=true)(b:a.dst≠some d)(f:d∉a.looksAt ops)(g:∀t,(F t).uses d=false)(h:jt P TE N ops a K F) :
  jt P TE N ops a (λF1=>K F1/\bY (a.looksAt ops) F F1) F:=by grind [RU,Rg]
def Gq(d:Nat)(ts:List Nat)(F:Nat->AV)(K:(Nat->AV)->Prop)(F1:Nat->AV):Prop:=∃a,K (eff none d a F1)/\bY ts F F1
def Gq.trans{a:Nat->AV}(b:bY ts F F1)(h:Gq d ts F1 K a):Gq d ts F K a:=by
 obtain⟨c,e,f⟩:=h;exact⟨c,e,b.trans f⟩
theorem DS(a:t≠d):setH (eff none d v F) t av=eff none d v (setH F t av):=by grind [mL,fD,cm,setH]
theorem vg{off:Nat}{st:cG}{K:(Nat->AV)->List C->Prop}(h:lendAt (eff none d v F) t off st n K)(a:t≠d):lendAt F t off st n λF1 cs=>∃v1,K (eff none d v1 F1) cs/\bY ts F F1:=by
 unfold lendAt at h |-;rw[cm a]at h;split at h
 case h_2=>exact h.elim
 split at h
 ·grind [dq,oU,bY.updH]
 obtain⟨r,j,b,c,e,f⟩:=Lq.out h;refine .mk_ ?_
 grind [oU,bY.updH]
theorem nC{ts:List Nat}{d:Nat}(a:d∉ts):∀{xs:List (Operand × Nat)}{K:(Nat->AV)->List (MA × sr)->Prop}{F:Nat->AV}{v:AV},lendP xs K (eff none d v F)->(∀x,x∈xs->d∉tm x.1)->(∀t,(F t).uses d=false)->
  lendP xs (λF1 l=>(∃v1,K (eff none d v1 F1) l/\bY ts F F1)/\∀q,q∈l->d∉q.2.slot) F
 | [],K,F,v,h,_,_=>⟨⟨v,h,bY.refl _ _⟩,ψ⟩
 | (x,0)::xs,K,F,v,h,w,c=>by
  simp only[lendP]at h |-;refine cv (nC a h ψ c) λF1 l h=>⟨h.1,λq b=>?_⟩
  rcases List.mem_cons.1 b with rfl|b
  ·exact λu=>by cases u
  exact h.2 q b
 | (x,1)::xs,K,F,v,h,w,c=>by
  simp only[lendP]at h |-;split at h
  case h_2=>exact h.elim
  rename_i s;have j:s≠d:=λe=>w _ I2 (by simp[tm,e])
  rw[cm j]at h;have y:∀{t:Nat}{F1:Nat->AV}{l:List (MA × sr)}{m:MA}{f:Nat}{A:cG}{K2:(Nat->AV)->List (MA × sr)->Prop},t≠d->((∃v1,K2 (eff none d v1 F1) ((m,.at_ t f A)::l)/\bY ts F F1)/\∀q,q∈l->d∉q.2.slot)->(∃v1,K2 (eff none d v1 F1) ((m,.at_ t f A)::l)/\bY ts F F1)/\∀q,q∈(m,sr.at_ t f A)::l->d∉q.2.slot:=λg h=>⟨h.1,λq b=>by
    rcases List.mem_cons.1 b with rfl|b
    · exact λu=>g (V1.1 u).symm
    exact h.2 q b⟩
  split at h
  ·exact fB (vg (ts:=ts) h j) λF1 k h=>by
    obtain⟨v1,h,i⟩:=h;exact cv (nC a h ψ (i.clean a c)) λB l h=>by
     obtain⟨⟨o,h,p⟩,r⟩:=h;exact y (K2:=K) j ⟨⟨o,h,i.trans p⟩,r⟩
  ·exact fB (vg (ts:=ts) h j) λF1 k h=>by
    obtain⟨v1,h,i⟩:=h;exact cv (nC a h ψ (i.clean a c)) λB l h=>by
     obtain⟨⟨o,h,p⟩,r⟩:=h;exact y (K2:=K) j ⟨⟨o,h,i.trans p⟩,r⟩
  ·rename_i t f A G D
   have g:t≠d:=λe=>by have:=c s;rw[D,e]at this;simp[AV.uses]at this
   exact fB (vg (ts:=ts) h g) λF1 k h=>by
    obtain⟨v1,h,i⟩:=h;exact cv (nC a h ψ (i.clean a c)) λB l h=>by
     obtain⟨⟨o,h,p⟩,r⟩:=h;exact y (K2:=K) g ⟨⟨o,h,i.trans p⟩,r⟩
  exact h.elim
 | (x,n+2)::xs,K,F,v,h,w,c=>by
  simp only[lendP]at h |-;split at h
  case h_2=>exact h.elim
  rename_i s;have j:s≠d:=λe=>w _ I2 (by simp[tm,e])
  rw[cm j]at h;have y:∀{t:Nat}{k:List C},t≠d->lendP xs (λE l=>K E ((.ptr k,.box t)::l)) (kill (eff none d v F) t)->lendP xs (λF1 l=>(∃v1,K (eff none d v1 F1) ((.ptr k,.box t)::l)/\bY ts F F1)/\∀q,q∈(MA.ptr k,sr.box t)::l->d∉q.2.slot) (kill F t):=fun {t k} g h=>by
   rw[Ey g]at h;refine cv (nC a h ψ ((bY.kill (ts:=ts)).clean a c)) λB l h=>?_
   obtain⟨⟨o,h,p⟩,r⟩:=h;refine⟨⟨o,h,bY.kill.trans p⟩,λq b=>?_⟩;rcases List.mem_cons.1 b with rfl|b
   ·exact λu=>g (V1.1 u).symm
   exact r q b
  split at h
  ·rename_i t D
   have g:t≠d:=λe=>by have:=c s;rw[D,e]at this;simp[AV.uses]at this
   rw[cm g]at h;split at h
   all_goals simp_all
  all_goals simp_all
theorem tJ{d:Nat}{v:AV}(a:∀t,(F t).uses d=false):∀{l:List (MA × sr)}{xs:List Operand}{K:Bool->List MA->Prop},valsP (eff none d v F) l xs K->(∀x,x∈xs->d∉tm x)->valsP F l xs K
 | [],[],K,h,_=>h
 | (m,.no)::l,x::xs,K,h,b=>by
  obtain⟨f,g,c,e⟩:=cA h;exact e F (mW ψ a) _ (tJ a c ψ)
 | (m,.at_ t off st)::l,x::xs,K,h,b=>tJ (l:=l) (xs:=xs) a h ψ
 | (m,.box t)::l,x::xs,K,h,b=>tJ (l:=l) (xs:=xs) a h ψ
 | [],_::_,K,h,_=>h.elim
 | (m,.no)::l,[],K,h,_=>h.elim
 | (m,.at_ t off st)::l,[],K,h,_=>h.elim
 | (m,.box t)::l,[],K,h,_=>h.elim
theorem me{ts:List Nat}{d:Nat}{K:(Nat->AV)->Prop} : ∀{l:List (MA × sr)}{B:List MA}{F:Nat->AV}{v:AV},ia l B K (eff none d v F)->(∀q,q∈l->d∉q.2.slot)->ia l B (Gq d ts F K) F
 | [],[],F,v,h,_=>⟨v,h,bY.refl _ _⟩
 | [],_::_,F,v,h,_=>h.elim
 | (m,.no)::l,[],F,v,h,_=>h.elim
 | (m,.at_ t off st)::l,[],F,v,h,_=>h.elim
 | (m,.box t)::l,[],F,v,h,_=>h.elim
 | (m,.no)::l,.val _ _::B,F,v,h,b=>me (l:=l) (B:=B) h ψ
 | (m,.no)::l,.mut _ _::B,F,v,h,b=>me (l:=l) (B:=B) h ψ
 | (m,.no)::l,.ptr _::B,F,v,h,b=>me (l:=l) (B:=B) h ψ
 | (m,.at_ t off st)::l,.val _ _::B,F,v,h,_=>h.elim
 | (m,.at_ t off st)::l,.ptr _::B,F,v,h,_=>h.elim
 | (m,.box t)::l,.val _ _::B,F,v,h,_=>h.elim
 | (m,.box t)::l,.mut _ _::B,F,v,h,_=>h.elim
 | (m,.at_ t off st)::l,.mut ag out::B,F,v,h,b=>by
  have c:t≠d:=λe=>b _ I2 (by simp[sr.slot,e])
  have a:∀q,q∈l->d∉q.2.slot:=ψ
  simp only[ia]at h |-;rw[cm c]at h;split at h
  case h_2=>exact h.elim
  split at h
  ·rename_i k n _ _
   cases o:Nat.ble (off+out.length) n.length with
   | false=>grind
   | true=>
    rw[o]at h;simp only[cond_true,dq]at h |-;rw[oU c]at h;exact dv (λg f=>Gq.trans bY.updH f) (me (ts:=ts) h a)
  obtain⟨r,j,p,u,w,i⟩:=Pu.out h;rw[oU c]at i;exact Pu.mk p u w rfl (dv (λg f=>Gq.trans bY.updH f) (me (ts:=ts) i a))
 | (m,.box t)::l,.ptr out::B,F,v,h,b=>by
  have c:t≠d:=λe=>b _ I2 (by simp[sr.slot,e])
  have a:∀q,q∈l->d∉q.2.slot:=ψ
  simp only[ia]at h |-;rw[cm c]at h;split at h
  ·rw[DS c]at h
   exact dv (λg f=>Gq.trans bY.setH f) (me (ts:=ts) h a)
  exact h.elim
theorem NS{dj:Option Nat}(h:lZ P N (eff none d v F) dj f args modes K)(n:dj≠some d)(a:d∉ts)(g:∀x,x∈args->d∉tm x)(i:∀t,(F t).uses d=false) :
  lZ P N F dj f args modes (Gq d ts F K):=by
 unfold lZ at h |-;refine cv (nC a h (λx o=>g _ (List.of_mem_zip o).1) i) λE l h=>?_
 obtain⟨⟨G,h,c⟩,p⟩:=h;cases q:(wu l&&Nat.beq args.length modes.length) with
 | false=>grind
 | true=>
  rw[q]at h;refine jG (tJ (c.clean a i) h g) λb A h=>?_
  obtain⟨H,B,k,rcs,r,e,u⟩:=cw.out h;refine CI r e (dv (λF'' h=>?_) (me (ts:=ts) u p));obtain⟨w,h,j⟩:=h;cases dj with
  | none=>exact⟨w,h,c.trans j⟩
  | some dj=>
   refine b6 (gX (ts:=ts) h ψ jq) λJ e=>?_
   obtain⟨y,-,C,D⟩:=e;exact⟨y,C,(c.trans j).trans D⟩
theorem Qx{dj:Option Nat}{c a b:Nat}{B:List MA}(f:t≠d)(g:dj≠some d)(h:yv N (eff none d v F) dj t cs c a e b K k rcs B):yv N F dj t cs c a e b (Gq d ts F K) k rcs B:=by
 unfold yv at h |-;split at h
 case h_2=>exact h.elim
 rename_i i j;cases l:(Nat.beq i.length a&&Nat.beq j.length b) with
 | false=>grind
 | true=>
  rw[l]at h;simp only[cond_true,dq]at h |-;rw[Ey f,DS f]at h;cases dj with
  | none=>exact⟨_,h,bY.kill.trans bY.setH⟩
  | some dj=>
   refine b6 (gX (ts:=ts) h ψ jq) λr n=>?_
   obtain⟨o,-,p,q⟩:=n;exact⟨o,p,(bY.kill.trans bY.setH).trans q⟩
theorem KL{K:Nat->Nat->Prop}(b:d∉tm x)(c:∀t,(F t).uses d=false)(h:B0 (eff none d v F) x K):B0 F x λt o=>t≠d/\K t o:=by
 obtain⟨s,t,f,rfl,a,i⟩:=uG h;have g:s≠d:=λe=>b (by simp[tm,e])
 rw[cm g]at a;have j:t≠d:=λe=>by have:=c s;rw[a,e]at this;simp[AV.uses]at this
 grind [B0]
theorem MX{dj:Option Nat}{a b:Nat}(h:kN P N (eff none d v F) dj f args a b K)(g:dj≠some d)(c:∀x,x∈args->d∉tm x)(e:∀t,(F t).uses d=false) :
  kN P N F dj f args a b (Gq d ts F K):=by
 unfold kN at h |-;split at h
 case h_2=>exact h.elim
 refine lG (KL (c _ (by simp)) e h) λt j h=>?_
 obtain⟨i,h⟩:=h;refine lG (KL (c _ (by simp)) e h) λk l h=>?_
 replace h:=h.2;rw[cm i]at h;split at h
 all_goals grind [dq,cw.out,CI,Qx]
theorem Pe{dj:Option Nat}(h:kQ P N (eff none d v F) dj f args modes K)(a:dj≠some d)(b:d∉ts)(c:∀x,x∈args->d∉tm x)(e:∀t,(F t).uses d=false) :
  kQ P N F dj f args modes (Gq d ts F K):=by grind [MX,NS,kQ]
theorem Q6{dj:Option Nat}{q:Nat}(c:q≠s):rv1 F dj s F1 q=F1 q:=by
 unfold rv1;cases F s with
 | ref t a b=>
  cases b with
  | cons=>rfl
  | nil=>
   simp only;cases(dne dj s&&dne dj t) with
   | false=>rfl
   | true=>
    simp only[cond_true];cases F1 t with
    | G k d=>
     cases k with
     | box=>
      simp only;cases F1 s with
      | dead=>grind [fD]
      | _=>rfl
     | _=>rfl
    | _=>rfl
 | _=>rfl
theorem T4{dj:Option Nat}{v1:AV}(c:∀t,(F t).uses d=false):∃a,rv1 (eff none d v F) dj s (eff none d v1 F1)=eff none d a (rv1 F dj s F1):=by
 by_cases b:s=d
 ·subst b
  have f:∃a,rv1 (eff none s v F) dj s (eff none s v1 F1)=eff none s a F1:=by
   unfold rv1;rw[mL];have set:∀x:AV,setH (eff none s v1 F1) s x=eff none s x F1:=λx=>by grind [qB,mL,fD,cm]
   grind
  obtain⟨a,g⟩:=f;refine⟨a,g.trans ?_⟩
  grind [mL,cm,Q6]
 refine⟨v1,?_⟩;unfold rv1;rw[cm b];cases h:F s with
 | ref t i j=>
  cases j with
  | cons=>rfl
  | nil=>
   have k:t≠d:=λe=>by have:=c s;rw[h,e]at this;simp[AV.uses]at this
   grind [cm,DS]
 | _=>rfl
def Nh{d:Nat}{dj:Option Nat}{v:AV}(a:∀t,(F t).uses d=false):∀{l:List Nat}{v1:AV}{F1:Nat->AV},∃b,rvE (eff none d v F) dj l (eff none d v1 F1)=eff none d b (rvE F dj l F1)
 | [],v1,_=>⟨v1,rfl⟩
 | s::l,v1,F1=>by
  simp only[rvE];obtain⟨b,e⟩:=T4 (dj:=dj) (v:=v) (v1:=v1) (s:=s) (F1:=F1) a;rw[e];exact Nh a
theorem R3{a:Oper}(B:a.guard=none)(k:qd a.op=true)(g:a.dst≠some d)(w:d∉a.looksAt ops)(n:∀t,(F t).uses d=false)(h:jt P TE N ops a K (eff none d v F)) :
  jt P TE N ops a (Gq d (a.looksAt ops) F K) F:=by
 have f:∀t,t∈dz a.op->t∈a.looksAt ops:=λt o=>iE a t o
 have tmI:∀x,x∈a.op.operands.toList->∀t,t∈tm x->t∈a.looksAt ops:=λx y t o=>f t (List.mem_flatMap.2 ⟨x,y,o⟩)
 have pur:∀dj,dj≠d->di P TE (eff none d v F) a.op (λj=>bT N (eff none d v F) dj j K)->di P TE F a.op λj=>bT N F dj j (Fq d (a.looksAt ops) v F K):=λdj g h=>
  E8 (p:=λF K=>di P TE F a.op K) (kv h) g f w n
 unfold jt fL at h |-;rw[B]at h |-;simp only at h |-;cases b:a.op with
 | call c=>
  rw[b]at h k tmI;have q:rv c=none:=by grind [qd,rv]
  have r:Do N (eff none d v F) (.call c)=Do N F (.call c):=by grind [qd,Do]
  rw[r]at h;have pl:kP P TE N a K (eff none d v F)->kP P TE N a (Gq d (a.looksAt ops) F K) F:=λh=>by
   unfold kP at h |-;rw[b]at h |-;cases C:a.dst with
   | none=>grind
   | some dj=>
    rw[C]at h;simp only[kT,q]at h |-;have A:=pur dj ψ;rw[b]at A;obtain⟨j,D,-,E⟩:=kv (A h);exact E F (Cc _ _) _ (b6 D λQ G=>by
      obtain⟨v1,-,H,u⟩:=G;exact⟨v1,H,u⟩)
  cases J:Do N F (.call c) with
  | some p=>
   rw[J]at h;simp only at h |-;have i:∀x,x∈p.2.1->d∉tm x:=λx y L=>by grind [qd,Do,Go.Op.operands,Go.Call.operands]
   have lt:um P N (eff none d v F) a.dst p.1 p.2.1 p.2.2 K->um P N F a.dst p.1 p.2.1 p.2.2 (Gq d (a.looksAt ops) F K):=λh=>rU (Pe (ts:=a.looksAt ops) h g w i n) λF1 h=>by
    obtain⟨v1,h,u⟩:=h;rw[ov]at h |-;obtain⟨M,e⟩:=Nh (dj:=a.dst) (v:=v) (l:=Uu N.mo) (v1:=v1) (F1:=F1) n;rw[e]at h;exact⟨M,h,JD u⟩
   cases O:PA N (.call c) with
   | false=>grind
   | true=>
    rw[O]at h;rcases h with h|h
    ·exact .pl (pl h)
    exact .lt (lt h)
  | none=>
   grind [kP]
 | _=>rw[b]at k;cases k
theorem R1{a:Oper}(e:a.guard=none)(b:(RK a.op || qd a.op)=true)(c:a.dst≠some d)(f:d∉a.looksAt ops)(g:∀t,(F t).uses d=false)(h:jt P TE N ops a K (eff none d v F)) :
  jt P TE N ops a (Gq d (a.looksAt ops) F K) F:=by
 rw[W6]at b;rcases b with b|b
 ·refine ky (NV e b c f g h) λl i=>?_
  obtain⟨j,-,k,u⟩:=i;exact⟨j,k,u⟩
 grind [R3]
structure na(ops:Array Oper)(ds:List Nat)(F:Nat->AV)(listed:Array Bool):Prop where
 dst:∀(j:Nat)(o:Oper)(d:Nat),ro ds o=true->ops[j]? = some o->listed.getD j true=false->o.dst=some d->∀t,(F t).uses d=false
 mv:∀(j:Nat)(o:Oper)(T:Option Nat)(s:Nat),ro ds o=true->ops[j]? = some o->listed.getD j true=false->o.guard=none->nR o.op=some (T,s)->j7 ops o s=true->∀t,(F t).uses s=false
variable{j:Nat}
theorem na.put{o:Option Nat}(h:na ops ds F listed)(p:∀b a g,ro ds a=true->b≠j->ops[b]? = some a->listed.getD b true=false->a.dst=some g->av.uses g=false)(q:∀b a T s,ro ds a=true->b≠j->ops[b]? = some a->listed.getD b true=false->a.guard=none->nR a.op=some (T,s)->j7 ops a s=true->av.uses s=false) :
  na ops ds (eff o d av F) (listed.setIfInBounds j true):=by
 refine⟨λb a g i c e k t=>?_,λb a T s i c e r l n t=>?_⟩
 ·have f:=iS e
  rw[getD_set_ne true (Ne.symm f)]at e;exact kx ψ (h.dst b a g i c e k t)
 have f:=iS e;rw[getD_set_ne true (Ne.symm f)]at e;exact kx ψ (h.mv b a T s i c e r l n t)
theorem y7{o:Oper}(h:TV o=true):o.guard=none:=by grind [TV]
theorem Nd(h:(!ts.any (Nat.beq d))=true):d∉ts:=λa=>by grind [Nat.beq_refl]
theorem Pk{a b:Oper}{c:Bool}(h:Uq ops a b c=true)(f:b.dst=some d):a.guard=none/\(RK a.op || qd a.op)=true/\a.dst≠some d/\d∉a.looksAt ops/\b.guard=none/\d∉b.looksAt ops/\(c=true\/∀T s,nR b.op=some (T,s)->j7 ops b s=false):=by
 unfold Uq at h;rw[f]at h;simp only[I0]at h;obtain⟨⟨⟨⟨⟨⟨g,i⟩,n⟩,j⟩,k⟩,l⟩,o⟩:=h;refine⟨y7 g,i,λe=>?_,Nd j,y7 k,Nd l,?_⟩
 ·simp_all
 grind
def Pi(h:xb ops j i=true):pc ops j i:=t8 j _ (λ_ a=>.one (x9 a)) i h
theorem KU{o:Oper}(h:ro ds o=true):∃d,o.dst=some d/\ds.any (Nat.beq d)=true:=by grind [ro]
structure RJ(ops:Array Oper)(ds:List Nat)(nm:Nat->Bool):Prop where
 back:∀(j:Nat)(oj:Oper),ops[j]? = some oj->∀e∈oj.after,Region.binds .any e=true->e.on<j
 apart:∀(i j:Nat)(oi oj:Oper),ro ds oi=true->ro ds oj=true->i≠j->ops[i]? = some oi->ops[j]? = some oj->de oj i=true\/de oi j=true\/oi.apart ops oj=true
 look:∀(i j:Nat)(oi oj:Oper)(d:Nat),ro ds oi=true->i≠j->ops[i]? = some oi->ops[j]? = some oj->oi.dst=some d->d∈oj.looksAt ops->de oj i=true
 differ:∀(i j:Nat)(oi oj:Oper)(d:Nat),ro ds oi=true->ro ds oj=true->i≠j->ops[i]? = some oi->ops[j]? = some oj->oi.dst=some d->oj.dst≠some d
 nf:∀(i j:Nat)(oi oj:Oper),ro ds oi=true->ro ds oj=false->i≠j->ops[i]? = some oi->ops[j]? = some oj->xb ops j i=true\/xb ops i j=true\/Uq ops oj oi (nm i)=true
 mvs:∀(j:Nat)(oj:Oper)(T:Option Nat)(s:Nat),ro ds oj=true->ops[j]? = some oj->nR oj.op=some (T,s)->j7 ops oj s=true->ds.any (Nat.beq s)=true
theorem pL{d:Oper}(a:RJ ops ds nm)(b:DC ops listed)(c:ops[j]? = some d)(f:∀e∈d.after,Region.binds .any e=true->listed.getD e.on false=true)(g:xb ops j i=true):listed.getD i false=true:=
 od b a.back (Pi g) (Z3.1 c).1 λk h=>by grind [bE,cu]
theorem unl{k:Nat}(h1:listed.getD k true=false)(a:listed.getD k false=true):False:=ψ
theorem ig.trans{a:Nat->AV}(h1:ig F F1 ts)(c:ig F1 a ts):ig F a ts:=λt b=>by
 obtain⟨d,e⟩:=h1 t b;obtain⟨f,g⟩:=c t b
 grind
theorem na.us{g:Oper}(n:RJ ops ds nm)(h:na ops ds F listed)(o:ops[j]? = some g)(r:∀e∈g.after,Region.binds .any e=true->listed.getD e.on false=true)(u:bY (g.looksAt ops) F F1):na ops ds F1 (listed.setIfInBounds j true):=by
 refine⟨λi k t l b c d=>u.clean (λf=>?_) (h.dst i k t l b ?_ d),λi k T s l b c w p q=>u.clean (λf=>?_) (h.mv i k T s l b ?_ w p q)⟩
 ·have a:=iS c
  rw[getD_set_ne true (Ne.symm a)]at c;have:=n.look i j k g t l a b o d f
  grind [cu]
 ·have a:=iS c
  rwa [getD_set_ne true (Ne.symm a)]at c
 ·grind [iS,gq,cZ]
 have a:=iS c
 rwa [getD_set_ne true (Ne.symm a)]at c
theorem Tn{p:Nat}{b:Oper}(a:ops[p]? = some b)(j:d∉b.looksAt ops)(k:∀t,(F1 t).uses d=false)(e:b.dst≠some d)(h:T0 P TE ops p (eff none d v F1)):T0 P TE ops p F1:=by
 obtain⟨f,g,i,c⟩:=h;rw[bE a]at g i c;refine⟨f,by grind [bE],?_,?_⟩
 ·grind [bE,xv,mW]
 rw[bE a];obtain⟨l,n,-,o⟩:=kv c
 grind [cm,mW,iE]
theorem J5(W:RJ ops ds nm){b:Oper}(D:ops[i]? = some b)(w:ro ds b=true) :
  ∀(fuel:Nat)(listed:Array Bool)(F:Nat->AV)(l:Option Nat)(av:AV),i∈Region.ready .any ops listed->na ops ds F listed->DC ops listed->Yl P TE N ops b F l d av->(nm i=true->l=none)->HG P TE N ops ds K fuel (listed.setIfInBounds i true) (eff l d av F)->HG P TE N ops ds K (fuel+1) listed F:=by
 have self:∀(listed:Array Bool)(F:Nat->AV)(l:Option Nat)(av:AV),i∈Region.ready .any ops listed->na ops ds F listed->Yl P TE N ops b F l d av->∀X:(Nat->AV)->Prop,X (eff l d av F)->lS P TE N ops b X F:=λlisted F l av hr a c X hK=>by
  have f:=(mem_ready.1 hr).1;refine c.at_ F (Cc _ _) (a.dst i b d w D f c.dst) (λs hs=>?_) X hK;obtain⟨B,⟨T,h2⟩,h3⟩:=c.mvl s hs;exact a.mv i b T s w D f B h2 h3
 intro fuel
 induction fuel with
 | zero=>
  intro listed F l av hr a E c hnm H;refine⟨ψ,λj hj=>?_⟩;by_cases n:j=i
  ·grind [wm]
  have:=ready_mono hj n;rw[H.1]at this;cases this
 | succ fuel ih=>
  intro listed F l av hr a E c hnm H;refine⟨ψ,λj hj=>?_⟩;by_cases n:j=i
  ·grind [wm]
  have B:=H.2 j (ready_mono hj n);obtain⟨R,g,q,hall⟩:=mem_ready.1 hj;obtain⟨f,oi',C,halli⟩:=mem_ready.1 hr;rw[D]at C;simp only[C1]at C;subst C;have noedge:∀k ok,ops[k]? = some ok->listed.getD k true=false->de g k=false:=λk ok hk hkun=>by grind [cu]
  have noedge':∀k ok,ops[k]? = some ok->listed.getD k true=false->de b k=false:=λk ok hk hkun=>by grind [cu]
  have cd:∀t,(F t).uses d=false:=a.dst i b d w D f c.dst
  unfold wm at B |-;rw[q]at B |-;simp only at B |-;by_cases G:ro ds g=true
  case neg=>
   rw[CB G]at B |-;have hji1:xb ops j i=false:=by grind [pL]
   have hij1:xb ops i j=false:=by grind [pL]
   have hfb:Uq ops g b (nm i)=true:=by grind [RJ.nf]
   obtain⟨J,r,A,g4,g5,g6,g7⟩:=Pk hfb c.dst;have hmv:l=none:=by
    cases l with
    | none=>rfl
    | some s=>
     obtain⟨-,⟨T,q1⟩,q2⟩:=c.mvl s rfl
     grind
   subst hmv;refine ky (R1 J r A g4 cd B) λF1 hF1=>?_
   obtain⟨v,⟨S,hrun⟩,u⟩:=hF1;have cd1:∀t,(F1 t).uses d=false:=u.clean g4 cd
   have hisz:i<listed.size:=ψ
   have hrd:T0 P TE ops i (eff none d v F1):=S i (by simp[hisz]) (by grind [bE]) hji1;refine⟨λp hp1 L hp3=>?_,ih (listed.setIfInBounds j true) F1 none v (ready_mono hr (Ne.symm n)) (a.us W q hall u) (E.put hj) ?_ (λ_=>rfl) (by grind [Array.setIfInBounds_comm])⟩
   ·have hpi:p≠i:=ψ
    have hpl:p<ops.size:=by
     rcases Nat.lt_or_ge p ops.size with h|h
     ·exact h
     rw[show dr ops p=default by simp[dr,Z6,Array.getElem?_eq_none h]]at L;cases L
    have h0:ops[p]? = some ops[p]:=ψ
    have U:=L;rw[bE h0]at U;refine Tn h0 (λhlk=>?_) cd1 (W.differ i p b _ d w U (Ne.symm hpi) D h0 c.dst) (S p (getD_set_true hp1) L hp3);have:=W.look i p b _ d w (Ne.symm hpi) D h0 c.dst hlk;exact unl f (E p _ h0 hp1 i this)
   obtain⟨dp,q1,q2,q3⟩:=hrd;rw[bE D]at q1 q2 q3;have hdp:dp=d:=by grind [Yl.dst]
   subst hdp;rw[mL]at q3;obtain⟨M,e1,e2,e3⟩:=kv q3;subst e1;have agr1:ig (eff none dp M F1) F1 (b.looksAt ops):=mW g6 cd1;have fromv:eK F1 (b.looksAt ops) M:=λe he=>by
    rcases e2 e he with h|⟨t,Y,h⟩
    all_goals grind [iE,cm]
   have Z:M.uses dp=false:=by
    cases hu:M.uses dp with
    | false=>rfl
    | true=>
     rcases fromv dp hu with h|⟨t,_,h⟩
     all_goals grind
   refine⟨c.dst,c.lt,Z,fromv,ψ,λF' hA O _ X hK=>?_⟩;have agr2:=agr1.trans hA;unfold lS;rw[xv agr2,q2];simp only;unfold gK fL
   grind [ig.mono,iE,Yl.lt,Ex,bT]
  rw[CC G]at B |-;have hap:b.apart ops g=true:=by grind [RJ.apart]
  obtain⟨ap1,ap2,ap3⟩:=Oper.apart_spec hap;have hdl:d∉g.looksAt ops:=ap1 d c.dst;have cdj':∀o,g.dst=some o->∀t,(F t).uses o=false:=λo hdj=>a.dst j g o G q R hdj
  have cmv:∀s,l=some s->(∀t,(F t).uses s=false)/\s∉g.looksAt ops/\s∈b.looksAt ops:=λs hs=>by
   obtain⟨J,⟨T,r⟩,A⟩:=c.mvl s hs;exact⟨a.mv i b T s w D f J r A,λhl=>n ((gq A).2 i j b g D q (cZ r) hl).symm,cZ r⟩
  have cmvj:∀T s,g.guard=none->nR g.op=some (T,s)->j7 ops g s=true->(∀t,(F t).uses s=false)/\s∉b.looksAt ops/\s∈g.looksAt ops:=λT s J r A=>
   ⟨a.mv j g T s G q R J r A,λhl=>n ((gq A).2 i j b g D q hl (cZ r)).symm,cZ r⟩
  have avno:∀e,e∉b.looksAt ops->(∀t,(F t).uses e=false)->av.uses e=false:=λe B h2=>by
   cases hu:av.uses e with
   | false=>rfl
   | true=>
    rcases c.from_ e hu with h|⟨t,_,h⟩
    all_goals grind
  obtain⟨mvj,o,avj,y,hKj⟩:=qS B (λo hdj t=>kx ψ (cdj' o hdj t)) (λT s J r A t=>by grind [kx]);have hdne:d≠o:=λe=>ap2 d c.dst (by rw[y.dst,e])
  have hdjl:o∉b.looksAt ops:=ap3 o y.dst;have cdj:∀t,(F t).uses o=false:=cdj' o y.dst
  have cmj:∀s,mvj=some s->(∀t,(F t).uses s=false)/\s∉b.looksAt ops/\s∈g.looksAt ops:=λs hs=>by
   obtain⟨J,⟨T,r⟩,A⟩:=y.mvl s hs
   grind
  have lookj:∀t,t∈g.looksAt ops->eff l d av F t=F t:=λt Y=>by grind [eff]
  have looki:∀t,t∈b.looksAt ops->eff mvj o avj F t=F t:=λt Y=>by grind [eff]
  have avjno:∀e,e∉g.looksAt ops->(∀t,(F t).uses e=false)->avj.uses e=false:=λe B h2=>by
   cases hu:avj.uses e with
   | false=>rfl
   | true=>
    rcases y.from_ e hu with h|⟨t,Y,h⟩
    all_goals grind
  have agrj:ig (eff l d av F) F (g.looksAt ops):=λt Y=>by grind [eff]
  refine y.at_ F agrj cdj ψ _ (ih (listed.setIfInBounds j true) (eff mvj o avj F) l av (ready_mono hr (Ne.symm n)) (a.put (λj' o' d' hm' V Q hl' O=>?_) (λj' o' T s hm' V Q hl' J r A=>?_)) (E.put hj) ?_ hnm ?_)
  ·refine avjno d' (λh=>?_) (a.dst j' o' d' hm' Q hl' O)
   grind [RJ.look]
  ·exact avjno s (λh=>V ((gq A).2 j' j o' g Q q (cZ r) h)) (a.mv j' o' T s hm' Q hl' J r A)
  ·refine⟨c.dst,c.lt,c.self,λe he=>?_,c.mvl,λF' hA O hs' X hK=>c.at_ F' (λt Y=>?_) O hs' X hK⟩
   ·rcases c.from_ e he with h|⟨t,Y,h⟩
    all_goals grind
   obtain⟨a1,a2⟩:=hA t Y
   grind [eff]
  rw[Array.setIfInBounds_comm _ _ n];have:eff l d av (eff mvj o avj F)=eff mvj o avj (eff l d av F):=by grind [eff]
  grind
theorem Dc:∀{b:List Nat}{X:Prop}{F:Nat->AV},Nj P TE ops b X F->X/\∀p,p∈b->T0 P TE ops p F
 | [],X,F,h=>⟨h,ψ⟩
 | p::l,X,F,h=>by
  simp only[Nj]at h;unfold Uk at h;cases c:(dr ops p).dst with
  | none=>grind
  | some d=>
   rw[c]at h;simp only at h;cases f:Lb F (dr ops p) with
   | some q=>grind
   | none=>
    rw[f]at h;simp only at h;obtain⟨g,i,-,-⟩:=kv h;obtain⟨e,k,j⟩:=(show g=F d/\X/\∀p,p∈l->T0 P TE ops p F from⟨i.out.1,Dc i.out.2⟩)
    refine⟨k,λn a=>?_⟩;rcases List.mem_cons.1 a with rfl|a
    ·exact⟨d,c,f,jW h λg h=>h.out.1⟩
    grind
variable{l:List (Nat × List Nat)}
theorem vD : zm l i=true↔∃p,p∈l/\p.1=i:=by grind [W2,Nat.beq_refl,zm]
theorem qI{k:Nat × List Nat} : zm (k::l) i=(Nat.beq k.1 i || zm l i):=rfl
theorem DR(b:RJ ops ds nm){K:(Nat->AV)->Prop} : ∀(l:List (Nat × List Nat))(listed:Array Bool)(F:Nat->AV),FE ops ds l=true->listed.size=ops.size->(∀j,j<ops.size->listed.getD j true = !zm l j)->na ops ds F listed->DC ops listed->
  LS P TE N ops ds nm l K F->HG P TE N ops ds K l.length listed F
 | [],listed,F,_,hs,E,_,_,c=>by
  refine⟨?_,c⟩;apply List.eq_nil_iff_forall_not_mem.2;intro j R;obtain⟨S,o,ho,-⟩:=mem_ready.1 R;have G:=(Z3.1 ho).1;rw[E j G]at S;cases S
 | k::l,listed,F,A,hs,E,a,H,c=>by
  simp only[FE,I0]at A;obtain⟨⟨⟨⟨q1,q2⟩,q3⟩,Z⟩,q5⟩:=A;have hk:k.1<ops.size:=by simp_all
  have r:ops[k.1]? = some ops[k.1]:=ψ
  have hrf:∀i,i<ops.size->listed.getD i true=true->listed.getD i false=true:=ψ
  have hready:k.1∈Region.ready .any ops listed:=mem_ready.2 ⟨by grind [qI,Nat.beq_refl],_,r,λe he hb=>by
    have G:=b.back k.1 _ r e he hb
    grind [bE,qI]⟩
  have B:∀j,j<ops.size->(listed.setIfInBounds k.1 true).getD j true = !zm l j:=λj R=>by
   by_cases w:j=k.1
   ·simp_all
   rw[getD_set_ne true (Ne.symm w),E j R,qI,show Nat.beq k.1 j=false by rw[<-W5,Nat.beq_eq];exact Ne.symm w];rfl
  show HG P TE N ops ds K (l.length+1) listed F;simp only[LS]at c;rw[bE r]at c Z;have U:listed.getD k.1 true=false:=(mem_ready.1 hready).1;cases f:ro ds ops[k.1] with
  | true=>
   rw[f]at c;simp only[cond_true]at c;obtain⟨mv,d,av,hy,c,hnm⟩:=LN c (λd hd=>a.dst k.1 _ d f r U hd) (λT s g1 g2 g3=>a.mv k.1 _ T s f r U g1 g2 g3);have C:∀e∈ops[k.1].after,Region.binds .any e=true->listed.getD e.on false=true:=by grind [Go.mem_ready]
   refine J5 b r f l.length listed F mv av hready a H hy hnm (DR b l _ _ q5 (by simpa using hs) B (a.put (λO Q V g D n hl'' J=>?_) (λO Q T s g D n hl'' g1 g2 g3=>?_)) (H.put hready) c)
   ·cases hu:av.uses V with
    | false=>rfl
    | true=>
     rcases hy.from_ V hu with h|⟨t,_,h⟩
     ·have:=b.look O k.1 Q _ V g D n r J h
      grind [cu]
     rw[a.dst O Q V g n hl'' J t]at h;cases h
   cases hu:av.uses s with
   | false=>rfl
   | true=>
    rcases hy.from_ s hu with h|⟨t,_,h⟩
    ·grind [gq,cZ]
    rw[a.mv O Q T s g n hl'' g1 g2 g3 t]at h;cases h
  | false=>
   rw[f]at c Z;simp only[cond_false]at c;simp only[Bool.false_or,I0]at Z;obtain⟨⟨r1,r2⟩,r3⟩:=Z;refine⟨ψ,λj R=>?_⟩;obtain⟨hjun,oj,y,C⟩:=mem_ready.1 R;have hjlt:=(Z3.1 y).1;have w:j=k.1:=by grind [vD,pL]
   subst w;rw[r]at y;simp only[C1]at y;subst y;unfold wm;rw[r];simp only[f,CB (show ¬false=true by decide)];have post:∀u,Nj P TE ops k.2 (LS P TE N ops ds nm l K u) u->na ops ds u (listed.setIfInBounds k.1 true)->(∀p,listed.getD p false=true->ro ds (dr ops p)=true->xb ops k.1 p=false->T0 P TE ops p u)/\HG P TE N ops ds K l.length (listed.setIfInBounds k.1 true) u:=λu L W=>by
    obtain⟨X,hrd⟩:=Dc L;refine⟨λp hp1 hp2 hp3=>hrd p ?_,DR b l _ _ q5 (by simpa using hs) B W (H.put hready) X⟩;have hpl:p<ops.size:=ψ
    grind [gM,qI,W2]
   cases hlater:l.any (λj=>ro ds (dr ops j.1)) with
   | false=>
    refine ky c λu L=>post u L ⟨λO Q V g n hl'' J=>?_,λO Q T s g n hl''=>?_⟩
    all_goals grind [vD,bE]
   | true=>
    rw[hlater]at r3;simp only[Bool.not_true,Bool.false_or,I0]at r3;obtain⟨x,hx1,q⟩:=z4.1 hlater;have Y:listed.getD x.1 true=false/\x.1<ops.size:=by
     have G:x.1<ops.size:=by
      rcases Nat.lt_or_ge x.1 ops.size with h|h
      ·exact h
      rw[show dr ops x.1=default by simp[dr,Z6,Array.getElem?_eq_none h]]at q;cases q
     grind [vD]
    have M:ops[x.1]? = some ops[x.1]:=ψ
    rw[bE M]at q;obtain⟨d,hd,hdd⟩:=KU q;have hxk:x.1≠k.1:=ψ
    refine ky (R6 (d:=d) (y7 r3.1) r3.2 (λe=>?_) (λhlk=>?_) (a.dst x.1 _ d q M Y.1 hd) c) λu S=>post u S.1 (a.us b r C S.2)
    ·grind [ro]
    have:=b.look x.1 k.1 _ _ d q hxk M r hd hlk
    grind [cu]
theorem E1{sch:List (Nat × List Nat)}(h:E0 ops ds sch=true):RJ ops ds (Uw sch)/\FE ops ds sch=true/\sch.length=ops.size/\∀j,j<ops.size->zm sch j=true:=by
 unfold E0 at h;simp only[I0]at h;obtain⟨⟨p,k⟩,l⟩:=h;have C:=λj (o:j<ops.size)=>gM p o
 have r:∀(i j:Nat)(c b:Oper),i≠j->ops[i]? = some c->ops[j]? = some b->BS ops ds (Uw sch) i j=true:=λi j c b a f g=>by grind [gM,Nat.beq_eq]
 refine⟨⟨λj b o e t u=>?_,λi j c b n q a f g=>?_,λi j c b d n a f g w D=>?_,λi j c b d n q a f g w t=>?_,λi j c b n q a f g=>?_,λj b T s n o y A=>?_⟩,l,W2 k,λj o=>?_⟩
 ·grind [bE,Nat.blt_eq]
 ·grind [bE,BS]
 ·have:=r i j c b a f g
  unfold BS at this;rw[bE f,bE g,n]at this;have B:uH ops i j=true:=by grind [bE,Nat.beq_refl,uH]
  grind
 ·grind [bE,Nat.beq_refl,BS]
 all_goals grind [bE,BS]
theorem vw{l:List Nat} : DO l j=true↔j∈l:=by grind [W2,Nat.beq_refl,DO]
def Ht{p:Nat->Prop} : ∀{l:List Nat}{i:Nat},U3 p i l->∀j,j∈i::l->p j
 | [],i,h,j,a=>by rw[V1.1 a];exact h
 | k::l,i,h,j,a=>by
  rcases List.mem_cons.1 a with rfl|a
  ·exact h.1
  exact Ht h.2 j a
theorem Gr{l:List Nat}{K:Prop}{p:Nat->Prop}(h:U1 l K p):(l=[]->K)/\∀j∈l,p j:=by
 cases l with
 | nil=>exact⟨λ_=>h,ψ⟩
 | cons i l=>exact⟨ψ,Ht h⟩
theorem sL{done:List Nat}(h:listed.size=ops.size)(b:∀j,j<ops.size->listed.getD j true=DO done j)(l:∀k∈done,k<ops.size) : j∈Region.ready .any ops listed↔j∈ND ops done:=by
 have c:∀i,listed.getD i false=DO done i:=λi=>by grind [vw]
 rw[mem_ready];unfold ND;rw[X4,List.mem_range,I0];constructor
 ·grind [bE]
 rintro⟨a,n,d⟩
 refine⟨ψ,ops[j],X6 a,λe f g=>?_⟩;have:=C4.1 d e (by rw[bE (X6 a)];simpa using f)
 grind
theorem RB{K:(Nat->AV)->Prop} : ∀(n:Nat)(done:List Nat)(listed:Array Bool)(F:Nat->AV),listed.size=ops.size->(∀j,j<ops.size->listed.getD j true=DO done j)->(∀k∈done,k<ops.size)->T8 P TE N ops K n done F->HG P TE N ops [] K n listed F
 | 0,done,listed,F,c,a,f,h=>by
  obtain⟨g,l⟩:=Gr h;have o:ND ops done=[]:=List.eq_nil_iff_forall_not_mem.2 λj b=>l j b
  exact⟨List.eq_nil_iff_forall_not_mem.2 λj b=>(by grind [sL]),g o⟩
 | n+1,done,listed,F,c,a,f,h=>by
  obtain⟨g,l⟩:=Gr h;refine⟨λo=>g (List.eq_nil_iff_forall_not_mem.2 λj b=>(by rw[<-sL c a f,o]at b;cases b)),λi t=>?_⟩;have d:=(sL c a f).1 t;have q:=l i d;have u:i<ops.size:=List.mem_range.1 (X4.1 d).1;have r:ops[i]? = some ops[i]:=ψ
  unfold wm;rw[r];simp only;rw[bE r]at q;have w:ro [] ops[i]=false:=by grind [ro]
  rw[CB (by rw[w];decide)];refine ky q λy A=>⟨λp _ B=>?_,RB n (i::done) _ y (by simpa using c) (λj b=>?_) (λk C=>?_) A⟩
  ·grind [ro]
  ·by_cases e:j=i
   ·subst e
    rw[show DO (j::done) j=true from vw.2 ψ];simp[c,b]
   rw[getD_set_ne true (Ne.symm e),a j b]
   grind [vw]
  grind
theorem z6(g:∀t i,TE t=some i->im P t i)(A:P.follows .mixedOrders=true){id:Nat}{q:List (Nat × Nat × List Nat)}(b:pY q id ops=true)(c:DD P TE N q id ops K F)(B:St w0 M S0 N F a w)(C:∀F' D E,K F'->St w0 M S0 N F' D E->Q .normal D E):(Code.region id ops true).wp P Q a w:=by
 unfold pY at b;unfold DD at c;cases r:yE q id with
 | none=>grind
 | some p=>
  obtain⟨m,L⟩:=p;rw[r]at b c;simp only at b c;cases k:Nat.ble 65536 m with
  | true=>
   rw[k]at c;refine wp_region_any A ?_;have f:St w0 M S0 N F a {w with drawn:=w.drawn+1}:=by
    obtain⟨S,φ,h⟩:=B;exact⟨S,φ,h.more (w1:={w with drawn:=w.drawn+1}) (λ_ _ h=>h) ψ ⟨rfl,rfl,rfl,V3 _,λ_ _ _=>rfl,λ_ _ _ _=>rfl,λ_ _ _ _=>rfl⟩⟩
   refine sM g (ds:=[]) C ops.size (Array.replicate ops.size false) _ a _ ?_ f;exact RB ops.size [] _ F (by simp) (λj n=>by simp[n,DO]) ψ c
  | false=>
  rw[k]at b c;simp only[cond_false]at b c;cases u:Nat.ble 256 m with
  | false=>
   grind [DZ]
  | true=>
   rw[u]at b c;simp only[cond_true,Kx]at b c;generalize L.take (m - 256)=ds at b c;generalize dec (L.drop (m - 256))=sch at b c;obtain⟨G,l,e,H⟩:=E1 b;refine wp_region_any A ?_;have f:St w0 M S0 N (Ab.clr ds F) a {w with drawn:=w.drawn+1}:=by
    have R:=B.clr ds;obtain⟨S,φ,h⟩:=R;exact⟨S,φ,h.more (w1:={w with drawn:=w.drawn+1}) (λ_ _ h=>h) ψ ⟨rfl,rfl,rfl,V3 _,λ_ _ _=>rfl,λ_ _ _ _=>rfl,λ_ _ _ _=>rfl⟩⟩
   refine sM g (ds:=ds) C ops.size (Array.replicate ops.size false) _ a _ ?_ f;have y:∀d,ds.any (Nat.beq d)=true->∀t,(Ab.clr ds F t).uses d=false:=λd U t=>by
    rw[Ek];cases Y:ds.any (λd=>(F t).uses d) with
    | true=>rfl
    | false=>
     simp_all
   rw[<-e];refine DR G sch _ _ l (by simp[e]) (λj n=>by simp_all) ⟨λj o d J O _ U t=>?_,λj o T s J O _ _ V W t=>y s (G.mvs j o T s J O V W) t⟩ (λj Z n hl=>by
     have X:=(Z3.1 n).1
     simp_all) c
   grind [KU]
end
def kJ:List (Option Nat)->Kd
 | [ag]=>ml ag
 | a=>.tup a
def rT:ResultVar->Nat
 | .tmp t=>t
 | .cell t _=>t
def Gh(tmps:Array Value):ResultVar->Sem Value
 | .tmp t=>pure (tmps.getD t undef)
 | .cell a t=>do loadVar t (<-asAddr (tmps.getD a undef))
def resOne(TE:Nat->Option TI)(F:Nat->AV)(r:ResultVar)(K:Option Nat->List C->Prop):Prop:=
 match r with
 | .tmp t=>(match F t with
   | .G .one cs=>K none cs
   | .G .agg cs=>K (some cs.length) cs
   | _=>False)
 | .cell t T=>match TE T with
  | some i=>bif i.agg || Nat.beq i.size 1 then(match F t with
    | .G .box cs=>bif Nat.beq cs.length i.size then K (rk i) cs else False
    | _=>False) else False
  | none=>False
def resA(TE:Nat->Option TI)(F:Nat->AV):List ResultVar->List Nat->(List (Option Nat)->List C->Prop)->Prop
 | [],_,K=>K [] []
 | r::rs,seen,K=>bif seen.any (Nat.beq (rT r)) then False else resOne TE F r λb c=>resA TE F rs (rT r::seen) λd a=>K (b::d) (c++a)
def UE:RA->AV
 | .val a cs=>.G (ml a) cs
 | .ptr cs=>.iref cs 0
 | .fn Ok=>.fv Ok
def Fa:Nat->List RA->List (Nat × AV)
 | _,[]=>[]
 | i,A::As=>(i,UE A)::Fa (i+1) As
inductive Mb:C->C->Prop
 |rfl_ (c:C):Mb c c
 |z_:Mb .z (.s .own [])
 |own_ (rows rows':List (List C)) (hl:rows.length=rows'.length) (hk:∀(i:Nat)(r r':List C),rows[i]? = some r->rows'[i]? = some r'->r.length=r'.length)
   (hr:∀(i j:Nat)(r r':List C)(c c':C),rows[i]? = some r->rows'[i]? = some r'->r[j]? = some c->r'[j]? = some c'->Mb c c'):Mb (.s .own rows) (.s .own rows')
def MZ(cs a:List C):Prop:=cs.length=a.length/\∀(j:Nat)(c b:C),cs[j]? = some c->a[j]? = some b->Mb c b
def MZ.nil:MZ [] []:=⟨rfl,λj c a h=>by simp at h⟩
variable{cs a:List C}
theorem MZ.cons{c b:C}(h:Mb c b)(d:MZ cs a):MZ (c::cs) (b::a):=by
 refine⟨by simp[d.1],λj y e f g=>?_⟩;cases j with
 | zero=>grind
 | succ j=>exact d.2 j y e (by simpa using f) (by simpa using g)
def Mb.rep{r r':List C}(h:MZ r r'):Mb (.s .own (List.replicate n r)) (.s .own (List.replicate n r')):=by
 refine .own_ _ _ (by simp) (λi a b d e=>?_) (λi j a b c o d e k l=>?_)
 ·have f:=List.mem_replicate.1 (O2 d)
  have g:=List.mem_replicate.1 (O2 e);rw[f.2,g.2];exact h.1
 have f:=List.mem_replicate.1 (O2 d);have g:=List.mem_replicate.1 (O2 e);rw[f.2]at k;rw[g.2]at l;exact h.2 j c o k l
theorem Ro{w:World}{S Y:af}{c:C}{v:Value}(h:dN w S Y c v):∀t,Mb c t->dN w S Y t v:=by
 induction h with
 | z F a=>
  intro t j;cases j with
  | rfl_=>exact .z _ _
  | z_=>exact .nil _ _ _ trivial
 | nil F o a K=>
  intro t j;cases j with
  | rfl_=>exact .nil _ _ _ K
  | own_ d e E=>obtain rfl:e=[]:=X7 (by simpa using E.symm);exact .nil _ _ _ trivial
 | own F o g k n y d u f K J L p A D R T j G X=>
  intro t M;cases M with
  | rfl_=>exact .own _ o g k n y d u f K J L p A D R T j G
  | own_ d e E Z U=>
   have V:∀(i:Nat)(W:List C),e[i]? = some W->∃r,d[i]? = some r:=ψ
   refine .own _ .own g k n y e u f trivial (E.symm.trans J) (λW hr'=>?_) p A D R T j ψ
   all_goals grind [List.mem_iff_getElem?]
 | v F x N=>intro t j;cases j;exact .v _ _ N
 | x F u N=>intro t j;cases j;exact .x _ _ N
 | S F g O k n y d u J L p hS G X=>intro t j;cases j;exact .S _ g O k n y d u J L p hS G
 | m F b l es q D P he Q B=>intro t j;cases j;exact .m _ b l es q D P he Q B
 | it F r b since c0 l seen q cur left D U P B G Q E H=>intro t j;cases j;exact .it _ r b since c0 l seen q cur left D U P B G Q E H
def WK(cs a:List C):Prop:=LZ cs a\/MZ cs a
inductive jo(k k':Kd)(cs cs':List C):Prop
 |mk_ (h:k=k'/\WK cs cs')
def kF:∀(cs:List C),LZ cs cs
 | []=>trivial
 | c::cs=>by
  refine⟨?_,kF cs⟩;cases c with
  | s o a=>cases o<;>rfl
  | x=>trivial
  | _=>rfl
variable{k:Kd}
def jo.mk{b:Kd}(h1:k=b)(c:cs=a):jo k b cs a:=by refine .mk_ ?_;exact⟨h1,.inl (c ▸ kF cs)⟩
def jo.wk{b:Kd}(h1:k=b)(c:LZ cs a):jo k b cs a:=.mk_ ⟨h1,.inl c⟩
def jo.dk{b:Kd}(h1:k=b)(c:MZ cs a):jo k b cs a:=.mk_ ⟨h1,.inr c⟩
def jo.out{b:Kd}(h:jo k b cs a):k=b/\WK cs a:=by obtain⟨h⟩:=h;exact h
theorem WK.len(h:WK cs a):cs.length=a.length:=h.elim (λh=>(td h).1) (λh=>h.1)
theorem WK.row{w:World}{S Y:af}{c:List C}{u:Nat->Value}(a:WK cs c)(h:cC w S Y cs u):cC w S Y c u:=by
 rcases a with a|a
 ·exact Fj a h
 obtain⟨f,k,l,n⟩:=h;refine⟨f,λj i b=>?_,λj b=>l j (by rw[a.1];exact b),λj o b e=>n j o (by rw[a.1];exact b) (by rw[a.1];exact e)⟩;have g:=(Z2.1 b).1;have d:cs[j]? = some (cs[j]'(by rw[a.1];exact g)):=ψ
 exact Ro (k j _ d) i (a.2 j _ i d b)
def QT(TE:Nat->Option TI)(c:List ResultVar)(k:Kd)(rcs:List C):Exit->(Nat->AV)->Prop:=λe F=>
 match e with
 | .normal=>resA TE F c [] λa b=>jo (kJ a) k b rcs
 | .ret=>resA TE F c [] λa b=>jo (kJ a) k b rcs
 | _=>False
section
variable{P:Program}{w0 w w1:World}{M S0 S:af}{N:fo}{φ:Nat->af}{F:Nat->AV}{a:Act}{TE:Nat->Option TI}
theorem bm.resOne(h:bm w0 M S0 N S φ F a w)(n:∀t i,TE t=some i->im P t i){r:ResultVar}{K:Option Nat->List C->Prop}(b:resOne TE F r K) :
  ∃ag cs v,K ag cs/\bC w S (φ (rT r)) ag cs v/\(Gh a.tmps r).run P w=.ok v w:=by
 cases r with
 | tmp t=>
  have e:=h.slot t;simp only[Ab.resOne]at b;cases p:F t with
  | G k cs=>
   rw[p]at b e;obtain⟨E,Y,G,j,H,A,l⟩:=e;cases k with
   | one=>exact⟨none,cs,tvs a t,b,⟨A,_,rfl,l.mono (λ_ _ h=>h) j⟩,rfl⟩
   | agg=>
    obtain⟨arr,q,u⟩:=A;refine⟨some cs.length,cs,tvs a t,b,⟨rfl,cq w .agg (tvs a t),?_,l.mono (λ_ _ h=>h) j⟩,rfl⟩;rw[q];have:=oK arr;rw[u]at this;exact this
   | _=>exact b.elim
  | _=>grind
 | cell t T=>
  have e:=h.slot t;simp only[Ab.resOne]at b;split at b
  case h_2=>exact b.elim
  rename_i i J;have L:=n _ _ J;cases B:(i.agg || Nat.beq i.size 1) with
  | false=>grind
  | true=>
   rw[B]at b;simp only[cond_true]at b;cases p:F t with
   | G k cs=>
    rw[p]at b e;cases k with
    | box=>
     simp only at b;cases D:Nat.beq cs.length i.size with
     | false=>grind
     | true=>
      rw[D]at b;have O:=W2 D;obtain⟨E,Y,G,j,H,⟨g,o,q,Q⟩,l⟩:=e;have c:∀d,d<i.size->cel w g (o+d)=some (cq w .box (tvs a t) d):=λd R=>by grind [cq]
      have f:=yM (w:=w) L B c;refine⟨_,cs,_,b,⟨by grind [pG],_,rfl,l.mono (λ_ _ h=>h) j⟩,?_⟩;have y:a.tmps.getD t undef=.pointer (some ⟨g,o,none⟩):=q;simp only[Gh,y,asAddr];exact f
    | _=>exact b.elim
   | _=>grind
def JU{ag:Option Nat}{cs:List C}{v:Value}{Y:af}(h:bC w S Y ag cs v):∃u,v.cells.toList=(List.range cs.length).map u/\cC w S Y cs u/\v=mkv ag u:=by
 obtain⟨a,u,rfl,b⟩:=h;refine⟨u,?_,b,rfl⟩;rw[re (λe=>by subst e;exact b.one (by simp at a;omega)),a]
theorem zR{d e:af}{cs a:List C}{u g:Nat->Value}(h:cC w S d cs u)(h':cC w S e a g)(p:∀b o,d b o->¬e b o) :
  cC w S (λb o=>d b o\/e b o) (cs++a) (λj=>if j<cs.length then u j else g (j - cs.length)):=by
 obtain⟨f,q,r,t⟩:=h;obtain⟨i,k,l,n⟩:=h';refine⟨λj=>if j<cs.length then f j else i (j - cs.length),λj c y=>?_,ψ,ψ⟩
 all_goals grind
theorem bm.resA(h:bm w0 M S0 N S φ F a w)(e:∀t i,TE t=some i->im P t i):∀{p:List ResultVar}{seen:List Nat}{K:List (Option Nat)->List C->Prop},resA TE F p seen K->
  ∃sh cs vs u,K sh cs/\(p.mapM (Gh a.tmps)).run P w=.ok vs w/\yO sh vs/\sh.length=p.length/\ya sh=cs.length/\
   (vs.flatMap λv=>v.cells.toList)=(List.range cs.length).map u/\(∀ag,sh=[ag]->∃v,vs=[v]/\bC w S (λb o=>∃t,t∉seen/\φ t b o) ag cs v)/\cC w S (λb o=>∃t,t∉seen/\φ t b o) cs u
 | [],seen,K,c=>⟨[],[],[],λ_=>undef,c,rfl,trivial,rfl,rfl,rfl,ψ,cC.nil _ _ _ _⟩
 | r::p,seen,K,c=>by
  simp only[Ab.resA]at c;cases d:seen.any (Nat.beq (rT r)) with
  | true=>grind
  | false=>
   rw[d]at c;simp only[cond_false]at c;have L:rT r∉seen:=λY=>by grind [Nat.beq_refl]
   obtain⟨ag,cs,v,c,q,G⟩:=h.resOne e c;obtain⟨sh,f,vs,O,Q,y,A,B,R,hcells,-,g⟩:=bm.resA h e c;obtain⟨u,D,H,k⟩:=JU q;have T:∀b o,φ (rT r) b o->¬∃t,t∉rT r::seen/\φ t b o:=λb o U ⟨t,Z,E⟩=>h.dis _ _ ψ b o U E
   refine⟨ag::sh,cs++f,v::vs,λj=>if j<cs.length then u j else O (j - cs.length),Q,?_,?_,by simp[B],?_,?_,?_,?_⟩
   ·simp_all
   ·obtain⟨V,-⟩:=q
    cases ag with
    | none=>
     refine⟨?_,A⟩;rw[k];have J:(u 0).oneCell'=true:=H.one (by simp at V;omega);show(u 0).cells = #[u 0];cases W:u 0<;>first|(rw[W]at J;cases J;done)|rfl
    | some n=>exact⟨⟨_,by rw[k];rfl,by simp⟩,A⟩
   ·rw[sA,X3,R,q.1]
   ·simp only[C7,D,hcells,X3]
    apply List.ext_getElem?
    grind
   ·intro X l
    simp only[List.cons.injEq]at l;obtain⟨rfl,rfl⟩:=l;cases vs with
    | cons _ _=>exact A.elim
    | nil=>
     have:f=[]:=X7 (by simp_all);subst this;exact⟨v,rfl,by rw[List.append_nil];exact q.mono (λ_ _ h=>h) ψ⟩
   exact(zR H g T).mono (λ_ _ h=>h) ψ
theorem BN:∀{A:List RA}{vs:List Value}(i:Nat),Ay w S A vs->∀t,(lay (Fa i A) t=.dead)\/(∃a v,i<=t/\vs[t - i]? = some v/\lay (Fa i A) t=UE a/\p8 w S a v)
 | [],_,i,_,t=>.inl rfl
 | a::A,[],i,h,t=>h.elim
 | a::A,v::vs,i,h,t=>by
  simp only[Fa,lay];cases b:Nat.beq t i with
  | true=>
   have:=W2 b;subst this;exact .inr ⟨a,v,V3 _,by simp,rfl,h.1⟩
  | false=>
   have c:t≠i:=λe=>by simp_all
   rcases BN (i+1) h.2 t with d|⟨f,g,d,j,k⟩
   all_goals grind
theorem p8.slot{A:RA}{v:Value}(h:p8 w S A v){tv:Nat->Value} : cK w S F tv NO (UE A) v:=by
 cases A with
 | val f a=>exact bC.slot h
 | ptr a=>obtain⟨g,b,u,c,d,e⟩:=h;exact⟨g,b,u,by rw[c,Nat.add_zero],d,e⟩
 | fn Ok=>exact h
def KA:∀{A:List RA}{vs:List Value},Ay w S A vs->A.length=vs.length
 | [],[],_=>rfl
 | _::_,_::_,h=>by simp[KA h.2]
 | [],_::_,h=>h.elim
 | _::_,[],h=>h.elim
theorem ME{D : Nat -> Array Oper -> ((Nat -> AV) -> Prop) -> (Nat -> AV) -> Prop}{f : Nat}{d : Func}{c : Code}{sh : Bool}{A : List RA}{k : Kd}{rcs : List C}(K : ∀t i, TE t = some i -> im P t i)(hf : P.funcs[f]? = some d)(hn : (d.name == "runtime.NumGoroutine") = false)(p:d.body=some c){ck:Nat->Array Oper->Bool}(hD:Fh P N ck D)(hc:ik ck c=true)(hN:A.length+(d.ntmps - A.length)=N.n)(hkp:N.kp=[])(U:sh=true\/g0 rcs)(hp:aw P TE N D c (QT TE d.results.toList k rcs) (lay (Fa 0 A))):am P f sh A k rcs:=by
 refine⟨⟨d,hf,hn,by rw[p];rfl⟩,λw S r hS hA=>?_⟩;have hlen:=KA hA;refine calls_of_wp hf p ?_;have V:St w NO S N (lay (Fa 0 A)) {tmps:=r.toArray++Array.replicate (d.ntmps - r.toArray.size) undef,defers:=[]} w:=by
  refine⟨S,λ_=>NO,λt=>?_,λ_ _ _ _ _ h=>h.elim,λ_ _ _ h=>h.elim,λ_ _ _ h=>h.elim,λ_ _ h=>h,ψ,Cb _ _,by simp;omega,rfl,ψ⟩;rcases BN 0 hA t with y|⟨A0,v,-,B,G,h4⟩
  ·rw[y];trivial
  rw[G];have hv:tvs {tmps:=r.toArray++Array.replicate (d.ntmps - r.toArray.size) undef,defers:=[]} t=v:=by
   have hlt:=(Z2.1 B).1;simp only[tvs,Z6]
   grind
  grind [p8.slot]
 refine km K hD c hc _ _ _ _ w hp V λe F' J g W Z=>?_
 obtain⟨S',φ',h⟩:=Z;have fin:resA TE F' d.results.toList [] (λsh L=>jo (kJ sh) k L rcs)->J.defers=[]/\∃v,(results d J.tmps).run P g=.ok v g/\(∃v',Ending.returned v=.returned v'/\bG NO w g/\∃X S1:af,(∀b o,X b o->b<g.heap.size/\w.heap.size<=b)/\
     (∀b o,S1 b o->(sh=true/\S b o)\/(b<g.heap.size/\w.heap.size<=b))/\(∀b o,X b o->¬S1 b o)/\gd g NO k rcs.length v'/\cC g S1 X rcs (cq g k v')):=by
  intro hr;obtain⟨shs,L,a,u,M,hrun,q,hln,R,hcells,l,O⟩:=h.resA K hr;obtain⟨rfl,hwk⟩:=M.out;refine⟨h.defers,?_⟩;have H:(results d J.tmps).run P g=.ok (if h:a.toArray.size=1 then a.toArray[0] else .tuple a.toArray) g:=by
   have e:results d J.tmps=(do let r <-d.results.mapM (Gh J.tmps);pure (if h:r.size=1 then r[0] else .tuple r)):=by
    unfold results
    congr 1
   rw[e,<-Array.toArray_toList (xs:=d.results),List.mapM_toArray]
   simp_all
  refine⟨_,H,_,rfl,h.old,λb o=>∃t,φ' t b o,λb o=>(sh=true/\S' b o)\/(S' b o/\w.heap.size<=b),λb o ⟨t,p⟩=>⟨(h.ex t b o p).1,(h.ex t b o p).2.resolve_right (λh=>h)⟩,λb o p=>?_,λb o ⟨t,p⟩ hb'=>h.disS t b o p ψ,?_⟩
  ·rcases p with⟨y,B⟩|⟨y,B⟩
   ·rcases(h.sup b o B).2 with G|G|G
    ·grind
    ·exact .inr ⟨(h.sup b o B).1,G⟩
    exact G.elim
   exact .inr ⟨(h.sup b o y).1,B⟩
  have Q:gd g NO (kJ shs) L.length (if h:a.toArray.size=1 then a.toArray[0] else .tuple a.toArray)/\cC g S' (λb o=>∃t,φ' t b o) L (cq g (kJ shs) (if h:a.toArray.size=1 then a.toArray[0] else .tuple a.toArray)):=by
   have E:∀b o,(∃t,t∉([]:List Nat)/\φ' t b o)->∃t,φ' t b o:=ψ
   match shs,q,l,R with
   | [],q,_,R=>
    cases a with
    | cons _ _=>exact q.elim
    | nil=>
     have:L=[]:=ψ
     subst this;exact⟨⟨_,rfl,trivial,rfl⟩,cC.nil _ _ _ _⟩
   | [T],_,l,_=>
    obtain⟨v,rfl,hv⟩:=l T rfl;have:=(hv.mono (λ_ _ h=>h) E).slot (F:=F') (tv:=tvs J);obtain⟨X1,Y,y,B,G,h4,h5⟩:=this;refine⟨?_,h5.mono (λ_ _ h=>h) B⟩;cases T<;>exact h4
   | T::ag2::sh,q,_,R=>
    have hsz:¬a.toArray.size=1:=by
     match a,q with
     | [],q=>simp
     | [v],q=>cases T<;>cases ag2<;>exact q.2.elim
     | _::_::_,_=>simp
    rw[dif_neg hsz];refine⟨⟨_,rfl,q,R⟩,(O.mono (λ_ _ h=>h) E).congr λj hj=>?_⟩;simp only[cq,kJ,nq,hcells];simp[List.getD,hj]
  replace Q:=CJ Q.1 (hwk.row Q.2);refine⟨by grind [WK.len],?_⟩;rcases U with y|y
  ·exact Q.2.mono ψ (λ_ _ h=>h)
  exact(Q.2.fresh y).mono (λ_ _ h=>h.elim) (λ_ _ h=>h)
 cases e with
 | normal=>exact fin W
 | ret=>exact fin W
 | _=>exact W.elim
end
def DF(P:Program)(TE:Nat->Option TI)(N:fo)(a:List (Nat × Nat × List Nat))(id:Nat)(ops:Array Oper)(K:(Nat->AV)->Prop)(F:Nat->AV):Prop:=
 match yE a (id+1048576) with
 | some (t,offs)=>tM t offs (DD P TE N a id ops K) F
 | none=>DD P TE N a id ops K F
variable{P:Program}
def yb{TE:Nat->Option TI}(a:∀t i,TE t=some i->im P t i)(e:P.follows .mixedOrders=true)(N:fo)(f:List (Nat × Nat × List Nat)):Fh P N (pY f) (DF P TE N f):=
 λ_ _ b _ _ _ _ _ _ _ _ c g h=>by
  unfold DF at c;split at c
  ·obtain⟨k,j,d⟩:=yr c g
   exact z6 a e b j d h
  exact z6 a e b c g h
def zI:C:=.v (.int .i64 0)
def Kl:List (Nat × Nat × TI)->Nat->Option TI
 | [],_=>none
 | p::l,t=>bif Nat.beq t p.1 || Nat.beq t p.2.1 then some p.2.2 else Kl l t
def Tf(P:Program):List (Nat × Nat × TI)->Prop
 | []=>True
 | p::l=>(im P p.1 p.2.2/\im P p.2.1 p.2.2)/\Tf P l
def HA{P:Program} : ∀{l:List (Nat × Nat × TI)},Tf P l->∀t i,Kl l t=some i->im P t i
 | [],_,t,i,h=>by cases h
 | p::l,b,t,i,h=>by
  simp only[Kl]at h;cases a:(Nat.beq t p.1 || Nat.beq t p.2.1) with
  | true=>
   rw[a]at h;simp only[cond_true,C1]at h;subst h;simp only[W6]at a;rcases a with e|e
   ·rw[W2 e];exact b.1.1
   rw[W2 e];exact b.1.2
  | false=>rw[a]at h;exact HA b.2 t i h
def U2:TypeDesc->Prop
 | .struct _=>False
 | .array _ _=>False
 | _=>True
def Ve:TypeDesc->Option (List (Nat × Nat))
 | .struct fs=>some (fs.toList.map (λf=>(f.offset,f.type)))
 | _=>none
section
variable{P:Program}{t e:Nat}{i:TI}
def Vf{d:TypeDesc}(k:i.kind=.sc d:=by rfl)(h:P.underlying t=some d:=by kernel_rfl)(a:(P.info? t).map (λx=>(x.zero.map (·.cells.toList),x.size,x.bytes))=some (some (i.zero.map cval),i.size,i.bytes):=by kernel_rfl)(z:kI i.zero:=by repeat' first|exact trivial|refine CJ rfl ?_)(n:U2 d:=by trivial):im P t i:=⟨a,z,by rw[k];refine⟨h,?_⟩;revert n;cases d<;>exact id⟩
def Va(k:i.kind=.sl e:=by rfl)(h:P.underlying t=some (.slice e):=by kernel_rfl)(a:(P.info? t).map (λx=>(x.zero.map (·.cells.toList),x.size,x.bytes))=some (some (i.zero.map cval),i.size,i.bytes):=by kernel_rfl)(z:kI i.zero:=by repeat' first|exact trivial|refine CJ rfl ?_):im P t i:=⟨a,z,by rw[k];exact h⟩
def Vd{f:List (Nat × Nat)}(k:i.kind=.st f:=by rfl)(h:(P.underlying t).bind Ve=some f:=by kernel_rfl)(a:(P.info? t).map (λx=>(x.zero.map (·.cells.toList),x.size,x.bytes))=some (some (i.zero.map cval),i.size,i.bytes):=by kernel_rfl)(z:kI i.zero:=by repeat' first|exact trivial|refine CJ rfl ?_):im P t i:=⟨a,z,by
  rw[k];obtain⟨d,b,c⟩:=Option.bind_eq_some_iff.1 h;cases d<;>cases c
  exact⟨_,b,rfl⟩⟩
def UZ{v:Value}(k:i.kind=.mp 3 e v:=by rfl)(h:P.underlying t=some (.map 3 e):=by kernel_rfl)(d:P.underlying 3=some (.int .i64):=by kernel_rfl)(a:(P.info? t).map (λx=>(x.zero.map (·.cells.toList),x.size,x.bytes))=some (some (i.zero.map cval),i.size,i.bytes):=by kernel_rfl)(z:kI i.zero:=by repeat' first|exact trivial|refine CJ rfl ?_)(b:(P.info? e).bind (·.zero)=some v:=by kernel_rfl)(c:v.oneCell'=true:=by rfl):im P t i:=⟨a,z,by rw[k];exact⟨h,d,b,c⟩⟩
end
def tab:List (Nat × Nat × TI):=[(3,2,⟨1,8,[zI],.sc (.int .i64)⟩),(4,4,⟨1,1,[.v (.bool false)],.sc .bool⟩),(5,6,⟨1,1,[.v (.int .u8 0)],.sc (.int .u8)⟩),(7,8,⟨4,24,[zI,zI,.v (.bool false),.v (.int .u8 0)],.st [(0,2),(1,3),(2,4),(3,6)]⟩),(9,10,⟨1,16,[.v (.string ⟨#[]⟩)],.sc .string⟩),(11,11,⟨1,16,[.v (.string ⟨#[]⟩)],.sc .string⟩),(12,304,⟨1,8,[.v (.int .u64 0)],.sc (.int .u64)⟩),(13,14,⟨2,24,[.v (.string ⟨#[]⟩),.v (.int .u64 0)],.st [(0,9),(1,12)]⟩),(21,535,⟨1,4,[.v (.int .i32 0)],.sc (.int .i32)⟩),(22,22,⟨1,24,[.z],.sl 5⟩),(24,24,⟨1,24,[.z],.sl 33⟩),(25,25,⟨1,24,[.z],.sl 4⟩),(26,27,⟨2,48,[.z,.z],.st [(0,24),(1,25)]⟩),(28,28,⟨1,24,[.z],.sl 82⟩),(29,30,⟨1,24,[.z],.st [(0,28)]⟩),(31,32,⟨3,72,[.z,.z,.z],.st [(0,27),(2,30)]⟩),(33,33,⟨1,24,[.z],.sl 3⟩),(34,35,⟨5,104,[.z,.z,.z,zI,.z],.st [(0,32),(3,3),(4,33)]⟩),(36,36,⟨1,24,[.z],.sl 180⟩),(37,37,⟨1,24,[.z],.sl 267⟩),(38,38,⟨1,24,[.z],.sl 175⟩),(39,39,⟨1,24,[.z],.sl 74⟩),(40,40,⟨1,24,[.z],.sl 158⟩),(41,41,⟨1,24,[.z],.sl 192⟩),(42,43,⟨2,48,[.z,.z],.st [(0,41),(1,24)]⟩),(44,44,⟨1,24,[.z],.sl 190⟩),(45,46,⟨2,32,[zI,.z],.st [(0,3),(1,44)]⟩),(47,48,⟨3,40,[zI,zI,.z],.st [(0,3),(1,3),(2,33)]⟩),(49,50,⟨5,56,[zI,zI,.z,zI,zI],.st [(0,48),(3,3),(4,3)]⟩),(51,52,⟨24,400,[.z,.z,.z,zI,.z,.z,.z,.z,.z,.z,.z,.z,zI,.z,zI,zI,zI,zI,.v (.bool false),zI,zI,.z,zI,zI],.st [(0,35),(5,36),(6,37),(7,38),(8,39),(9,40),(10,43),(12,46),(14,3),(15,3),(16,3),(17,3),(18,4),(19,50)]⟩),(53,53,⟨1,24,[.z],.sl 325⟩),(54,55,⟨2,32,[zI,.z],.st [(0,3),(1,53)]⟩),(56,57,⟨26,432,[.z,.z,.z,zI,.z,.z,.z,.z,.z,.z,.z,.z,zI,.z,zI,zI,zI,zI,.v (.bool false),zI,zI,.z,zI,zI,zI,.z],.st [(0,52),(24,55)]⟩),(73,74,⟨4,32,[zI,zI,zI,zI],.st [(0,3),(1,3),(2,3),(3,3)]⟩),(77,77,⟨1,24,[.z],.sl 168⟩),(81,82,⟨2,16,[zI,zI],.st [(0,3),(1,3)]⟩),(86,87,⟨5,56,[zI,zI,zI,zI,.z],.st [(0,3),(1,3),(2,3),(3,3),(4,33)]⟩),(88,88,⟨1,24,[.z],.sl 199⟩),(97,97,⟨2,48,[.z,.z],.st [(0,24),(1,25)]⟩),(98,98,⟨1,24,[.z],.sl 515⟩),(99,100,⟨1,24,[.z],.st [(0,98)]⟩),(101,102,⟨3,72,[.z,.z,.z],.st [(0,97),(2,100)]⟩),(103,104,⟨5,104,[.z,.z,.z,zI,.z],.st [(0,102),(3,3),(4,33)]⟩),(105,105,⟨1,24,[.z],.sl 343⟩),(106,106,⟨1,24,[.z],.sl 345⟩),(107,107,⟨1,24,[.z],.sl 347⟩),(108,108,⟨1,24,[.z],.sl 349⟩),(109,109,⟨1,24,[.z],.sl 336⟩),(110,110,⟨1,24,[.z],.sl 436⟩),(111,112,⟨2,48,[.z,.z],.st [(0,110),(1,24)]⟩),(113,113,⟨1,24,[.z],.sl 441⟩),(114,115,⟨2,32,[zI,.z],.st [(0,3),(1,113)]⟩),(116,116,⟨3,40,[zI,zI,.z],.st [(0,3),(1,3),(2,33)]⟩),(117,118,⟨5,56,[zI,zI,.z,zI,zI],.st [(0,116),(3,3),(4,3)]⟩),(119,120,⟨24,400,[.z,.z,.z,zI,.z,.z,.z,.z,.z,.z,.z,.z,zI,.z,zI,zI,zI,zI,.v (.bool false),zI,zI,.z,zI,zI],.st [(0,104),(5,105),(6,106),(7,107),(8,108),(9,109),(10,112),(12,115),(14,3),(15,3),(16,3),(17,3),(18,4),(19,118)]⟩),(126,126,⟨5,56,[zI,zI,zI,zI,.z],.st [(0,3),(1,3),(2,3),(3,3),(4,33)]⟩),(127,127,⟨1,24,[.z],.sl 254⟩),(157,158,⟨1,24,[.z],.st [(0,24)]⟩),(167,168,⟨3,24,[zI,zI,zI],.st [(0,3),(1,3),(2,3)]⟩),(174,175,⟨3,24,[zI,zI,zI],.st [(0,3),(1,3),(2,3)]⟩),(179,180,⟨2,16,[zI,zI],.st [(0,3),(1,3)]⟩),(185,186,⟨2,16,[zI,zI],.st [(0,3),(1,3)]⟩),(189,190,⟨3,24,[zI,zI,zI],.st [(0,3),(1,3),(2,3)]⟩),(192,192,⟨1,24,[.z],.sl 186⟩),(198,199,⟨5,40,[zI,zI,zI,zI,zI],.st [(0,3),(1,3),(2,3),(3,3),(4,3)]⟩),(210,211,⟨8,64,[zI,zI,zI,zI,zI,zI,zI,zI],.st [(0,3),(1,3),(2,3),(3,3),(4,3),(5,3),(6,3),(7,3)]⟩),(254,254,⟨5,40,[zI,zI,zI,zI,zI],.st [(0,3),(1,3),(2,3),(3,3),(4,3)]⟩),(256,257,⟨3,40,[.z,zI,zI],.st [(0,22),(1,3),(2,3)]⟩),(266,267,⟨3,24,[zI,zI,zI],.st [(0,3),(1,3),(2,3)]⟩),(281,281,⟨1,8,[.v (.map none)],.mp 3 4 (.bool false)⟩),(289,290,⟨4,32,[zI,zI,zI,zI],.st [(0,3),(1,3),(2,3),(3,3)]⟩),(292,292,⟨1,8,[.v (.map none)],.mp 3 3 (.int .i64 0)⟩),(324,325,⟨2,32,[zI,.z],.st [(0,3),(1,33)]⟩),(336,336,⟨1,24,[.z],.st [(0,24)]⟩),(343,403,⟨2,16,[zI,zI],.st [(0,3),(1,3)]⟩),(345,347,⟨3,24,[zI,zI,zI],.st [(0,3),(1,3),(2,3)]⟩),(349,349,⟨4,32,[zI,zI,zI,zI],.st [(0,3),(1,3),(2,3),(3,3)]⟩),(398,398,⟨1,24,[.z],.sl 404⟩),(404,491,⟨2,16,[zI,zI],.st [(0,3),(1,3)]⟩),(408,408,⟨1,8,[zI],.sc (.int .i64)⟩),(415,415,⟨1,4,[.v (.int .u32 0)],.sc (.int .u32)⟩),(417,470,⟨1,8,[.v (.int .u64 0)],.sc (.int .u64)⟩),(436,436,⟨1,24,[.z],.sl 491⟩),(441,441,⟨3,24,[zI,zI,zI],.st [(0,3),(1,3),(2,3)]⟩),(515,515,⟨2,16,[zI,zI],.st [(0,3),(1,3)]⟩),(528,529,⟨0,0,[],.st [(0,527)]⟩),(531,532,⟨1,1,[.v (.int .u8 0)],.sc (.int .u8)⟩),(536,536,⟨1,4,[.v (.int .i32 0)],.sc (.int .i32)⟩)]
abbrev zzA:=am Tryz.prog
abbrev zzB:=aW Tryz.prog
set_option maxRecDepth 100000 in
def Tv:Tf Tryz.prog tab:=by repeat' first|exact trivial|refine CJ (CJ ?_ ?_) ?_|exact Va|exact Vd|exact Vf|exact UZ
def TE:Nat->Option TI:=Kl tab
def rp:∀t i,TE t=some i->im Tryz.prog t i:=HA Tv
def TA:C->Value->C
 | .s .own rows,v=>.s (.tag v) rows
 | c,_=>c
def AA(u:Nat->Value):Nat->List C->List C
 | _,[]=>[]
 | j,c::cs=>TA c (u j)::AA u (j+1) cs
def zn(u:Nat->Nat->Value):Nat->List MA->List (Nat × AV)
 | _,[]=>[]
 | i,.val a cs::A=>(i,.G (ml a) cs)::zn u (i+1) A
 | i,.mut a cs::A=>(i,.G (ml a) (AA (u i) 0 cs))::zn u (i+1) A
 | i,.ptr cs::A=>(i,.G .box cs)::zn u (i+1) A
def Kh(p:Nat->Value):Nat->List MA->List (Nat × Value)
 | _,[]=>[]
 | i,.ptr _::A=>(i,p i)::Kh p (i+1) A
 | i,_::A=>Kh p (i+1) A
def Ho:Nat->List MA->List (Nat × Nat)->List (Option Nat)
 | i,.val _ _::A,_::pl=>none::Ho (i+1) A pl
 | i,.mut _ _::A,p::pl=>some p.1::Ho (i+1) A pl
 | i,.ptr _::A,_::pl=>some i::Ho (i+1) A pl
 | _,_,_=>[]
def JO:List (Option Nat)->Bool
 | []=>true
 | none::l=>JO l
 | some t::l=>l.all (λx=>match x with|some a=>!Nat.beq t a|none=>true)&&JO l
def sles:List (Option Nat)->List Nat
 | []=>[]
 | none::l=>sles l
 | some t::l=>t::sles l
def UF(v:Value)(c y o:C):Prop:=
 match c with
 | .s .own _=>(match y with|.s (.tag v') rows=>v'=v/\o=.s .own rows|_=>False)
 | .s (.tag _) _=>False
 | .m _=>False
 | .it _ _=>False
 | c=>o=c
def RO(u:Nat->Value):Nat->List C->List C->List C->Prop
 | _,[],_,o=>o=[]
 | j,c::cs,y::xs,o::os=>UF (u j) c y o/\RO u (j+1) cs xs os
 | _,_,_,_=>False
def iW(u:Nat->Nat->Value)(F:Nat->AV):Nat->List MA->List (Nat × Nat)->List MA->Prop
 | _,[],_,[]=>True
 | i,.val _ _::A,_::pl,.val _ _::B=>iW u F (i+1) A pl B
 | i,.mut ag cs::A,p::pl,.mut a out::B=>(a=ag/\match F p.1 with|.G _ xs=>RO (u i) 0 cs (xs.drop p.2) out|_=>False)/\iW u F (i+1) A pl B
 | i,.ptr _::A,_::pl,.ptr out::B=>(match F i with|.G .box xs=>xs=out|_=>False)/\iW u F (i+1) A pl B
 | _,_,_,_=>False
inductive bc(k k':Kd)(cs cs':List C)(Q:Prop):Prop
 |mk_ (h:k=k'/\cs=cs'/\Q)
theorem bc.mk{b:Kd}{Q:Prop}(h1:k=b)(c:cs=a)(d:Q):bc k b cs a Q:=by refine .mk_ ?_;grind
def CH:type_of% @bc.mk:=@bc.mk
def bc.out{b:Kd}{Q:Prop}(h:bc k b cs a Q):k=b/\cs=a/\Q:=by obtain⟨h⟩:=h;exact h
def RT(TE:Nat->Option TI)(d:List ResultVar)(k:Kd)(rcs:List C)(u:Nat->Nat->Value)(A B:List MA)(a:List (Nat × Nat)):Exit->(Nat->AV)->Prop:=λe F=>
 match e with
 | .normal=>resA TE F d (sles (Ho 0 A a)) λb c=>bc (kJ b) k c rcs (iW u F 0 A a B)
 | .ret=>resA TE F d (sles (Ho 0 A a)) λb c=>bc (kJ b) k c rcs (iW u F 0 A a B)
 | _=>False
section
variable{P:Program}{w0 w w1:World}{M S0 S:af}{N:fo}{φ:Nat->af}{F:Nat->AV}{a:Act}{TE:Nat->Option TI}
theorem dN.tag{Y:af}{c:C}{v:Value}(h:dN w S Y c v):dN w S Y (TA c v) v:=by
 cases h with
 | nil _ o a B=>cases o with
  | own=>exact .nil _ _ _ rfl
  | _=>exact .nil _ _ _ B
 | own _ o g k n l e u f B D E i p t K L M y=>cases o with
  | own=>exact .own _ _ g k n l e u f rfl D E i p t K L M y
  | S=>exact B.elim
  | tag z=>exact .own _ _ g k n l e u f B D E i p t K L M y
 | v _ x F=>exact .v _ _ F
 | x _ u F=>exact .x _ _ F
 | z _ a=>exact .z _ _
 | S _ g G k n l e u D E i N y=>exact .S _ g G k n l e u D E i N y
 | m _ b d O j t H P J q=>exact .m _ b d O j t H P J q
 | it _ r b since Q d seen j cur left t R H q y J T A=>exact .it _ r b since Q d seen j cur left t R H q y J T A
def dN.untag{Y:af}{z v:Value}{rows:List (List C)}(h:dN w S Y (.s (.tag z) rows) v):v=z/\dN w S Y (.s .own rows) v:=by
 cases h with
 | nil _ o a d=>exact⟨Eq.symm d,.nil _ _ _ trivial⟩
 | own _ o g k n e rows u f d i j b c l p q r t=>exact⟨Eq.symm d,.own _ _ g k n e rows u f trivial i j b c l p q r t⟩
theorem qi(u:Nat->Value):∀(j:Nat)(cs:List C),(AA u j cs).length=cs.length
 | _,[]=>rfl
 | j,c::cs=>by simp[AA,qi u (j+1) cs]
theorem GU(u:Nat->Value):∀(a:Nat)(cs:List C)(j:Nat),(AA u a cs)[j]? = (cs[j]?).map λc=>TA c (u (a+j))
 | _,[],j=>by simp[AA]
 | a,c::cs,0=>by simp[AA]
 | a,c::cs,j+1=>by simp only[AA,List.getElem?_cons_succ];rw[GU u (a+1) cs j,show a+1+j=a+(j+1) by omega]
variable{u:Nat->Value}
theorem cC.tag{Y:af}{cs:List C}(h:cC w S Y cs u):cC w S Y (AA u 0 cs) u:=by
 obtain⟨f,i,b,d⟩:=h;refine⟨f,λj c a=>?_,λj a=>b j (by grind [qi]),λj e a g=>d j e (by grind [qi]) (by grind [qi])⟩
 grind [GU,dN.tag]
def celF(v:Value)(j:Nat):Value:=v.cells.toList.getD j undef
def bC.celF{Y:af}{ag:Option Nat}{cs:List C}{v:Value}(h:bC w S Y ag cs v):cs.length=ag.getD 1/\v=mkv ag (celF v)/\cC w S Y cs (celF v):=by
 obtain⟨b,u,c,d⟩:=h;have g:=re (ag:=ag) (u:=u) (λe=>by subst e;exact d.one (by simp at b;omega));have f:∀j,j<ag.getD 1->Ab.celF v j=u j:=λj a=>by
  unfold Ab.celF;rw[c,g];simp[List.getD,a]
 exact⟨b,c.trans (jT λj a=>(f j a).symm),d.congr λj a=>f j ω⟩
def RN(u:Nat->Nat->Value)(i:Nat):MA->AV
 | .val a cs=>.G (ml a) cs
 | .mut a cs=>.G (ml a) (AA (u i) 0 cs)
 | .ptr cs=>.G .box cs
theorem BT{u:Nat->Nat->Value} : ∀{A:List MA}{vs:List Value}{V:Nat->af}(i:Nat),MV w S V A vs->∀t,(lay (zn u i A) t=.dead)\/(∃m v,i<=t/\vs[t - i]? = some v/\A[t - i]? = some m/\lay (zn u i A) t=RN u t m/\rh w S (V (t - i)) m v)
 | [],_,_,i,_,t=>.inl rfl
 | m::A,[],_,i,h,t=>h.elim
 | m::A,v::vs,V,i,h,t=>by
  have b:lay (zn u i (m::A)) t=bif Nat.beq t i then RN u i m else lay (zn u (i+1) A) t:=by cases m<;>rfl
  rw[b];cases c:Nat.beq t i with
  | true=>
   have:=W2 c;subst this;exact .inr ⟨m,v,V3 _,by simp,by simp,rfl,by rw[Nat.sub_self];exact h.1⟩
  | false=>
   have d:t≠i:=λe=>by simp_all
   rcases BT (i+1) h.2 t with a|⟨f,g,a,j,k,l,n⟩
   ·exact .inl a
   grind
def KQ:∀{A:List MA}{vs:List Value}{V:Nat->af},MV w S V A vs->A.length=vs.length
 | [],[],_,_=>rfl
 | _::_,_::_,_,h=>by simp[KQ h.2]
 | [],_::_,_,h=>h.elim
 | _::_,[],_,h=>h.elim
theorem Kp{p:Nat->Value} : ∀{A:List MA}{i:Nat}{q:Nat × Value},q∈Kh p i A->i<=q.1/\q.1<i+A.length/\q.2=p q.1
 | [],_,_,h=>by simp[Kh]at h
 | m::A,i,q,h=>by
  have a:q∈Kh p (i+1) A->i<=q.1/\q.1<i+(m::A).length/\q.2=p q.1:=λh=>by
   obtain⟨b,c,d⟩:=Kp h
   grind
  cases m with
  | ptr e=>
   rcases List.mem_cons.1 h with rfl|h
   all_goals grind
  | val=>exact a h
  | «mut»=>exact a h
theorem Km{p:Nat->Value} : ∀{A:List MA}{i n:Nat}{cs:List C},A[n]? = some (.ptr cs)->(i+n,p (i+n))∈Kh p i A
 | [],_,n,_,h=>by simp at h
 | m::A,i,0,cs,h=>by grind [Kh]
 | m::A,i,n+1,cs,h=>by
  have a:=Km (p:=p) (i:=i+1) (show A[n]? = some (.ptr cs) by simpa using h);rw[show i+1+n=i+(n+1) by omega]at a;cases m with
  | ptr cs=>exact V5 _ a
  | val=>exact a
  | «mut»=>exact a
def T9(φ:Nat->af):Option (Option Nat)->af
 | some (some t)=>φ t
 | _=>NO
theorem Fb{u:Nat->Value} : ∀{b:Nat}{cs xs a:List C},RO u b cs xs a->cs.length=a.length/\∀(j:Nat)(c o:C),cs[j]? = some c->a[j]? = some o->∃y,(eP c=true->xs[j]? = some y)/\UF (u (b+j)) c y o
 | _,[],xs,a,h=>by grind [RO]
 | _,_::_,[],_,h=>by grind [RO]
 | _,_::_,_::_,[],h=>by grind [RO]
 | b,d::cs,e::xs,f::a,h=>by
  simp only[RO]at h;obtain⟨g,i⟩:=Fb h.2
  grind
theorem Pb{S' Y r:af}{E:Nat->Value}{cs xs t:List C}{off:Nat}(g:bv S w w1)(l:∀b o,S b o->S' b o)(h:cC w S Y cs u)(h':cC w1 S' r xs E)(F:RO u 0 cs (xs.drop off) t):cC w1 S' r t u:=by
 obtain⟨f,G,O,P⟩:=h;obtain⟨A,n,H,J⟩:=h';obtain⟨Q,K⟩:=Fb F;refine⟨λj b o=>off+j<xs.length/\A (off+j) b o,λj c B=>?_,ψ,ψ⟩;have L:=(Z2.1 B).1;have i:cs[j]? = some cs[j]:=ψ
 obtain⟨y,k,a⟩:=K j _ c i B;rw[O7]at a;have d:=G j _ i;generalize cs[j]=p at i a d k;have keep:eP p=false->c=p->dN w1 S' (λb o=>off+j<xs.length/\A (off+j) b o) c (u j):=λM e=>by
  subst e;exact((d.bare (F':=NO) M).keep g (λ_ _ h=>h.elim)).mono l (λ_ _ h=>h.elim)
 cases p with
 | v R=>exact keep rfl a
 | x=>exact keep rfl a
 | z=>exact keep rfl a
 | m T=>exact a.elim
 | it=>exact a.elim
 | s o D=>
  cases o with
  | S=>exact keep rfl a
  | tag z=>exact a.elim
  | own=>
   have k:=k rfl;rw[List.getElem?_drop]at k;have N:=(Z2.1 k).1;simp only[UF]at a;split at a
   case h_2=>exact a.elim
   rename_i U q;obtain⟨rfl,rfl⟩:=a;obtain⟨V,W⟩:=(n _ _ k).untag
   simp_all
theorem bm.backs{C:World}{S':af}{u:Nat->Nat->Value}(h:bm w0 M S0 N S' φ F a C)(d:bv S w C)(f:∀b o,S b o->S' b o):∀{A:List MA}{g:List (Nat × Nat)}{B:List MA}{vs:List Value}{V:Nat->af}{i:Nat},MV w S V A vs->
  (∀j v,vs[j]? = some v->u (i+j)=celF v)->(∀j v cs,vs[j]? = some v->A[j]? = some (.ptr cs)->tvs a (i+j)=v)->iW u F i A g B->E5 C S' (λn=>T9 φ (Ho i A g)[n]?) B vs
 | [],g,B,vs,V,i,l,r,t,c=>by
  cases vs with
  | cons _ _=>exact l.elim
  | nil=>cases B with
   | nil=>trivial
   | cons _ _=>grind [iW]
 | m::A,[],B,vs,V,i,l,r,t,c=>by grind [iW]
 | m::A,p::g,[],vs,V,i,l,r,t,c=>by grind [iW]
 | m::A,p::g,D::B,[],V,i,l,r,t,c=>l.elim
 | m::A,p::g,D::B,v::vs,V,i,l,r,t,c=>by
  have next:iW u F (i+1) A g B->E5 C S' (λn=>T9 φ (Ho (i+1) A g)[n]?) B vs:=λc=>
   bm.backs h d f l.2 (λj v T=>by rw[show i+1+j=i+(j+1) by omega];simp_all)
    (λj v cs T X=>by rw[show i+1+j=i+(j+1) by omega];simp_all) c
  cases m with
  | val U cs=>
   cases D with
   | val y W=>simp only[iW]at c;exact⟨trivial,next c⟩
   | ptr=>grind [iW]
   | «mut»=>grind [iW]
  | «mut» U cs=>
   cases D with
   | val=>grind [iW]
   | ptr=>grind [iW]
   | «mut» y out=>
    simp only[iW]at c;obtain⟨⟨rfl,e⟩,G⟩:=c;refine⟨?_,next G⟩;have E:=bC.celF (show bC w S (V 0) y cs v from l.1);have H:u i=celF v:=r 0 v (by simp);have q:=h.slot p.1;cases J:F p.1 with
    | G k xs=>
     rw[J]at e q;simp only at e;rw[H]at e;obtain⟨O,Y,P,K,Q,R,L⟩:=q;refine⟨by grind [Fb],celF v,E.2.1,?_⟩;exact(Pb d f E.2.2 L e).mono (λ_ _ h=>h) (λb o c=>by simpa[Ho,T9] using K b o c)
    | _=>grind
  | ptr cs=>
   cases D with
   | val=>grind [iW]
   | «mut»=>grind [iW]
   | ptr out=>
    simp only[iW]at c;refine⟨?_,next c.2⟩;have E:tvs a i=v:=t 0 v cs (by simp) (by simp);have q:=h.slot i;cases J:F i with
    | G k xs=>
     cases k with
     | box=>
      rw[J]at c q;have:=c.1;simp only at this;subst this;rw[E]at q;obtain⟨O,Y,P,K,Q,R,L⟩:=q;exact⟨O,Y,λb o c=>by simpa[Ho,T9] using P b o c,λb o c=>by simpa[Ho,T9] using K b o c,Q,R,L⟩
     | _=>grind
    | _=>grind
theorem vQ:∀{l:List (Option Nat)},JO l=true->∀(i a t c:Nat),i≠a->l[i]? = some (some t)->l[a]? = some (some c)->t≠c
 | [],_,i,a,t,c,_,h,_=>by simp at h
 | none::l,b,i,a,t,c,f,h,d=>by
  cases i with
  | zero=>simp at h
  | succ i=>cases a with
   | zero=>simp at d
   | succ a=>exact vQ (l:=l) b i a t c ω (by simpa using h) (by simpa using d)
 | some g::l,b,i,a,t,c,f,h,d=>by
  simp only[JO,I0]at b;have k:∀(n s:Nat),l[n]? = some (some s)->g≠s:=λn s j e=>by
   have:=C4.1 b.1 _ (O2 j)
   simp_all
  cases i with
  | zero=>
   grind
  | succ i=>cases a with
   | zero=>grind
   | succ a=>exact vQ b.2 i a t c ω (by simpa using h) (by simpa using d)
theorem yg:∀{l:List (Option Nat)}{i t:Nat},l[i]? = some (some t)->t∈sles l
 | [],i,t,h=>by simp at h
 | none::l,i,t,h=>by
  cases i with
  | zero=>simp at h
  | succ i=>exact yg (l:=l) (i:=i) (by simpa using h)
 | some a::l,i,t,h=>by
  cases i with
  | zero=>grind [sles]
  | succ i=>exact V5 _ (yg (l:=l) (i:=i) (by simpa using h))
theorem xI{φ:Nat->af}{x:Option (Option Nat)}{b o:Nat}(h:T9 φ x b o):∃t,x=some (some t)/\φ t b o:=by
 match x,h with
 | some (some t),h=>exact⟨t,rfl,h⟩
 | some none,h=>exact h.elim
 | none,h=>exact h.elim
theorem MP{f : Nat}{y : Func}{c : Code}{sh : Bool}{A B : List MA}{k : Kd}{rcs : List C}{mo : List (Nat × List Nat)}{n : Nat}(O : List (Nat × Nat))(hTE : ∀t i, TE t = some i -> im P t i)(hf : P.funcs[f]? = some y)(hn : (y.name == "runtime.NumGoroutine") = false)(d:y.body=some c){ck:Nat->Array Oper->Bool}{D:fo->Nat->Array Oper->((Nat->AV)->Prop)->(Nat->AV)->Prop}(hD:∀N,Fh P N ck (D N))(hc:ik ck c=true)(hN:A.length+(y.ntmps - A.length)=n)(hok:JO (Ho 0 A O)=true)(hsh:sh=true\/g0 rcs)(hp:∀(u:Nat->Nat->Value)(p:Nat->Value),aw P TE ⟨n,Kh p 0 A,mo⟩ (D ⟨n,Kh p 0 A,mo⟩) c (RT TE y.results.toList k rcs u A B O) (lay (zn u 0 A))):aW P f sh A B k rcs:=by
 refine⟨⟨y,hf,hn,by rw[d];rfl⟩,λw S V E hS hV hVd hA=>?_⟩;have hlen:=KQ hA;refine calls_of_wp hf d ?_
 let u:Nat->Nat->Value:=λi=>celF (E.getD i undef)
 let p:Nat->Value:=λi=>E.getD i undef
 have htv:∀t v,E[t]? = some v->tvs {tmps:=E.toArray++Array.replicate (y.ntmps - E.toArray.size) undef,defers:=[]} t=v:=λt v r=>by
  have Q:=(Z2.1 r).1;simp only[tvs,Z6]
  grind
 have hst:St w (λb o=>∃i,V i b o) S ⟨n,Kh p 0 A,mo⟩ (lay (zn u 0 A)) {tmps:=E.toArray++Array.replicate (y.ntmps - E.toArray.size) undef,defers:=[]} w:=by
  refine⟨S,V,λt=>?_,hVd,ψ,ψ,λ_ _ h=>h,ψ,Cb _ _,by simp;omega,rfl,λq hq=>?_⟩
  ·rcases BT (u:=u) 0 hA t with J|⟨m,v,-,r,h2',K,U⟩
   ·rw[J];trivial
   rw[K];rw[Nat.sub_zero]at r U;rw[htv t v r];have hu:u t=celF v:=ψ
   cases m with
   | val M G=>exact(bC.mono (show bC w S NO M G v from U) (λ_ _ h=>h) (λ_ _ h=>h.elim)).slot
   | «mut» M G=>
    obtain⟨e1,e2,e3⟩:=bC.celF (show bC w S (V t) M G v from U);refine bC.slot ⟨by grind [qi],celF v,e2,?_⟩
    grind [cC.tag]
   | ptr G=>exact U
  obtain⟨-,J,r⟩:=Kp hq
  grind
 refine km hTE (hD _) c hc _ _ _ _ w (hp u p) hst λe F' W l he hs'=>?_
 obtain⟨S',φ',h⟩:=hs';have fin:resA TE F' y.results.toList (sles (Ho 0 A O)) (λsh G=>bc (kJ sh) k G rcs (iW u F' 0 A O B))->W.defers=[]/\∃v,(results y W.tmps).run P l=.ok v l/\(∃v',Ending.returned v=.returned v'/\bG (λb o=>∃i,V i b o) w l/\∃(X:af)(Z:Nat->af)(S1:af),
     (∀b o,X b o->(∃i,V i b o)\/(b<l.heap.size/\w.heap.size<=b))/\(∀i b o,Z i b o->(∃i,V i b o)\/(b<l.heap.size/\w.heap.size<=b))/\
     (∀b o,S1 b o->(sh=true/\S b o)\/(∃i,V i b o)\/(b<l.heap.size/\w.heap.size<=b))/\
     (∀i i',i≠i'->∀b o,Z i b o->¬Z i' b o)/\(∀i b o,X b o->¬Z i b o)/\(∀b o,X b o->¬S1 b o)/\(∀i b o,Z i b o->¬S1 b o)/\
     gd l NO k rcs.length v'/\cC l S1 X rcs (cq l k v')/\E5 l (λb o=>S b o\/S1 b o) Z B E):=by
  intro hr;obtain⟨shs,G,a,u',hfin,hrun,L,hln,hL,hcells,H,hrow⟩:=h.resA hTE hr;obtain⟨rfl,rfl,R⟩:=hfin.out;refine⟨h.defers,?_⟩;have T:(results y W.tmps).run P l=.ok (if h:a.toArray.size=1 then a.toArray[0] else .tuple a.toArray) l:=by
   have e:results y W.tmps=(do let E <-y.results.mapM (Gh W.tmps);pure (if h:E.size=1 then E[0] else .tuple E)):=by
    unfold results
    congr 1
   rw[e,<-Array.toArray_toList (xs:=y.results),List.mapM_toArray]
   simp_all
  have hex:∀t b o,φ' t b o->(∃i,V i b o)\/(b<l.heap.size/\w.heap.size<=b):=λt b o d=>(h.ex t b o d).2.elim (λh'=>.inr ⟨(h.ex t b o d).1,h'⟩) .inl
  have hsameS:bv S w l:=λb o d=>by
   have Q:=hS b o d;exact⟨h.old.cel b o Q ψ,h.old.fro b o Q ψ⟩
  have hm:=h.backs (u:=u) hsameS h.sub hA ψ (λj v G hj hc=>by
    have:=h.par _ (Km (p:=p) (i:=0) hc)
    grind) R
  refine⟨_,T,_,rfl,h.old,λb o=>∃t,t∉sles (Ho 0 A O)/\φ' t b o,λi=>T9 φ' (Ho 0 A O)[i]?,λb o=>(sh=true/\S' b o)\/(S' b o/\((∃i,V i b o)\/w.heap.size<=b)),ψ,λi b o d=>?_,λb o d=>?_,λi i' hne b o d g=>?_,λi b o ⟨t,ht,d⟩ g=>?_,λb o ⟨t,_,d⟩ g=>h.disS t b o d ψ,λi b o d g=>?_,?_⟩
  ·grind [xI]
  ·rcases d with⟨J,r⟩|⟨J,r⟩
   ·rcases(h.sup b o r).2 with K|K|K
    ·grind
    ·exact .inr (.inr ⟨(h.sup b o r).1,K⟩)
    grind
   rcases r with r|r
   ·grind
   exact .inr (.inr ⟨(h.sup b o J).1,r⟩)
  ·obtain⟨t,e1,d⟩:=xI d
   obtain⟨t',e2,g⟩:=xI g;exact h.dis t t' (vQ hok i i' t t' hne e1 e2) b o d g
  ·obtain⟨t',e2,g⟩:=xI g
   exact h.dis t t' (λe=>ht (by grind [yg])) b o d g
  ·obtain⟨t,-,d⟩:=xI d
   exact h.disS t b o d ψ
  have hk:gd l NO (kJ shs) G.length (if h:a.toArray.size=1 then a.toArray[0] else .tuple a.toArray)/\cC l S' (λb o=>∃t,t∉sles (Ho 0 A O)/\φ' t b o) G (cq l (kJ shs) (if h:a.toArray.size=1 then a.toArray[0] else .tuple a.toArray)):=by
   match shs,L,H,hL with
   | [],L,_,hL=>
    cases a with
    | cons _ _=>exact L.elim
    | nil=>
     have:G=[]:=ψ
     subst this;exact⟨⟨_,rfl,trivial,rfl⟩,cC.nil _ _ _ _⟩
   | [M],_,H,_=>
    obtain⟨v,rfl,hv⟩:=H M rfl;have:=hv.slot (F:=F') (tv:=tvs W);obtain⟨X1,Y,J,r,K,U,h5⟩:=this;refine⟨?_,h5.mono (λ_ _ h=>h) r⟩;cases M<;>exact U
   | M::ag2::sh,L,_,hL=>
    have hsz:¬a.toArray.size=1:=by
     match a,L with
     | [],L=>simp
     | [v],L=>cases M<;>cases ag2<;>exact L.2.elim
     | _::_::_,_=>simp
    rw[dif_neg hsz];refine⟨⟨_,rfl,L,hL⟩,hrow.congr λj hj=>?_⟩;simp only[cq,kJ,nq,hcells];simp[List.getD,hj]
  refine⟨hk.1,?_,hm.mono λb o d=>?_⟩
  ·rcases hsh with J|J
   ·exact hk.2.mono ψ (λ_ _ h=>h)
   exact(hk.2.fresh J).mono (λ_ _ h=>h.elim) (λ_ _ h=>h)
  rcases(h.sup b o d).2 with K|K|K
  all_goals grind
 cases e with
 | normal=>exact fin he
 | ret=>exact fin he
 | _=>exact he.elim
end
abbrev I(z:Int):C:=.v (.int .i64 z)
abbrev B(b:Bool):C:=.v (.bool b)
def rI(_:dA)(z:Int):List C:=[I z]
def rB(_:dA)(b:Bool):List C:=[B b]
def rG(z:Int):g0 (rI .own z):=⟨trivial,trivial⟩
def GO(b:Bool):g0 (rB .own b):=⟨trivial,trivial⟩
def kV(z:Int):Prop:=-9223372036854775808<=z/\z<=9223372036854775807
def UK(_:Bool):Prop:=True
def R8(s:Nat)(left:Int):Int:=if(s:Int)<=left then left - s else -1
def zr : Tryz.prog.follows .mixedOrders=true:=by kernel_rfl
variable{d: List (Nat × Nat × List Nat)}{rcs: List C}{A: List RA}{sh: Bool}{c: Code}{f: Nat}
def Uj{b : List (Nat × List Nat)}{a : Func}(g : Tryz.prog.funcs[f]? = some a)(h : (a.name == "runtime.NumGoroutine") = false)(i : a.body = some c)(j : ik (pY d) c = true)(l:A.length+(a.ntmps - A.length)=n)(e:sh=true\/g0 rcs)(o:aw Tryz.prog TE ⟨n,[],b⟩ (DF Tryz.prog TE ⟨n,[],b⟩ d) c (QT TE a.results.toList k rcs) (lay (Fa 0 A))):zzA f sh A k rcs:=
 ME rp g h i (yb rp zr ⟨n,[],b⟩ d) j l rfl e o
def Ui{h : List (Nat × List Nat)}{a : Func}{A B : List MA}(b : List (Nat × Nat))(i : Tryz.prog.funcs[f]? = some a)(j : (a.name == "runtime.NumGoroutine") = false)(l : a.body = some c)(o : ik (pY d) c = true)(q:A.length+(a.ntmps - A.length)=n)(e:JO (Ho 0 A b)=true)(g:sh=true\/g0 rcs)(r:∀(u:Nat->Nat->Value)(p:Nat->Value),aw Tryz.prog TE ⟨n,Kh p 0 A,h⟩ (DF Tryz.prog TE ⟨n,Kh p 0 A,h⟩ d) c (RT TE a.results.toList k rcs u A B b) (lay (zn u 0 A))):zzB f sh A B k rcs:=
 MP b rp i j l (λN=>yb rp zr N d) o q e g r
theorem fW{x:Int}(h1 : -9223372036854775808<=x)(a:x<=9223372036854775807):IntKind.i64.wrap x=x:=IntWalk.i64_in x ω
def Ny:RA->RA->Prop
 | .val ag cs,.val ag' cs'=>ag=ag'/\cs=cs'
 | .ptr cs,.ptr cs'=>cs=cs'
 | A,a=>A=a
theorem Ny.eq{A a:RA}(h:Ny A a):A=a:=by
 unfold Ny at h
 grind
def Dn:List RA->List RA->Prop
 | [],[]=>True
 | A::As,B::Bs=>Ny A B/\Dn As Bs
 | _,_=>False
theorem Dn.eq:∀{A a:List RA},Dn A a->A=a
 | [],[],_=>rfl
 | A::As,B::Bs,h=>by rw[Ny.eq h.1,Dn.eq h.2]
 | [],_::_,h=>h.elim
 | _::_,[],h=>h.elim
theorem Cl.eq{b:Bool}{a:List RA}{K:AV->Prop}(h:am P f false a k rcs)(c:Dn A a)(d:K (.G k rcs)):Cl P f b A K:=by grind [Dn.eq,C8]
def CG:type_of% @Cl.eq:=@Cl.eq
def xi{b:Nat}(h:n<=1048576)(a:b<=1000):n*b<=140737488355328:=z5 (Nat.mul_le_mul h a) (by decide)
theorem Cl.sz{b:Bool}{K:AV->Prop}{s:Nat}{L:Int}(h:am P f false A .one [I (R8 s L)])(h1:L<s->K (.G .one [I (-1)]))(a:(s:Int)<=L->K (.G .one [I (L - s)])):Cl P f b A K:=by grind [C8,R8]
variable{X Y:Prop}
theorem Bf.NB{a b:Bool}(h1:a≠b->X)(c:a=b->Y):Bf (a != b) X Y:=by grind [Bf.P]
theorem Rw.one{off k j:Nat}{K:List C->Nat->Prop}{o:dA}{rows:List (List C)}{r:List C}(h1:a[off]? = some (.s o rows))(c:rows[i]? = some r)(d:r.length=k)(b:K r j):Rw a off [(i,k,j)] K:=
 Rw.mk (r:=r) (j:=j) (by grind [co]) b
def CE:type_of% @Rw.one:=@Rw.one
def yD(A B:List α)(i:Nat):List α:=A.take i++B.drop i
section
variable{α:Type}{A B:List α}
def Hj:yD A B 0=B:=by simp[yD]
theorem KV(i:Nat)(h:A.length=B.length)(a:i=B.length):yD A B i=A:=by grind [yD]
theorem Kg(h:A.length=B.length)(i:Nat)(a:i<=B.length):(yD A B i)[i]? = B[i]?:=by grind [yD]
theorem KD(h:A.length=B.length){i:Nat}{a:α}(b:A[i]? = some a):(yD A B i).set i a=yD A B (i+1):=by
 have c:=(Z2.1 b).1;unfold yD
 grind [List.set_append_right,X5,List.drop_eq_getElem_cons]
end
variable{β:Type}
def aa{f:α->β}{l:List α}{k:Nat}{x:α}(h:l[k]? = some x):(l.map f)[k]? = some (f x):=by simp[h]
def K6{z:α}{k:Nat}(h:k<n):(List.replicate n z)[k]? = some z:=by simp[h]
def aG(o:dA)(x:List Int):List C:=[.s o (x.map (rI o))]
def d9(x:List Int):dB (aG .own x)=aG .S x:=by simp[dB,aG,rI,dB]
theorem bO(x:List Int):g0 (aG .own x):=⟨⟨.inl ψ,bj _ _ λy _=>rG y⟩,trivial⟩
def gr(x:List Int):Prop:=x.length<=9223372036854775807/\∀y∈x,kV y
def szIntS(x:List Int):Nat:=x.length
def l8(x:List Int):Prop:=x.length<=1048576
def JN{x:List Int}(h:szIntS x<=1048576):l8 x:=h
def jV(o:dA)(x:List (List Int)):List C:=[.s o (x.map (aG o))]
def TD(x:List (List Int)):dB (jV .own x)=jV .S x:=by simp[dB,jV,d9,<-bS,C6]
def EC(x:List (List Int)):Prop:=x.length<=9223372036854775807/\∀y∈x,gr y
def zN(x:List (List Int)):Prop:=x.length<=1048576/\∀y∈x,l8 y
def vN(o:dA)(x:List Bool):List C:=[.s o (x.map (rB o))]
def Rs(x:List Bool):Prop:=x.length<=9223372036854775807/\∀y∈x,UK y
def Nq(x:List Bool):Prop:=x.length<=1048576
structure aT where
 W:List (List Int)
 y:List Bool
deriving DecidableEq,Inhabited
def aT.enc(o:dA)(x:aT):List C:=[.s o (x.W.map (aG o)),.s o (x.y.map (rB o))]
def aT.enc_fz(x:aT):dB (aT.enc .own x)=aT.enc .S x:=by simp[dB,aT.enc,rB,d9,<-bS,C6]
theorem aT.enc_fr(x:aT):g0 (aT.enc .own x):=⟨⟨.inl ψ,bj _ _ λy _=>bO y⟩,⟨.inl ψ,bj _ _ λy _=>GO y⟩,trivial⟩
def aT.wf(x:aT):Prop:=EC x.W/\Rs x.y
def aT.sml(x:aT):Prop:=zN x.W/\Nq x.y
structure bo where
 k:Int
 e:Int
deriving DecidableEq,Inhabited
def bo.enc(o:dA)(x:bo):List C:=[I x.k,I x.e]
def bo.enc_fz(x:bo):dB (bo.enc .own x)=bo.enc .S x:=by simp[dB,bo.enc]
def bo.enc_fr(x:bo):g0 (bo.enc .own x):=⟨trivial,trivial,trivial⟩
def bo.wf(x:bo):Prop:=kV x.k/\kV x.e
def bo.sml(_:bo):Prop:=True
def Gj(o:dA)(x:List bo):List C:=[.s o (x.map (bo.enc o))]
def LA(x:List bo):Prop:=x.length<=9223372036854775807/\∀y∈x,bo.wf y
def JH(x:List bo):Prop:=x.length<=1048576/\∀y∈x,bo.sml y
structure aO where
 O:List bo
deriving DecidableEq,Inhabited
def aO.enc(o:dA)(x:aO):List C:=[.s o (x.O.map (bo.enc o))]
def aO.enc_fz(x:aO):dB (aO.enc .own x)=aO.enc .S x:=by simp[dB,aO.enc,bo.enc_fz,<-bS,C6]
def CZ:type_of% @aO.enc_fz:=@aO.enc_fz
theorem aO.enc_fr(x:aO):g0 (aO.enc .own x):=⟨⟨.inl ψ,bj _ _ λy _=>bo.enc_fr y⟩,trivial⟩
def aO.wf(x:aO):Prop:=LA x.O
def aO.sml(x:aO):Prop:=JH x.O
structure aP where
 V:aT
 Q:aO
deriving DecidableEq,Inhabited
def aP.enc(o:dA)(x:aP):List C:=[.s o (x.V.W.map (aG o)),.s o (x.V.y.map (rB o)),.s o (x.Q.O.map (bo.enc o))]
def aP.enc_fz(x:aP):dB (aP.enc .own x)=aP.enc .S x:=by simp[dB,aP.enc,bo.enc_fz,rB,d9,<-bS,C6]
theorem aP.enc_fr(x:aP):g0 (aP.enc .own x):=⟨⟨.inl ψ,bj _ _ λy _=>bO y⟩,⟨.inl ψ,bj _ _ λy _=>GO y⟩,⟨.inl ψ,bj _ _ λy _=>bo.enc_fr y⟩,trivial⟩
def aP.wf(x:aP):Prop:=aT.wf x.V/\aO.wf x.Q
def aP.sml(x:aP):Prop:=aT.sml x.V/\aO.sml x.Q
structure ah where
 F:aP
 Calls:Int
 d:List Int
deriving DecidableEq,Inhabited
def ah.enc(o:dA)(x:ah):List C:=[.s o (x.F.V.W.map (aG o)),.s o (x.F.V.y.map (rB o)),.s o (x.F.Q.O.map (bo.enc o)),I x.Calls,.s o (x.d.map (rI o))]
def ah.enc_fz(x:ah):dB (ah.enc .own x)=ah.enc .S x:=by simp[dB,ah.enc,bo.enc_fz,rB,rI,d9,<-bS,C6]
def CO:type_of% @ah.enc_fz:=@ah.enc_fz
theorem ah.enc_fr(x:ah):g0 (ah.enc .own x):=⟨⟨.inl ψ,bj _ _ λy _=>bO y⟩,⟨.inl ψ,bj _ _ λy _=>GO y⟩,⟨.inl ψ,bj _ _ λy _=>bo.enc_fr y⟩,trivial,⟨.inl ψ,bj _ _ λy _=>rG y⟩,trivial⟩
def CX:type_of% @ah.enc_fr:=@ah.enc_fr
def ah.wf(x:ah):Prop:=aP.wf x.F/\kV x.Calls/\gr x.d
def ah.sml(x:ah):Prop:=aP.sml x.F/\l8 x.d
structure aE where
 At:Int
 a4:Int
deriving DecidableEq,Inhabited
def aE.enc(o:dA)(x:aE):List C:=[I x.At,I x.a4]
def aE.enc_fz(x:aE):dB (aE.enc .own x)=aE.enc .S x:=by simp[dB,aE.enc]
def aE.enc_fr(x:aE):g0 (aE.enc .own x):=⟨trivial,trivial,trivial⟩
def aE.wf(x:aE):Prop:=kV x.At/\kV x.a4
def aE.sml(_:aE):Prop:=True
def bp(o:dA)(x:List aE):List C:=[.s o (x.map (aE.enc o))]
def dO(x:List aE):dB (bp .own x)=bp .S x:=by simp[dB,bp,aE.enc_fz,<-bS,C6]
theorem iR(x:List aE):g0 (bp .own x):=⟨⟨.inl ψ,bj _ _ λy _=>aE.enc_fr y⟩,trivial⟩
def LP(x:List aE):Prop:=x.length<=9223372036854775807/\∀y∈x,aE.wf y
def gc(x:List aE):Prop:=x.length<=1048576/\∀y∈x,aE.sml y
structure aA where
 R:Int
 Z:Int
 a6:Int
deriving DecidableEq,Inhabited
def aA.enc(o:dA)(x:aA):List C:=[I x.R,I x.Z,I x.a6]
def aA.enc_fz(x:aA):dB (aA.enc .own x)=aA.enc .S x:=by simp[dB,aA.enc]
def aA.enc_fr(x:aA):g0 (aA.enc .own x):=⟨trivial,trivial,trivial,trivial⟩
def aA.wf(x:aA):Prop:=kV x.R/\kV x.Z/\kV x.a6
def aA.sml(_:aA):Prop:=True
def bW(o:dA)(x:List aA):List C:=[.s o (x.map (aA.enc o))]
def dZ(x:List aA):dB (bW .own x)=bW .S x:=by simp[dB,bW,aA.enc_fz,<-bS,C6]
theorem yW(x:List aA):g0 (bW .own x):=⟨⟨.inl ψ,bj _ _ λy _=>aA.enc_fr y⟩,trivial⟩
def NW(x:List aA):Prop:=x.length<=9223372036854775807/\∀y∈x,aA.wf y
def dM(x:List aA):Prop:=x.length<=1048576/\∀y∈x,aA.sml y
structure aD where
 R:Int
 w:Int
 a1:Int
deriving DecidableEq,Inhabited
def aD.enc(o:dA)(x:aD):List C:=[I x.R,I x.w,I x.a1]
def aD.enc_fz(x:aD):dB (aD.enc .own x)=aD.enc .S x:=by simp[dB,aD.enc]
def aD.enc_fr(x:aD):g0 (aD.enc .own x):=⟨trivial,trivial,trivial,trivial⟩
def aD.wf(x:aD):Prop:=kV x.R/\kV x.w/\kV x.a1
def aD.sml(_:aD):Prop:=True
def ch(o:dA)(x:List aD):List C:=[.s o (x.map (aD.enc o))]
def iT(x:List aD):dB (ch .own x)=ch .S x:=by simp[dB,ch,aD.enc_fz,<-bS,C6]
def ML(x:List aD):Prop:=x.length<=9223372036854775807/\∀y∈x,aD.wf y
def ed(x:List aD):Prop:=x.length<=1048576/\∀y∈x,aD.sml y
structure bi where
 Id:Int
 Addr:Int
 a1:Int
 a0:Int
deriving DecidableEq,Inhabited
def bi.enc(o:dA)(x:bi):List C:=[I x.Id,I x.Addr,I x.a1,I x.a0]
def bi.enc_fz(x:bi):dB (bi.enc .own x)=bi.enc .S x:=by simp[dB,bi.enc]
def bi.enc_fr(x:bi):g0 (bi.enc .own x):=⟨trivial,trivial,trivial,trivial,trivial⟩
def bi.wf(x:bi):Prop:=kV x.Id/\kV x.Addr/\kV x.a1/\kV x.a0
def bi.sml(_:bi):Prop:=True
def nI(o:dA)(x:List bi):List C:=[.s o (x.map (bi.enc o))]
def MQ(x:List bi):dB (nI .own x)=nI .S x:=by simp[dB,nI,bi.enc_fz,<-bS,C6]
def Rb(x:List bi):Prop:=x.length<=9223372036854775807/\∀y∈x,bi.wf y
def P2(x:List bi):Prop:=x.length<=1048576/\∀y∈x,bi.sml y
structure aF where
 X:List (List Int)
deriving DecidableEq,Inhabited
def aF.enc(o:dA)(x:aF):List C:=[.s o (x.X.map (aG o))]
def aF.enc_fz(x:aF):dB (aF.enc .own x)=aF.enc .S x:=by simp[dB,aF.enc,d9,<-bS,C6]
def CY:type_of% @aF.enc_fz:=@aF.enc_fz
theorem aF.enc_fr(x:aF):g0 (aF.enc .own x):=⟨⟨.inl ψ,bj _ _ λy _=>bO y⟩,trivial⟩
def Cg:type_of% @aF.enc_fr:=@aF.enc_fr
def aF.wf(x:aF):Prop:=EC x.X
def aF.sml(x:aF):Prop:=zN x.X
def pE(o:dA)(x:List aF):List C:=[.s o (x.map (aF.enc o))]
def LU(x:List aF):Prop:=x.length<=9223372036854775807/\∀y∈x,aF.wf y
def HP(x:List aF):Prop:=x.length<=1048576/\∀y∈x,aF.sml y
structure cJ where
 To:Int
 Addr:Int
deriving DecidableEq,Inhabited
def cJ.enc(o:dA)(x:cJ):List C:=[I x.To,I x.Addr]
def cJ.enc_fz(x:cJ):dB (cJ.enc .own x)=cJ.enc .S x:=by simp[dB,cJ.enc]
def cJ.enc_fr(x:cJ):g0 (cJ.enc .own x):=⟨trivial,trivial,trivial⟩
def cJ.wf(x:cJ):Prop:=kV x.To/\kV x.Addr
def cJ.sml(_:cJ):Prop:=True
def bJ(o:dA)(x:List cJ):List C:=[.s o (x.map (cJ.enc o))]
def lR(x:List cJ):dB (bJ .own x)=bJ .S x:=by simp[dB,bJ,cJ.enc_fz,<-bS,C6]
theorem sf(x:List cJ):g0 (bJ .own x):=⟨⟨.inl ψ,bj _ _ λy _=>cJ.enc_fr y⟩,trivial⟩
def MY(x:List cJ):Prop:=x.length<=9223372036854775807/\∀y∈x,cJ.wf y
def Mg(x:List cJ):Prop:=x.length<=1048576/\∀y∈x,cJ.sml y
def xQ(o:dA)(x:List (List cJ)):List C:=[.s o (x.map (bJ o))]
def M1(x:List (List cJ)):Prop:=x.length<=9223372036854775807/\∀y∈x,MY y
def Ja(x:List (List cJ)):Prop:=x.length<=1048576/\∀y∈x,Mg y
structure aN where
 U:List (List cJ)
 g:List (List Int)
deriving DecidableEq,Inhabited
def aN.enc(o:dA)(x:aN):List C:=[.s o (x.U.map (bJ o)),.s o (x.g.map (aG o))]
def aN.enc_fz(x:aN):dB (aN.enc .own x)=aN.enc .S x:=by simp[dB,aN.enc,lR,d9,<-bS,C6]
def Cf:type_of% @aN.enc_fz:=@aN.enc_fz
theorem aN.enc_fr(x:aN):g0 (aN.enc .own x):=⟨⟨.inl ψ,bj _ _ λy _=>sf y⟩,⟨.inl ψ,bj _ _ λy _=>bO y⟩,trivial⟩
def Ce:type_of% @aN.enc_fr:=@aN.enc_fr
def aN.wf(x:aN):Prop:=M1 x.U/\EC x.g
def aN.sml(x:aN):Prop:=Ja x.U/\zN x.g
structure aQ where
 Addr:Int
 Z:Int
 b2:Int
deriving DecidableEq,Inhabited
def aQ.enc(o:dA)(x:aQ):List C:=[I x.Addr,I x.Z,I x.b2]
def aQ.enc_fz(x:aQ):dB (aQ.enc .own x)=aQ.enc .S x:=by simp[dB,aQ.enc]
def aQ.enc_fr(x:aQ):g0 (aQ.enc .own x):=⟨trivial,trivial,trivial,trivial⟩
def aQ.wf(x:aQ):Prop:=kV x.Addr/\kV x.Z/\kV x.b2
def aQ.sml(_:aQ):Prop:=True
def cr(o:dA)(x:List aQ):List C:=[.s o (x.map (aQ.enc o))]
def G1(x:List aQ):dB (cr .own x)=cr .S x:=by simp[dB,cr,aQ.enc_fz,<-bS,C6]
theorem m0(x:List aQ):g0 (cr .own x):=⟨⟨.inl ψ,bj _ _ λy _=>aQ.enc_fr y⟩,trivial⟩
def LV(x:List aQ):Prop:=x.length<=9223372036854775807/\∀y∈x,aQ.wf y
def lV(x:List aQ):Prop:=x.length<=1048576/\∀y∈x,aQ.sml y
structure bt where
 b3:Int
 q:List aQ
deriving DecidableEq,Inhabited
def bt.enc(o:dA)(x:bt):List C:=[I x.b3,.s o (x.q.map (aQ.enc o))]
def bt.enc_fz(x:bt):dB (bt.enc .own x)=bt.enc .S x:=by simp[dB,bt.enc,aQ.enc_fz,<-bS,C6]
theorem bt.enc_fr(x:bt):g0 (bt.enc .own x):=⟨trivial,⟨.inl ψ,bj _ _ λy _=>aQ.enc_fr y⟩,trivial⟩
def bt.wf(x:bt):Prop:=kV x.b3/\LV x.q
def bt.sml(x:bt):Prop:=lV x.q
structure cf where
 a7:Int
 a9:Int
 W:List Int
deriving DecidableEq,Inhabited
def cf.enc(o:dA)(x:cf):List C:=[I x.a7,I x.a9,.s o (x.W.map (rI o))]
def cf.enc_fz(x:cf):dB (cf.enc .own x)=cf.enc .S x:=by simp[dB,cf.enc,rI,<-bS,C6]
theorem cf.enc_fr(x:cf):g0 (cf.enc .own x):=⟨trivial,trivial,⟨.inl ψ,bj _ _ λy _=>rG y⟩,trivial⟩
def cf.wf(x:cf):Prop:=kV x.a7/\kV x.a9/\gr x.W
def cf.sml(x:cf):Prop:=l8 x.W
structure cz where
 b:cf
 b1:Int
 o:Int
deriving DecidableEq,Inhabited
def cz.enc(o:dA)(x:cz):List C:=[I x.b.a7,I x.b.a9,.s o (x.b.W.map (rI o)),I x.b1,I x.o]
def cz.enc_fz(x:cz):dB (cz.enc .own x)=cz.enc .S x:=by simp[dB,cz.enc,rI,<-bS,C6]
theorem cz.enc_fr(x:cz):g0 (cz.enc .own x):=⟨trivial,trivial,⟨.inl ψ,bj _ _ λy _=>rG y⟩,trivial,trivial,trivial⟩
def cz.wf(x:cz):Prop:=cf.wf x.b/\kV x.b1/\kV x.o
def cz.sml(x:cz):Prop:=cf.sml x.b
structure ac where
 H:ah
 a:List aE
 K:List aA
 J:List aD
 M:List bi
 T:List aF
 j:aN
 a3:bt
 b5:Int
 a8:Int
 b7:Int
 o:Int
 a2:Bool
 a5:cz
deriving DecidableEq,Inhabited
def ac.enc(o:dA)(x:ac):List C:=[.s o (x.H.F.V.W.map (aG o)),.s o (x.H.F.V.y.map (rB o)),.s o (x.H.F.Q.O.map (bo.enc o)),I x.H.Calls,.s o (x.H.d.map (rI o)),.s o (x.a.map (aE.enc o)),.s o (x.K.map (aA.enc o)),.s o (x.J.map (aD.enc o)),.s o (x.M.map (bi.enc o)),.s o (x.T.map (aF.enc o)),.s o (x.j.U.map (bJ o)),.s o (x.j.g.map (aG o)),I x.a3.b3,.s o (x.a3.q.map (aQ.enc o)),I x.b5,I x.a8,I x.b7,I x.o,B x.a2,I x.a5.b.a7,I x.a5.b.a9,.s o (x.a5.b.W.map (rI o)),I x.a5.b1,I x.a5.o]
def ac.enc_fz(x:ac):dB (ac.enc .own x)=ac.enc .S x:=by simp[dB,ac.enc,CY,bo.enc_fz,aD.enc_fz,bi.enc_fz,aE.enc_fz,aA.enc_fz,aQ.enc_fz,rB,lR,rI,d9,<-bS,C6]
theorem ac.enc_fr(x:ac):g0 (ac.enc .own x):=⟨⟨.inl ψ,bj _ _ λy _=>bO y⟩,⟨.inl ψ,bj _ _ λy _=>GO y⟩,⟨.inl ψ,bj _ _ λy _=>bo.enc_fr y⟩,trivial,⟨.inl ψ,bj _ _ λy _=>rG y⟩,⟨.inl ψ,bj _ _ λy _=>aE.enc_fr y⟩,⟨.inl ψ,bj _ _ λy _=>aA.enc_fr y⟩,⟨.inl ψ,bj _ _ λy _=>aD.enc_fr y⟩,⟨.inl ψ,bj _ _ λy _=>bi.enc_fr y⟩,⟨.inl ψ,bj _ _ λy _=>Cg y⟩,⟨.inl ψ,bj _ _ λy _=>sf y⟩,⟨.inl ψ,bj _ _ λy _=>bO y⟩,trivial,⟨.inl ψ,bj _ _ λy _=>aQ.enc_fr y⟩,trivial,trivial,trivial,trivial,trivial,trivial,trivial,⟨.inl ψ,bj _ _ λy _=>rG y⟩,trivial,trivial,trivial⟩
def ac.wf(x:ac):Prop:=ah.wf x.H/\LP x.a/\NW x.K/\ML x.J/\Rb x.M/\LU x.T/\aN.wf x.j/\bt.wf x.a3/\kV x.b5/\kV x.a8/\kV x.b7/\kV x.o/\UK x.a2/\cz.wf x.a5
def ac.sml(x:ac):Prop:=ah.sml x.H/\gc x.a/\dM x.K/\ed x.J/\P2 x.M/\HP x.T/\aN.sml x.j/\bt.sml x.a3/\cz.sml x.a5
structure jF where
 b0:Int
 c4:Int
 c6:Int
 c5:Int
deriving DecidableEq,Inhabited
def jF.enc(o:dA)(x:jF):List C:=[I x.b0,I x.c4,I x.c6,I x.c5]
def jF.enc_fr(x:jF):g0 (jF.enc .own x):=⟨trivial,trivial,trivial,trivial,trivial⟩
structure UN where
 Id:Int
 a1:Int
 Sum:Int
deriving DecidableEq,Inhabited
structure aR where
 Id:Int
 W:List Int
deriving DecidableEq,Inhabited
def aR.enc(o:dA)(x:aR):List C:=[I x.Id,.s o (x.W.map (rI o))]
def aR.enc_fz(x:aR):dB (aR.enc .own x)=aR.enc .S x:=by simp[dB,aR.enc,rI,<-bS,C6]
theorem aR.enc_fr(x:aR):g0 (aR.enc .own x):=⟨trivial,⟨.inl ψ,bj _ _ λy _=>rG y⟩,trivial⟩
def aR.sml(x:aR):Prop:=l8 x.W
def Hf(x:List aR):Prop:=x.length<=1048576/\∀y∈x,aR.sml y
structure ay where
 o:Int
 M:List aR
deriving DecidableEq,Inhabited
def ay.enc(o:dA)(x:ay):List C:=[I x.o,.s o (x.M.map (aR.enc o))]
def ay.enc_fz(x:ay):dB (ay.enc .own x)=ay.enc .S x:=by simp[dB,ay.enc,aR.enc_fz,<-bS,C6]
def Ca:type_of% @ay.enc_fz:=@ay.enc_fz
theorem ay.enc_fr(x:ay):g0 (ay.enc .own x):=⟨trivial,⟨.inl ψ,bj _ _ λy _=>aR.enc_fr y⟩,trivial⟩
def ay.sml(x:ay):Prop:=Hf x.M
structure bw where
 Y:ac
 c3:ay
deriving DecidableEq,Inhabited
def bw.enc(o:dA)(x:bw):List C:=[.s o (x.Y.H.F.V.W.map (aG o)),.s o (x.Y.H.F.V.y.map (rB o)),.s o (x.Y.H.F.Q.O.map (bo.enc o)),I x.Y.H.Calls,.s o (x.Y.H.d.map (rI o)),.s o (x.Y.a.map (aE.enc o)),.s o (x.Y.K.map (aA.enc o)),.s o (x.Y.J.map (aD.enc o)),.s o (x.Y.M.map (bi.enc o)),.s o (x.Y.T.map (aF.enc o)),.s o (x.Y.j.U.map (bJ o)),.s o (x.Y.j.g.map (aG o)),I x.Y.a3.b3,.s o (x.Y.a3.q.map (aQ.enc o)),I x.Y.b5,I x.Y.a8,I x.Y.b7,I x.Y.o,B x.Y.a2,I x.Y.a5.b.a7,I x.Y.a5.b.a9,.s o (x.Y.a5.b.W.map (rI o)),I x.Y.a5.b1,I x.Y.a5.o,I x.c3.o,.s o (x.c3.M.map (aR.enc o))]
def bw.enc_fz(x:bw):dB (bw.enc .own x)=bw.enc .S x:=by simp[dB,bw.enc,CY,bo.enc_fz,aD.enc_fz,bi.enc_fz,aE.enc_fz,aR.enc_fz,aA.enc_fz,aQ.enc_fz,rB,lR,rI,d9,<-bS,C6]
theorem bw.enc_fr(x:bw):g0 (bw.enc .own x):=⟨⟨.inl ψ,bj _ _ λy _=>bO y⟩,⟨.inl ψ,bj _ _ λy _=>GO y⟩,⟨.inl ψ,bj _ _ λy _=>bo.enc_fr y⟩,trivial,⟨.inl ψ,bj _ _ λy _=>rG y⟩,⟨.inl ψ,bj _ _ λy _=>aE.enc_fr y⟩,⟨.inl ψ,bj _ _ λy _=>aA.enc_fr y⟩,⟨.inl ψ,bj _ _ λy _=>aD.enc_fr y⟩,⟨.inl ψ,bj _ _ λy _=>bi.enc_fr y⟩,⟨.inl ψ,bj _ _ λy _=>Cg y⟩,⟨.inl ψ,bj _ _ λy _=>sf y⟩,⟨.inl ψ,bj _ _ λy _=>bO y⟩,trivial,⟨.inl ψ,bj _ _ λy _=>aQ.enc_fr y⟩,trivial,trivial,trivial,trivial,trivial,trivial,trivial,⟨.inl ψ,bj _ _ λy _=>rG y⟩,trivial,trivial,trivial,⟨.inl ψ,bj _ _ λy _=>aR.enc_fr y⟩,trivial⟩
structure TU where
 w:Int
 Mapped:Int
 V:Int
 Held:Int
 nw:Int
 Cached:Int
 c0:Int
 Posted:Int
deriving DecidableEq,Inhabited
def Lm{f:α->β}{l:List α}{K:Nat->Prop}(h:K l.length):Ln (l.map f).length K:=Ln.mk (I1 ..) h
def Wm{z:Int}{K:Int->Prop}(h : -9223372036854775808<=z/\z<=9223372036854775807)(a:K z):Wr .i64 z K:=CL (fW h.1 h.2) a
def dT{p:Prop}[Decidable p](h:p)(a:p->X):Bf (decide p) X Y:=.D a λe=>absurd h e
def dF{p:Prop}[Decidable p](h:¬p)(a:¬p->Y):Bf (decide p) X Y:=.D (λe=>absurd e h) a
variable{b:Int}
def nT{a:Int}(h:a≠b)(c:a≠b->X):Bf (a != b) X Y:=.N c λe=>absurd e h
def nF{a:Int}(h:a=b)(c:a=b->Y):Bf (a != b) X Y:=.N (λe=>absurd h e) c
def eT{a:Int}(h:a=b)(c:a=b->X):Bf (a == b) X Y:=.E c λe=>absurd h e
def eF{a:Int}(h:a≠b)(c:a≠b->Y):Bf (a == b) X Y:=.E (λe=>absurd e h) c
def Bn{b:Bool}(h:Bf b Y X):Bf (!b) X Y:=.not h
def Bt(h:X):Bf true X Y:=.t rfl h
def Bu(h:Y):Bf false X Y:=.f rfl h
def Fm{b:Kd}(h1:k=b)(h:cs=a):jo k b cs a:=.mk h1 h
def dV{p:Prop}[Decidable p](h:p)(a:X):Bf (decide p) X Y:=.D (λ_=>a) λe=>absurd h e
def dW{p:Prop}[Decidable p](h:¬p)(a:Y):Bf (decide p) X Y:=.D (λe=>absurd e h) λ_=>a
def nV{a:Int}(h:a≠b)(c:X):Bf (a != b) X Y:=.N (λ_=>c) λe=>absurd e h
def nW{a:Int}(h:a=b)(c:Y):Bf (a != b) X Y:=.N (λe=>absurd h e) λ_=>c
def eV{a:Int}(h:a=b)(c:X):Bf (a == b) X Y:=.E (λ_=>c) λe=>absurd h e
def eW{a:Int}(h:a≠b)(c:Y):Bf (a == b) X Y:=.E (λe=>absurd e h) λ_=>c
structure LB(Y:Prop):Prop where
 out:Y
structure ZF(X Y:Prop):Prop where
def ZF.rf{X:Prop}:ZF X X:=⟨⟩
def gO(y:Y)(h:LB Y->X:=by intro y;(conv=>whnf);(first|with_reducible (first|refine Lm ?_|refine Wm ω ?_|refine Bn ?_|refine Fm rfl ?_)|refine Bt ?_|refine Bu ?_|skip);exact y.out)(_:ZF X Y:=by (fail_if_success with_reducible exact ZF.rf);exact ⟨⟩):X:=h ⟨y⟩
def gP(y:Y)(h:LB Y->X:=by intro y;(conv=>whnf);(first|with_reducible (first|refine Lm ?_|refine Wm ω ?_|refine Bn ?_|refine Fm rfl ?_)|refine Bt ?_|refine Bu ?_|refine C8 (by assumption) ?_|refine CA (aa (by assumption)) ?_|refine CE rfl (aa (by assumption)) rfl ?_|refine C9 ?_|refine CI (by assumption) (.inl rfl) ?_|skip);exact y.out)(_:ZF X Y:=by (fail_if_success with_reducible exact ZF.rf);exact ⟨⟩):X:=h ⟨y⟩
def gD(y:Y)(h:LB Y->X:=by intro y;(conv=>whnf);(first|with_reducible (first|refine Lm ?_|refine Wm ω ?_|refine dV ω ?_|refine dW ω ?_|refine Bn ?_|refine Fm rfl ?_)|refine Bt ?_|refine Bu ?_|skip);exact y.out)(_:ZF X Y:=by (fail_if_success with_reducible exact ZF.rf);exact ⟨⟩):X:=h ⟨y⟩
def gE(y:Y)(h:LB Y->X:=by intro y;(conv=>whnf);(first|with_reducible (first|refine Lm ?_|refine Wm ω ?_|refine dV ω ?_|refine dW ω ?_|refine Bn ?_|refine Fm rfl ?_)|refine Bt ?_|refine Bu ?_|refine C8 (by assumption) ?_|refine CA (aa (by assumption)) ?_|refine CE rfl (aa (by assumption)) rfl ?_|refine C9 ?_|refine CI (by assumption) (.inl rfl) ?_|skip);exact y.out)(_:ZF X Y:=by (fail_if_success with_reducible exact ZF.rf);exact ⟨⟩):X:=h ⟨y⟩
def gA(y:Y)(h:LB Y->X:=by intro y;(conv=>whnf);(first|with_reducible (first|refine Lm ?_|refine Wm ω ?_|refine dV ω ?_|refine dW ω ?_|refine nV ω ?_|refine nW ω ?_|refine eV ω ?_|refine eW ω ?_|refine Bn ?_|refine Fm rfl ?_)|refine Bt ?_|refine Bu ?_|skip);exact y.out)(_:ZF X Y:=by (fail_if_success with_reducible exact ZF.rf);exact ⟨⟩):X:=h ⟨y⟩
def gB(y:Y)(h:LB Y->X:=by intro y;(conv=>whnf);(first|with_reducible (first|refine Lm ?_|refine Wm ω ?_|refine dV ω ?_|refine dW ω ?_|refine nV ω ?_|refine nW ω ?_|refine eV ω ?_|refine eW ω ?_|refine Bn ?_|refine Fm rfl ?_)|refine Bt ?_|refine Bu ?_|refine C8 (by assumption) ?_|refine CA (aa (by assumption)) ?_|refine CE rfl (aa (by assumption)) rfl ?_|refine C9 ?_|refine CI (by assumption) (.inl rfl) ?_|skip);exact y.out)(_:ZF X Y:=by (fail_if_success with_reducible exact ZF.rf);exact ⟨⟩):X:=h ⟨y⟩
def ZO(y:Y)(h:LB Y->X:=by intro y;(repeat' first|refine gO ?_|fail);exact y.out):X:=h ⟨y⟩
def ZP(y:Y)(h:LB Y->X:=by intro y;(repeat' first|refine gP ?_|fail);exact y.out):X:=h ⟨y⟩
def ZD(y:Y)(h:LB Y->X:=by intro y;(repeat' first|refine gD ?_|fail);exact y.out):X:=h ⟨y⟩
def ZE(y:Y)(h:LB Y->X:=by intro y;(repeat' first|refine gE ?_|fail);exact y.out):X:=h ⟨y⟩
def ZA(y:Y)(h:LB Y->X:=by intro y;(repeat' first|refine gA ?_|fail);exact y.out):X:=h ⟨y⟩
def ZB(y:Y)(h:LB Y->X:=by intro y;(repeat' first|refine gB ?_|fail);exact y.out):X:=h ⟨y⟩
def TP{z1 z2:Int}(h:z1=z2):Ry (I z1) (I z2):=by subst h;rfl
def UH(c:C):Ry c c:=(kF [c]).1
def wA(h:X:=by repeat'(first|exact trivial|rfl|refine CJ ?_ ?_)):X:=h
def wB(h:X:=by repeat'(first|exact trivial|rfl|refine CJ ?_ ?_|(exact TP (by first|omega|(simp only;omega)|(simp;omega))))):X:=h
def wC(h:X:=by repeat'(first|exact trivial|rfl|exact UH _|refine CJ ?_ ?_|(exact TP (by first|omega|(simp only;omega)|(simp;omega))))):X:=h
def fO(n : Nat){a : Func}(d : List (Nat × Nat × List Nat))(e : Tryz.prog.funcs[f]? = some a)(g : a.body = some c)(h : aw Tryz.prog TE ⟨n, [], []⟩ (DF Tryz.prog TE ⟨n, [], []⟩ d) c (QT TE a.results.toList k rcs) (lay (Fa 0 A)))(b : sh = true \/ g0 rcs := by exact .inr ⟨trivial, trivial⟩)(i : (a.name == "runtime.NumGoroutine") = false := by kernel_rfl)(j : ik (pY d) c = true := by kernel_rfl)(l : A.length + (a.ntmps - A.length) = n := by rfl) : zzA f sh A k rcs := Uj e i g j l b h
def fP(n : Nat){a : Func}(d : List (Nat × List Nat))(e : List (Nat × Nat × List Nat))(g : Tryz.prog.funcs[f]? = some a)(h : a.body = some c)(i : aw Tryz.prog TE ⟨n, [], d⟩ (DF Tryz.prog TE ⟨n, [], d⟩ e) c (QT TE a.results.toList k rcs) (lay (Fa 0 A)))(b : sh = true \/ g0 rcs := by exact .inr ⟨trivial, trivial⟩)(j : (a.name == "runtime.NumGoroutine") = false := by kernel_rfl)(l : ik (pY e) c = true := by kernel_rfl)(o : A.length + (a.ntmps - A.length) = n := by rfl) : zzA f sh A k rcs := Uj g j h l o b i
def fM(n : Nat){a : Func}{A B : List MA}(g : List (Nat × List Nat))(h : List (Nat × Nat × List Nat))(b : List (Nat × Nat))(i : Tryz.prog.funcs[f]? = some a)(j : a.body = some c)(l : ∀(u : Nat -> Nat -> Value)(p : Nat -> Value), aw Tryz.prog TE ⟨n, Kh p 0 A, g⟩ (DF Tryz.prog TE ⟨n, Kh p 0 A, g⟩ h) c (RT TE a.results.toList k rcs u A B b) (lay (zn u 0 A)))(d : sh = true \/ g0 rcs := by exact .inr ⟨trivial, trivial⟩)(o : (a.name == "runtime.NumGoroutine") = false := by kernel_rfl)(q : ik (pY h) c = true := by kernel_rfl)(r : A.length + (a.ntmps - A.length) = n := by rfl)(e : JO (Ho 0 A b) = true := by rfl) : zzB f sh A B k rcs := Ui b i o j q r e d l
section
variable{α:Type}{l:List α}{p:α->Bool}{i:Nat}{x:α}
theorem cX(h:l[i]? = some x)(a:(l.take i).all p=true)(b:p x=true):(l.take (i+1)).all p=true:=by grind [X5]
theorem gG(h:l[i]? = some x)(a:p x=false):l.all p=false:=ψ
theorem ot(a:l.length<=i)(b:(l.take i).all p=true):l.all p=true:=by grind [V7]
end
theorem x5{a:List α}{b:List β}{x:α}{y:β}(h1:a[i]? = some x)(c:b[i]? = some y):(a.zip b)[i]? = some (x,y):=ψ
def nth[Inhabited α](xs:List α)(i:Nat):α:=xs.getD i default
theorem ar[Inhabited α]{xs:List α}(h:i<xs.length):xs[i]? = some (nth xs i):=by grind [nth]
theorem b8[Inhabited α]{xs:List α}{y:α}(h:xs[i]? = some y):nth xs i=y:=by grind [nth]
theorem au[Inhabited α]{xs:List α}(h:i<xs.length):nth xs i∈xs:=O2 (ar h)
def df(n:Nat)(p:Nat->Bool):Bool:=(List.range n).all p
theorem cx : df n p=true↔∀j,j<n->p j=true:=by
 unfold df;simp
theorem bV(h:df n p=true)(a:p n=true):df (n+1) p=true:=by grind [cx]
theorem cB(a:i<n)(b:p i=false):df n p=false:=by grind [cx]
theorem fy(h:df n p=true)(a:i<n):p i=true:=cx.1 h i a
def j9(u:Bool)(v:Int):Bool:=decide (0<=v/\v<=999)&&(u || decide (v=0))
def iV(r:List Int)(u:Bool):Bool:=decide (r.length=16)&&r.all (j9 u)
def cP(f:aT):Bool:=decide (1<=f.W.length/\f.W.length<=32)&&(decide (f.y.length=f.W.length)&&(f.W.zip f.y).all λq=>iV q.1 q.2)
def iQ{f:aT}{r:List Int}{u:Bool}(h1:f.W[i]? = some r)(a:f.y[i]? = some u)(b:iV r u=false):cP f=false:=by
 unfold cP;rw[gG (p:=λq=>iV q.1 q.2) (x5 h1 a) b];simp
theorem ur{r:List Int}{u:Bool}{k:Nat}{v:Int}(h1:r[k]? = some v)(a:j9 u v=false):iV r u=false:=by grind [iV]
theorem EG{f:aT}(h:cP f=true):1<=f.W.length/\f.W.length<=32/\f.y.length=f.W.length:=by grind [cP]
def mt(a:Int)(e:bo):Bool:=decide (0<=e.k/\e.k<=2/\(e.k=0->e.e=0)/\(e.k≠0->0<=e.e/\e.e<a))
def gu(t:aO)(a:Int):Bool:=df t.O.length (λi=>mt a (nth t.O i))&&decide (1<=t.O.length/\t.O.length<=32)
def Na(t:aO)(f:Int)(i:Nat):Bool:=decide ((nth t.O i).k≠0/\(nth t.O i).e=f)
def k4(t:aO)(f:Int)(n:Nat):List Int:=((List.range n).filter (Na t f)).map λ(i:Nat)=>(i:Int)
def pagesOn(t:aO)(f:Int):List Int:=k4 t f t.O.length
theorem BA{t:aO}{f:Int}(h:Na t f n=true):k4 t f (n+1)=k4 t f n++[(n:Int)]:=by grind [List.range_succ,k4]
theorem FX{t:aO}{f:Int}(h:Na t f n=false):k4 t f (n+1)=k4 t f n:=by grind [List.range_succ,k4]
theorem uW(t:aO)(f:Int)(n:Nat):(k4 t f n).length<=n:=by grind [k4]
def ax(t:aO)(p:Int):bo:=if 0<=p/\p<t.O.length then nth t.O p.toNat else⟨0,0⟩
def pQ(m:aP)(i:Nat):Bool:=nth m.V.y i == decide (0<(pagesOn m.Q (i:Int)).length)
def cV(m:aP):Bool:=(cP m.V&&gu m.Q m.V.y.length)&&df m.V.y.length (pQ m)
def aJ(k:ah):Bool:=(df k.d.length (λi=>decide (0<=nth k.d i))&&cV k.F)&&decide (0<=k.Calls/\k.Calls<=100000/\k.d.length<=40)
def rangeIn(pages:Int)(r:aE):Bool:=decide (1<=r.a4/\r.a4<=pages/\0<=r.At/\r.At<=pages - r.a4)
def gv(pages:Int)(xs:List aE)(i:Nat):Bool:=rangeIn pages (nth xs i)&&decide (i=0\/(nth xs (i - 1)).At+(nth xs (i - 1)).a4<(nth xs i).At)
def bF(pages:Int)(xs:List aE):Bool:=df xs.length (gv pages xs)&&decide (1<=pages/\pages<=32)
def wX(page:Int)(r:aE):Bool:=decide (r.At<=page)&&decide (page<IntKind.i64.wrap (r.At+r.a4))
def lim(k:Int):Int:=if k=0 then 65535 else if k=1 then 255 else if k=2 then 15 else if k=3 then 3 else 0
def slots(k:Int):Int:=if k=0 then 16 else if k=1 then 8 else if k=2 then 4 else if k=3 then 2 else 0
def bk(s:aA):Bool:=decide (0<=s.R/\s.R<=31/\0<=s.Z/\s.Z<=3/\0<=s.a6/\s.a6<=lim s.Z)
def er(n:Int):Int:=if 9<=n/\n<=1000 then(n+15) / 16 else 0
def bZ(l:aD):Bool:=decide (9<=l.a1/\l.a1<=1000/\l.w=(l.a1+15) / 16/\0<=l.R/\l.R<=32 - l.w)
def lpgs(l:aD)(n:Nat):List Int:=(List.range n).map λ(i:Nat)=>l.R+i
def pgs(sp:List aA)(la:List aD):List Int:=sp.map (·.R)++la.flatMap λl=>lpgs l l.w.toNat
def bx(sp:List aA)(la:List aD):Bool:=(sp.all bk&&la.all bZ)&&decide (pgs sp la).Nodup
def dG(s:aA)(a:Int):Bool:=bk s&&decide (16*s.R<=a/\a<=16*s.R+15)
def bh(b i:Int):Bool:=decide (0<=b/\0<=i/\i<=15/\b / 2 ^ i.toNat % 2=1)
def bQ(l:aD)(a:Int):Bool:=bZ l&&decide (16*l.R<=a/\a<=16*l.R+l.a1 - 1)
def csz(k:Int):Int:=if 0<=k/\k<=3 then 2 ^ k.toNat else 0
def jh(s:aA)(a:Int):Int × Int:=if dG s a then((a - 16*s.R) / csz s.Z,(a - 16*s.R) % csz s.Z) else(-1,-1)
def qa(i:Nat)(s:aA)(a:Int):jF:=⟨if bh s.a6 ((a - 16*s.R) / csz s.Z) then 1 else 2,i,(a - 16*s.R) / csz s.Z,(a - 16*s.R) % csz s.Z⟩
def denotes(sp:List aA)(la:List aD)(a:Int):jF:=
 match sp.findIdx? (dG · a) with
 | some i=>qa i (nth sp i) a
 | none=>match la.findIdx? (bQ · a) with
  | some i=>⟨3,i,0,a - 16*(nth la i).R⟩
  | none=>⟨0,0,0,0⟩
theorem x7{pr:α->Bool}{xs:List α}{y:α}(a:xs[i]? = some y)(b:pr y=true)(c:∀(j:Nat)(z:α),j<i->xs[j]? = some z->pr z=false):xs.findIdx? pr=some i:=by grind [S7]
theorem Ei{pr:α->Bool}{xs:List α}(a:xs.length<=i)(b:∀(j:Nat)(z:α),j<i->xs[j]? = some z->pr z=false):xs.findIdx? pr=none:=
 List.findIdx?_eq_none_iff.2 λz c=>by grind [List.mem_iff_getElem?]
theorem ep{pr:α->Bool}{xs:List α}{y:α}(a:xs[i]? = some y)(b:pr y=false)(c:∀(j:Nat)(z:α),j<i->xs[j]? = some z->pr z=false):∀(j:Nat)(z:α),j<i+1->xs[j]? = some z->pr z=false:=ψ
def cj(pr:α->Bool)(xs:List α):Int:=match xs.findIdx? pr with|some i=>(i:Nat)|none=>-1
theorem dw{pr:α->Bool}{xs:List α}{y:α}(a:xs[i]? = some y)(b:pr y=true)(c:∀(j:Nat)(z:α),j<i->xs[j]? = some z->pr z=false):cj pr xs=(i:Nat):=by
 unfold cj;rw[x7 a b c]
theorem fg{pr:α->Bool}{xs:List α}(a:xs.length<=i)(b:∀(j:Nat)(z:α),j<i->xs[j]? = some z->pr z=false):cj pr xs = -1:=by grind [Ei,cj]
theorem lK(pr:α->Bool)(xs:List α):decide (cj pr xs≥0)=xs.any pr:=by grind [cj]
def meshable(s t:aA):Bool:=(bk s&&bk t)&&decide (s.Z=t.Z/\s.R≠t.R/\s.a6.toNat &&& t.a6.toNat=0)
def nZ(n:Int)(p:cJ):Bool:=decide (0<=p.To/\p.To<=n - 1/\0<=p.Addr)
def Ru(z:Int):Bool:=decide (0<=z)
def gY(m:aN)(i:Nat):Bool:=(nth m.U i).all (nZ m.U.length)&&(nth m.g i).all Ru
def bI(m:aN):Nat->Int
 | 0=>0
 | i+1=>bI m i+((nth m.U i).length+(nth m.g i).length)
def bB(m:aN):Bool:=(decide (1<=m.U.length/\m.U.length<=4/\m.g.length=m.U.length)&&df m.U.length (gY m))&&decide (bI m m.U.length<=30)
def aU(m:aN):List Int:=if bB m then(m.U.flatMap λl=>l.map (·.Addr))++m.g.flatten else []
def eN(a:Int)(y:aQ):Bool:=decide (y.Addr=a)
def lA(xs:List aQ)(i:Nat):Bool:=decide (0<=(nth xs i).Z/\(nth xs i).Z<=3/\0<=(nth xs i).Addr/\0<=(nth xs i).b2/\(i=0\/(nth xs (i - 1)).b2<=(nth xs i).b2))&&!(xs.take i).any (eN (nth xs i).Addr)
def quarCells(xs:List aQ):Nat->Int
 | 0=>0
 | i+1=>quarCells xs i+csz (nth xs i).Z
def fQ(q:bt):Bool:=df q.q.length (lA q.q)&&decide (0<=q.b3/\q.b3<=500/\quarCells q.q q.q.length<=q.b3)
def o6(xs:List Int)(i:Nat):Bool:=decide (0<=nth xs i/\nth xs i<=15/\(i=0\/nth xs (i - 1)<nth xs i))
def fH(p:cf):Bool:=df p.W.length (o6 p.W)&&decide (0<=p.a7/\p.a7<=31/\0<=p.a9/\p.a9<=31/\p.a7≠p.a9)
def jA(j:cz):Bool:=fH j.b&&decide (0<=j.b1/\j.b1<=5/\0<=j.o/\j.o<=j.b.W.length)
def u6(j:cz):Bool:=decide (j.b.a7=0/\j.b.a9=0/\j.b.W.length=0/\j.b1=0/\j.o=0)
def aV(h:ac)(p:Int):List Int:=if(ax h.H.F.Q p).k=0 then [] else pagesOn h.H.F.Q (ax h.H.F.Q p).e
def nj(p:Int)(s:aA):Bool:=decide (s.R=p)
def gH(h:ac)(p:Int):Int:=cj (nj p) h.K
def aS(n:Int):Int:=if n<1 then -1 else if n<=1 then 0 else if n<=2 then 1 else if n<=4 then 2 else if n<=8 then 3 else -1
set_option maxRecDepth 20000
set_option maxHeartbeats 2000000
def aM(n lo a:Int):zzA 110 false [.val none [I n],.val none [I lo],.val none [I a]] .one [B (decide (lo<=n/\n<=a))]:=by
 refine fO 15 [] Tryz.func110 rfl ?_
 repeat'(first|refine gP ?_|with_reducible refine Bf.D (λb=>?_) (λb=>?_))
 all_goals exact Z0 (λz=>[B z]) (by simp;try omega)
def aI(n lo a:Int):zzA 63 false [.val none [I n],.val none [I lo],.val none [I a]] .one [B (decide (lo<=n/\n<=a))]:=by
 refine fO 15 [] Tryz.func63 rfl ?_
 repeat'(first|refine gP ?_|with_reducible refine Bf.D (λb=>?_) (λb=>?_))
 all_goals exact Z0 (λz=>[B z]) (by simp;try omega)
def fF(k:Int):zzA 232 false [.val none [I k]] .one [B (decide (0<=k/\k<=3))]:=by
 refine fO 5 [] Tryz.func232 rfl ?_
 repeat'(first|refine gP ?_|refine C8 (aI k 0 3) ?_)
 rfl
theorem dl(k:Int):zzA 106 false [.val none [I k]] .one [I (csz k)]:=by
 by_cases b:0<=k/\k<=3
 ·obtain rfl|rfl|rfl|rfl:k=0\/k=1\/k=2\/k=3:=ω
  all_goals
   refine fO 8 [] Tryz.func106 rfl ?_
   repeat'(first|refine gE ?_|with_reducible refine Bf.D (λa=>?_) (λa=>?_)|refine C8 (fF _) ?_|refine CN (by decide) ?_|refine CL rfl ?_)
   exact Z0 (λz=>[I z]) (by decide)
 refine fO 8 [] Tryz.func106 rfl ?_
 repeat'(first|refine gE ?_|with_reducible refine Bf.D (λa=>?_) (λa=>?_)|refine C8 (fF _) ?_)
 exact Z0 (λz=>[I z]) (by grind [csz])
theorem eg(k:Int):zzA 361 false [.val none [I k]] .one [I (csz k)]:=by
 by_cases b:0<=k/\k<=3
 ·obtain rfl|rfl|rfl|rfl:k=0\/k=1\/k=2\/k=3:=ω
  all_goals
   refine fO 9 [] Tryz.func361 rfl ?_
   repeat'(first|refine gE ?_|with_reducible refine Bf.D (λa=>?_) (λa=>?_)|refine C8 (aM _ 0 3) ?_|refine CN (by decide) ?_|refine CL rfl ?_)
   exact Z0 (λz=>[I z]) (by decide)
 refine fO 9 [] Tryz.func361 rfl ?_
 repeat'(first|refine gE ?_|with_reducible refine Bf.D (λa=>?_) (λa=>?_)|refine C8 (aM _ 0 3) ?_)
 exact Z0 (λz=>[I z]) (by grind [csz])
theorem n6(xs:List Int)(a:Int)(h:xs.length<=9223372036854775807):zzA 353 false [.val none (aG .S xs),.val none [I a]] .one [B (decide (a∈xs))]:=by
 refine fO 18 [] Tryz.func353 rfl ?_
 refine ZP ?_
 refine CF (ι:=Nat) (λi=>[(0,.G .one (aG .S xs)),(1,.G .one [I a]),(5,.G .one [I (i:Nat)])]) (λi=>i<=xs.length/\a∉xs.take i) (λi=>xs.length - i) 0 ?_ ψ λi c=>?_
 ·exact wB
 obtain⟨c,d⟩:=c;by_cases b:i<xs.length
 ·obtain⟨y,e⟩ : ∃y,xs[i]? = some y:=⟨_,X2 b⟩
  repeat'(first|refine gE ?_|with_reducible refine Bf.E (λg=>?_) (λg=>?_))
  ·exact Z0 (λz=>[B z]) ψ
  (conv=>whnf)
  refine CD (i+1) ⟨ω,?_⟩ ω ?_
  ·grind [X5]
  exact wB
 refine ZE ?_
 rw[V7 ω]at d;exact Z0 (λz=>[B z]) ψ
end Go.Proofs.YtiopgblagimpmaaGreat.Ab
