/- A region that draws its order may be run in the text's order, where its operations are apart. No condition. -/
import Derived.Test.YtiopgblagimpmaaGreatKZb
import Derived.Orders
import Derived.Test.YtiopgblagimpmaaGreatKZa
import Derived.KernelRfl
import Derived.Test.YtiopgblagimpmaaGreatProg
set_option linter.unusedVariables false
set_option linter.defProp false
set_option linter.unusedSimpArgs false
set_option linter.constructorNameAsVariable false
namespace Go.Proofs.YtiopgblagimpmaaGreat.Ab
open Go.RowKit
def dS(o:Oper)(i:Nat):Bool:=o.after.toList.any λe=>Region.binds .any e&&Nat.beq e.on i
def eE(ops:Array Oper)(i:Nat):Oper:=ops.getD i default
def below(n:Nat)(p:Nat->Bool):Bool:=(List.range n).all p
def x9(ops:Array Oper)(i j:Nat):Bool:=match(eE ops i).dst with|some d=>((eE ops j).looksAt ops).any (Nat.beq d)|none=>false
def Lz:List Nat->Nat
 | []=>0
 | k::a=>2 ^ k ||| Lz a
def ons(o:Oper):List Nat:=(o.after.toList.filter λe=>Region.binds .any e).map (·.on)
variable{α:Type}
def frc(n:Nat)(K:Nat->α):α:=match n with|0=>K 0|n+1=>K (n+1)
def V5(n:Nat)(K:Nat->α):frc n K=K n:=by cases n<;>rfl
def clo(ops:Array Oper):Nat->Nat->Nat
 | 0,S=>S
 | k+1,S=>bif S.testBit k then frc (S ||| Lz (ons (eE ops k))) (clo ops k) else clo ops k S
def Hx(ops:Array Oper)(m:Nat):Bool:=
 below ops.size λj=>((eE ops j).after.toList.all λe=>!Region.binds .any e || Nat.blt e.on j) &&
  (bif Nat.blt j m then below m (λi=>Nat.beq i j || ((dS (eE ops j) i || dS (eE ops i) j || (eE ops i).apart ops (eE ops j))&&(!x9 ops i j || dS (eE ops j) i))) else frc (clo ops j (Lz (ons (eE ops j)))) λS=>below j λi=>S.testBit i)
def Df:List (Nat × Nat × List Nat)->Nat->Option (Nat × List Nat)
 | [],_=>none
 | p::l,id=>bif Nat.beq id p.1 then some p.2 else Df l id
def iU(P:Program)(TE:Nat->Option TI)(N:gy)(ops:Array Oper)(o:Oper)(K:(Nat->AV)->Prop)(F:Nat->AV):Prop:=
 gY F ops o.guard (λF=>match o.dst with|some d=>ew P TE F o.op λa=>cn N F d a K|none=>False)
  (λF=>match o.dst with|some d=>cn N F d (.Z (.tup []) []) K|none=>False)
def rk:Op->Option (Option Nat × Nat)
 | .buildSlice T 1 ps=>(match ps.toList with|[(0,.tmp s)]=>some (some T,s)|_=>none)
 | .move (.tmp s)=>some (none,s)
 | _=>none
def own1(T:Option Nat)(k:Kd)(cs:List C):Bool:=match T with
 | some _=>(match k with
   | .one=>(match cs with|[c]=>eO c|_=>false)
   | .agg=>(match cs with|[c]=>eO c|_=>false)
   | _=>false)
 | none=>(match k with|.tup _=>!bp cs|_=>false)
def Y8(TE:Nat->Option TI)(N:gy)(F:Nat->AV)(d:Nat)(T:Option Nat)(s:Nat)(K:(Nat->AV)->Prop):Prop:=match T with
 | some T=>iA TE N F d T 1 [(0,.tmp s)] K
 | none=>kN N F d (.tmp s) K
def PI(F:Nat->AV)(o:Oper):Option (Option Nat × Nat):=
 match o.guard with
 | some _=>none
 | none=>match rk o.op with
  | none=>none
  | some p=>match F p.2 with
   | .Z k cs=>bif own1 p.1 k cs then some p else none
   | .dead=>none
   | .ref ..=>none
   | .c2 ..=>none
   | .iref ..=>none
   | .fn ..=>none
   | .fv _=>none
def lE(ops:Array Oper)(o:Oper)(s:Nat):Bool:=
 ((List.range ops.size).any λk=>dS o k&&(match(eE ops k).dst with|some a=>Nat.beq a s|none=>false))&&Nat.ble (ops.toList.filter λk=>(k.looksAt ops).any (Nat.beq s)).length 1
def tJ(ds:List Nat)(o:Oper):Bool:=match o.dst with|some d=>ds.any (Nat.beq d)|none=>false
def twk:List Nat->List Nat
 | []=>[]
 | e::l=>bif Nat.ble 1000 e then(e - 1000)::twk l else []
def dec:List Nat->List (Nat × List Nat)
 | []=>[]
 | e::l=>bif Nat.ble 1000 e then dec l else(e,twk l)::dec l
def X5:Op->Bool
 | .move (.tmp _)=>true
 | .assign _=>true
 | .extract ..=>true
 | .build ..=>true
 | .buildSlice ..=>true
 | .store ..=>true
 | .load ..=>true
 | .fieldAddr ..=>true
 | .field ..=>true
 | .binOp ..=>true
 | .unOp ..=>true
 | .call c=>(tT c).isSome
 | .slice _ _ none (some _) none=>true
 | _=>false
def sJ:Op->Bool
 | .call c=>(match c.callee with|.value (.func _)=>true|_=>false)
 | _=>false
def Av(l:List (Nat × List Nat))(i:Nat):Bool:=l.any λp=>Nat.beq p.1 i
def zr(ops:Array Oper)(j i:Nat):Bool:=(clo ops j (Lz (ons (eE ops j)))).testBit i
def Zc(o:Oper):Bool:=match o.guard with|none=>true|some _=>false
def Zj(sch:List (Nat × List Nat))(i:Nat):Bool:=sch.any λp=>Nat.beq p.1 i&&!p.2.isEmpty
def YF(ops:Array Oper)(a b:Oper)(nm:Bool):Bool:=match b.dst with
 | none=>false
 | some c=>Zc a&&(X5 a.op || sJ a.op)&&!(match a.dst with|some d=>Nat.beq d c|none=>false)&&!(a.looksAt ops).any (Nat.beq c)&&Zc b&&!(b.looksAt ops).any (Nat.beq c)&&(nm || match rk b.op with|none=>true|some p=>!lE ops b p.2)
def G4(ops:Array Oper)(ds:List Nat)(nm:Nat->Bool)(i j:Nat):Bool:=
 bif tJ ds (eE ops j) then(bif tJ ds (eE ops i) then(dS (eE ops j) i || dS (eE ops i) j || (eE ops i).apart ops (eE ops j))&&(!x9 ops i j || dS (eE ops j) i)&&!(match(eE ops i).dst with|some d=>(match(eE ops j).dst with|some e=>Nat.beq d e|none=>false)|none=>false) else true)
 else(bif tJ ds (eE ops i) then(zr ops j i || zr ops i j || YF ops (eE ops j) (eE ops i) (nm i))&&(!x9 ops i j || dS (eE ops j) i) else true)
def Mt(ops:Array Oper)(ds:List Nat):List (Nat × List Nat)->Bool
 | []=>true
 | k::l=>Nat.blt k.1 ops.size&&!Av l k.1&&((eE ops k.1).after.toList.all λe=>!Region.binds .any e || !(Nat.beq k.1 e.on || Av l e.on)) &&
  (tJ ds (eE ops k.1) || ((l.all λj=>zr ops j.1 k.1)&&(below ops.size λp=>!tJ ds (eE ops p) || Av l p || zr ops k.1 p || k.2.any (Nat.beq p))&&(!(l.any λj=>tJ ds (eE ops j.1)) || (Zc (eE ops k.1)&&(X5 (eE ops k.1).op || sJ (eE ops k.1).op)))))&&Mt ops ds l
def Hq(ops:Array Oper)(ds:List Nat)(sch:List (Nat × List Nat)):Bool:=
 (below ops.size λj=>((eE ops j).after.toList.all λe=>!Region.binds .any e || Nat.blt e.on j)&&Av sch j&&(!tJ ds (eE ops j) || (match rk (eE ops j).op with|none=>true|some p=>!lE ops (eE ops j) p.2 || ds.any (Nat.beq p.2)))&&below ops.size λi=>Nat.beq i j || G4 ops ds (Zj sch) i j)&&Nat.beq sch.length ops.size&&Mt ops ds sch
def rh(tb:List (Nat × Nat × List Nat))(id:Nat)(ops:Array Oper):Bool:=
 match Df tb id with
 | some (m,ds)=>bif Nat.ble 65536 m then true else bif Nat.ble 256 m then Hq ops (ds.take (m - 256)) (dec (ds.drop (m - 256))) else(Nat.ble m ops.size&&below m λj=>match(eE ops j).dst with|some d=>ds.any (Nat.beq d)|none=>true)&&Hx ops m
 | none=>false
def nP(P:Program)(TE:Nat->Option TI)(N:gy)(ops:Array Oper)(o:Oper)(K:(Nat->AV)->Prop)(F:Nat->AV):Prop:=
 match PI F o with
 | some p=>(match o.dst with|some d=>bif lE ops o p.2 then Y8 TE N F d p.1 p.2 K else False|none=>False)
 | none=>iU P TE N ops o K F
def UA(P:Program)(TE:Nat->Option TI)(N:gy)(ops:Array Oper):Nat->List Oper->((Nat->AV)->Prop)->(Nat->AV)->Prop
 | 0,l,K,F=>R0 P TE N ops l K F
 | _+1,[],K,F=>K F
 | m+1,o::l,K,F=>nP P TE N ops o (UA P TE N ops m l K) F
def WW(ds:List Nat)(t:Nat):Bool:=ds.any (Nat.beq t)
def Zo(ds:List Nat):AV->AV
 | .ref t off st=>bif WW ds t then .dead else .ref t off st
 | .c2 t off st ag=>bif WW ds t then .dead else .c2 t off st ag
 | .fn f caps=>bif caps.any (WW ds) then .dead else .fn f caps
 | .Z k cs=>.Z k cs
 | .iref r off=>.iref r off
 | .fv Ok=>.fv Ok
 | .dead=>.dead
def clr(ds:List Nat)(F:Nat->AV):Nat->AV:=λt=>Zo ds (F t)
theorem GM(ds:List Nat)(F:Nat->AV)(t:Nat):clr ds F t=bif ds.any (λd=>(F t).uses d) then .dead else F t:=by
 unfold clr;cases F t with
 | dead=>cases ds.any λd=>AV.uses d .dead<;>rfl
 | Z k i=>
  have:ds.any (λd=>(AV.Z k i).uses d)=false:=by
   rw[<-SA,I7]
   rintro⟨d,_,h⟩
   cases h
  rw[this];rfl
 | iref r a=>
  have:ds.any (λd=>(AV.iref r a).uses d)=false:=by
   rw[<-SA,I7]
   rintro⟨d,_,h⟩
   cases h
  rw[this];rfl
 | fv Ok=>
  have:ds.any (λd=>(AV.fv Ok).uses d)=false:=by
   rw[<-SA,I7]
   rintro⟨d,_,h⟩
   cases h
  rw[this];rfl
 | ref j a l=>rfl
 | c2 j a l n=>rfl
 | fn f caps=>
  have:ds.any (λd=>(AV.fn f caps).uses d)=caps.any (WW ds):=by
   rw[C9,I7,I7];constructor
   ·rintro⟨d,b,h⟩
    simp only[AV.uses,I7]at h;obtain⟨c,e,g⟩:=h;exact⟨c,e,I7.2 ⟨d,b,g⟩⟩
   rintro⟨c,e,h⟩
   obtain⟨d,b,g⟩:=I7.1 h
   grind [AV.uses]
  rw[this];rfl
inductive Sm(a b:AV)(K:Prop):Prop
 |mk_ (h:a=b/\K)
def Sm.rf{a:AV}{K:Prop}(h:K):Sm a a K:=.mk_ ⟨rfl,h⟩
def CH:type_of% @Sm.rf:=@Sm.rf
def Sm.out{a b:AV}{K:Prop}(h:Sm a b K):a=b/\K:=h.1
def YT(P:Program)(TE:Nat->Option TI)(ops:Array Oper)(p:Nat)(K:Prop)(F:Nat->AV):Prop:=
 match(eE ops p).dst with
 | none=>False
 | some d=>(match PI F (eE ops p) with
   | some _=>False
   | none=>ew P TE F (eE ops p).op λa=>Sm a (F d) K)
def U8(P:Program)(TE:Nat->Option TI)(ops:Array Oper):List Nat->Prop->(Nat->AV)->Prop
 | [],K,_=>K
 | p::l,K,F=>YT P TE ops p (U8 P TE ops l K F) F
def Vp(P:Program)(TE:Nat->Option TI)(N:gy)(ops:Array Oper)(nm:Bool)(o:Oper)(K:(Nat->AV)->Prop)(F:Nat->AV):Prop:=
 match nm with
 | false=>nP P TE N ops o K F
 | true=>(match PI F o with
   | some _=>False
   | none=>iU P TE N ops o K F)
def QH(P:Program)(TE:Nat->Option TI)(N:gy)(ops:Array Oper)(ds:List Nat)(nm:Nat->Bool):List (Nat × List Nat)->((Nat->AV)->Prop)->(Nat->AV)->Prop
 | [],K,F=>K F
 | k::l,K,F=>bif tJ ds (eE ops k.1) then Vp P TE N ops (nm k.1) (eE ops k.1) (QH P TE N ops ds nm l K) F else l7 P TE N ops (eE ops k.1) (λa=>U8 P TE ops k.2 (QH P TE N ops ds nm l K a) a) F
def Ws:List Nat->(List Nat->Prop)->Prop
 | [],K=>K []
 | a::l,K=>Ws l λb=>K (a::b)
def P2:∀(l:List Nat)(K:List Nat->Prop),Ws l K=K l
 | [],_=>rfl
 | a::l,K=>by rw[Ws,P2 l]
def Jw(l:List Nat)(j:Nat):Bool:=l.any (Nat.beq j)
def Uc(ops:Array Oper)(done:List Nat):List Nat:=(List.range ops.size).filter λj=>!Jw done j&&((eE ops j).after.toList.all λe=>!Region.binds .any e || Jw done e.on)
def Z0(p:Nat->Prop):Nat->List Nat->Prop
 | i,[]=>p i
 | i,j::l=>p i/\Z0 p j l
def Zw(l:List Nat)(K:Prop)(p:Nat->Prop):Prop:=match l with
 | []=>K
 | i::l=>Z0 p i l
def XE(P:Program)(TE:Nat->Option TI)(N:gy)(ops:Array Oper)(K:(Nat->AV)->Prop):Nat->List Nat->(Nat->AV)->Prop
 | 0,done,F=>Zw (Uc ops done) (K F) λ_=>False
 | n+1,done,F=>Zw (Uc ops done) (K F) λi=>l7 P TE N ops (eE ops i) (XE P TE N ops K n (i::done)) F
def DD(P:Program)(TE:Nat->Option TI)(N:gy)(tb:List (Nat × Nat × List Nat))(id:Nat)(ops:Array Oper)(K:(Nat->AV)->Prop)(F:Nat->AV):Prop:=
 match Df tb id with
 | some (m,ds)=>bif Nat.ble 65536 m then XE P TE N ops K ops.size [] F else bif Nat.ble 256 m then Ws (ds.take (m - 256)) λa=>QH P TE N ops a (Zj (dec (ds.drop (m - 256)))) (dec (ds.drop (m - 256))) K (clr a F) else UA P TE N ops m ops.toList K (clr ds F)
 | none=>False
variable{i n:Nat}
theorem iS{p:Nat->Bool}(h:below n p=true)(a:i<n):p i=true:=O7.1 h i ψ
theorem dh{o:Oper} : dS o i=true↔∃e,e∈o.after/\Region.binds .any e=true/\e.on=i:=by grind [v4,Nat.beq_refl,dS]
theorem bM{ops:Array Oper}{o:Oper}(h:ops[i]? = some o):eE ops i=o:=by simp[eE,SD,h]
section
variable{P:Program}{w0 w w1:World}{M S0 S:am}{N:gy}{φ:Nat->am}{F:Nat->AV}{a:Act}{TE:Nat->Option TI}{ops:Array Oper}
variable{d:Nat}
theorem Gf{b:Bool}(a:F d=.Z .one [.v (.bool b)]):JA F d b=F:=by grind [v4,JA]
theorem jZ(o:Oper)(t:Nat)(h:t∈eK o.op):t∈o.looksAt ops:=by grind [Go.Oper.looksAt,eK,tm]
structure Zp(P:Program)(TE:Nat->Option TI)(N:gy)(ops:Array Oper)(o:Oper)(F:Nat->AV)(d:Nat)(av:AV):Prop where
 dst:o.dst=some d
 lt:N.free d=true
 self:av.uses d=false
 from_:fV F (o.looksAt ops) av
 at_:∀F':Nat->AV,j7 F F' (o.looksAt ops)->∀K':(Nat->AV)->Prop,K' (put F' d av)->iU P TE N ops o K' F'
def j7.refl(F:Nat->AV)(ts:List Nat):j7 F F ts:=λ_ _=>⟨rfl,λ_ _ _ _ h=>h⟩
theorem Cs:type_of% @j7.refl:=@j7.refl
variable{K:(Nat->AV)->Prop}{o:Oper}
theorem AB(h:iU P TE N ops o K F):∃d av,Zp P TE N ops o F d av/\K (put F d av):=by
 cases e:o.dst with
 | none=>
  exfalso;unfold iU at h;rw[e]at h;unfold gY at h
  grind [Bf.out]
 | some d=>
  have put1:∀{a:Nat->AV}{av:AV}{c:(Nat->AV)->Prop},N.free d=true->av.uses d=false->c (put a d av)->cn N a d av c:=λA B E=>by grind [cn]
  have put2:∀{a:Nat->AV}{av:AV}{c:(Nat->AV)->Prop},cn N a d av c->N.free d=true/\av.uses d=false/\c (put a d av):=fun {a av c} n=>by grind [cn]
  have pure1:ew P TE F o.op (λav=>cn N F d av K)->∃av,N.free d=true/\av.uses d=false/\K (put F d av)/\fV F (o.looksAt ops) av/\∀a:Nat->AV,j7 F a (o.looksAt ops)->∀c:(Nat->AV)->Prop,c (put a d av)->ew P TE a o.op (λav=>cn N a d av c):=λn=>by
   obtain⟨av,A,B,E⟩:=mB n
   grind [fV.mono,jZ,j7.mono]
  unfold iU at h;rw[e]at h;unfold gY at h;cases r:o.guard with
  | none=>
   rw[r]at h;obtain⟨av,i,k,l,w,C⟩:=pure1 h;exact⟨d,av,⟨e,i,k,w,λa f c t=>by unfold iU gY;simp_all⟩,l⟩
  | some p=>
   obtain⟨j,want⟩:=p;rw[r]at h;simp only at h;cases y:(ops[j]?).bind (·.dst) with
   | none=>grind
   | some u=>
    rw[y]at h;simp only at h;have q:u∈o.looksAt ops:=by grind [Go.Oper.looksAt]
    split at h
    case h_3=>exact h.elim
    case h_2=>
     rename_i J L g;obtain⟨i,k,l⟩:=put2 h;refine⟨d,.Z (.tup []) [],⟨e,i,k,(λd e=>by cases e),λa f c t=>?_⟩,l⟩;unfold iU gY;rw[r,e];simp only;rw[y];simp only;rw[(f u q).1.trans g];exact put1 i k t
    rename_i b g;have same:∀{a:Nat->AV},j7 F a (o.looksAt ops)->a u=.Z .one [.v (.bool b)]:=λf=>(f u q).1.trans g
    have back:∀{a:Nat->AV}{c:(Nat->AV)->Prop},j7 F a (o.looksAt ops)->(b=want->ew P TE a o.op (λav=>cn N a d av c))->(b = !want->cn N a d (.Z (.tup []) []) c)->iU P TE N ops o c a:=fun {a c} f A B=>by
     unfold iU gY;rw[r,e];simp only;rw[y];simp only;rw[same f];simp only;refine Bf.P (λG=>?_) (λG=>?_)
     all_goals grind [Gf]
    have D:=Gf g;replace h:=Bf.out h;by_cases H:b=want
    ·have n:ew P TE F o.op (λav=>cn N F d av K):=ψ
     obtain⟨av,i,k,l,w,C⟩:=pure1 n;exact⟨d,av,⟨e,i,k,w,λa f c t=>back f (λ_=>C a f c t) ψ⟩,l⟩
    have n:cn N F d (.Z (.tup []) []) K:=ψ
    obtain⟨i,k,l⟩:=put2 n;exact⟨d,.Z (.tup []) [],⟨e,i,k,(λd e=>by cases e),ψ⟩,l⟩
def aft:AV->AV
 | .Z k a=>.Z k (splice a 0 (List.replicate a.length .x))
 | _=>.Z .one [.x]
theorem Tl(v:AV)(e:Nat):(aft v).uses e=false:=by unfold aft;split<;>rfl
def eff(a:Option Nat)(d:Nat)(av:AV)(F:Nat->AV):Nat->AV:=λt=>if t=d then av else if a=some t then aft (F t) else F t
theorem Jx(av:AV)(a:∀t,(F t).uses d=false):put F d av=eff none d av F:=by grind [sD,kb,FB,eff]
variable{s:Nat}
theorem Yg{v:AV}(h:v.uses s=false):wy s v=v:=by
 cases v with
 | c2 t a b c=>grind [AV.uses,wy]
 | ref t a b=>simp only[AV.uses]at h;cases b<;>simp[wy,h]
 | _=>rfl
theorem Vs{k:Kd}{cs:List C}(av:AV)(a:F s=.Z k cs)(c:∀t,(F t).uses d=false)(e:∀t,(F t).uses s=false):put (updH F s k (splice cs 0 (List.replicate cs.length .x))) d av=eff (some s) d av F:=by
 funext t
 unfold eff;by_cases h:t=d
 ·grind [sD]
 rw[kb _ _ h,CJ h];by_cases b:t=s
 ·subst b;rw[kv,CL rfl,a];rfl
 grind [Nat.beq_eq,Yg,FB,updH]
theorem MN{T:Nat}{k:Kd}{c:C}(o:k=.one\/k=.agg)(p:F s=.Z k [c])(q:eO c=true)(h:iA TE N F d T 1 [(0,.tmp s)] K) :
  ∃av,N.free d=true/\(∀e,av.uses e=false)/\K (put (updH F s k [.x]) d av)/\∀(F':Nat->AV)(b:(Nat->AV)->Prop),F' s=.Z k [c]->b (put (updH F' s k [.x]) d av)->iA TE N F' d T 1 [(0,.tmp s)] b:=by
 have key:∀F':Nat->AV,F' s=.Z k [c]->∀b:(Nat->AV)->Prop,iA TE N F' d T 1 [(0,.tmp s)] b=Ns TE T λ_ a=>bif Nat.ble (1*a.size) 16777216 then(bif Nat.beq 1 a.size&&Nat.ble (0*a.size+a.size) (rep a.zero 1).length then cn N (updH F' s k [.x]) d (.Z .one [.s .own (chunk a.size 1 (splice (rep a.zero 1) (0*a.size) [c]))]) b else False) else False:=by
  intro F' f b;unfold iA
  congr 1
  funext e a
  rcases o with rfl|rfl<;>simp only[eB,fillW,Zl,yk,qm,f,jY,bp,q,cond_true,cond_false,iV,rL,List.length_singleton,List.replicate]
  all_goals rfl
 rw[key F p]at h;obtain⟨e,a,g,n⟩:=jP h;cases i:Nat.ble (1*a.size) 16777216 with
 | false=>grind
 | true=>
  cases j:(Nat.beq 1 a.size&&Nat.ble (0*a.size+a.size) (rep a.zero 1).length) with
  | false=>grind
  | true=>
   rw[i,j]at g;simp only[cond_true]at g;unfold cn at g;cases l:N.free d with
   | false=>grind
   | true=>
    rw[l]at g;refine⟨_,rfl,λ_=>rfl,g,λF' b f r=>?_⟩
    grind [cn]
variable{T:Option Nat}
theorem Yf{k:Kd}{cs:List C}(j:F s=.Z k cs)(l:own1 T k cs=true)(h:Y8 TE N F d T s K) :
  ∃av,N.free d=true/\(∀e,av.uses e=false)/\K (put (updH F s k (splice cs 0 (List.replicate cs.length .x))) d av)/\∀(F':Nat->AV)(a:(Nat->AV)->Prop),F' s=.Z k cs->a (put (updH F' s k (splice cs 0 (List.replicate cs.length .x))) d av)->Y8 TE N F' d T s a:=by
 cases T with
 | some T=>
  have f:(k=.one\/k=.agg)/\∃c,cs=[c]/\eO c=true:=by
   unfold own1 at l
   grind
  obtain⟨n,c,rfl,o⟩:=f;exact MN n j o h
 | none=>
  have f:∃b,k=.tup b/\bp cs=false:=by
   unfold own1 at l
   grind
  obtain⟨b,rfl,p⟩:=f;have key:∀F':Nat->AV,F' s=.Z (.tup b) cs->∀a,Y8 TE N F' d none s a=cn N (updH F' s (.tup b) (splice cs 0 (List.replicate cs.length .x))) d (.Z (.tup b) cs) a:=λF' g a=>by grind [Y8,kN]
  rw[key F j]at h;unfold cn at h;cases i:N.free d with
  | false=>grind
  | true=>
   rw[i]at h;refine⟨_,rfl,λ_=>rfl,h,λF' a g q=>?_⟩
   grind [cn]
structure Yl(P:Program)(TE:Nat->Option TI)(N:gy)(ops:Array Oper)(o:Oper)(F:Nat->AV)(mv:Option Nat)(d:Nat)(av:AV):Prop where
 dst:o.dst=some d
 lt:N.free d=true
 self:av.uses d=false
 from_:fV F (o.looksAt ops) av
 mvl:∀s,mv=some s->o.guard=none/\(∃T,rk o.op=some (T,s))/\lE ops o s=true
 at_:∀F':Nat->AV,j7 F F' (o.looksAt ops)->(∀t,(F' t).uses d=false)->(∀s,mv=some s->∀t,(F' t).uses s=false)->∀K':(Nat->AV)->Prop,K' (eff mv d av F')->nP P TE N ops o K' F'
theorem Ql{o:Op}(h:rk o=some (T,s)):(∃a ps,T=some a/\o=.buildSlice a 1 ps/\ps.toList=[(0,.tmp s)])\/(T=none/\o=.move (.tmp s)):=by
 unfold rk at h
 grind
theorem dQ(h:rk o.op=some (T,s)):s∈o.looksAt ops:=by
 refine jZ o s ?_;unfold eK;refine List.mem_flatMap.2 ⟨.tmp s,?_,by simp[tm]⟩
 grind [Ql,Go.Op.operands]
theorem J7{p:Option Nat × Nat}(h:PI F o=some p):o.guard=none/\rk o.op=some p/\∃k cs,F p.2=.Z k cs/\own1 p.1 k cs=true:=by grind [PI]
theorem zI{F':Nat->AV}(a:j7 F F' (o.looksAt ops)):PI F' o=PI F o:=by
 unfold PI;cases c:o.guard with
 | some _=>rfl
 | none=>
  cases b:rk o.op with
  | none=>rfl
  | some p=>simp only;rw[(a p.2 (dQ b)).1]
theorem vr(c:PI F o=none)(h:iU P TE N ops o K F)(e:∀d,o.dst=some d->∀t,(F t).uses d=false):∃d av,Yl P TE N ops o F none d av/\K (eff none d av F):=by
 obtain⟨d,av,a,f⟩:=AB h;refine⟨d,av,⟨a.dst,a.lt,a.self,a.from_,ψ,λg i j _ k b=>?_⟩,by grind [Jx,Zp.dst]⟩
 grind [zI,Zp.at_,Jx,nP]
theorem t6(h:nP P TE N ops o K F)(E:∀d,o.dst=some d->∀t,(F t).uses d=false)(y:∀T s,o.guard=none->rk o.op=some (T,s)->lE ops o s=true->∀t,(F t).uses s=false) :
  ∃r d av,Yl P TE N ops o F r d av/\K (eff r d av F):=by
 unfold nP at h;cases f:PI F o with
 | none=>
  grind [vr]
 | some p=>
  rw[f]at h;obtain⟨G,a,k,H,g,b⟩:=J7 f;simp only at h;cases i:o.dst with
  | none=>grind
  | some d=>
   rw[i]at h;simp only at h;cases c:lE ops o p.2 with
   | false=>grind
   | true=>
    rw[c]at h;simp only[cond_true]at h;obtain⟨av,A,u,J,B⟩:=Yf g b h;refine⟨some p.2,d,av,⟨i,A,u d,λe w=>(by rw[u e]at w;cases w),λs y=>?_,λC j l n D q=>?_⟩,?_⟩
    ·grind
    ·unfold nP
     rw[zI j,f];simp only;rw[i];simp only;rw[c];refine B C D ((j p.2 (dQ a)).1.trans g) ?_;rw[Vs av ((j p.2 (dQ a)).1.trans g) l (n p.2 rfl)];exact q
    grind [Vs]
theorem RG{nm:Bool}(h:Vp P TE N ops nm o K F)(b:∀d,o.dst=some d->∀t,(F t).uses d=false)(c:∀T s,o.guard=none->rk o.op=some (T,s)->lE ops o s=true->∀t,(F t).uses s=false) :
  ∃a d av,Yl P TE N ops o F a d av/\K (eff a d av F)/\(nm=true->a=none):=by
 unfold Vp at h
 grind [t6,vr]
end
section
variable{P:Program}{w0 w w1:World}{M S0 S:am}{N:gy}{φ:Nat->am}{F:Nat->AV}{a:Act}{TE:Nat->Option TI}{ops:Array Oper}
def AH(P:Program)(TE:Nat->Option TI)(N:gy)(ops:Array Oper)(m i:Nat)(K:(Nat->AV)->Prop)(F:Nat->AV):Prop:=
 match ops[i]? with
 | none=>K F
 | some o=>if i<m then nP P TE N ops o K F else l7 P TE N ops o K F
def N9(P:Program)(TE:Nat->Option TI)(N:gy)(ops:Array Oper)(m:Nat)(K:(Nat->AV)->Prop):Nat->Array Bool->(Nat->AV)->Prop
 | 0,listed,F=>Region.ready .any ops listed=[]/\K F
 | fuel+1,listed,F=>(Region.ready .any ops listed=[]->K F)/\∀i,i∈Region.ready .any ops listed->AH P TE N ops m i (N9 P TE N ops m K fuel (listed.setIfInBounds i true)) F
variable{Q:Exit->Act->World->Prop}{Kc:Act->World->Prop}{K:(Nat->AV)->Prop}{o:Oper}
theorem bq.oneP0(h:bq w0 M S0 N S φ F a w)(c:∀t i,TE t=some i->j9 P t i)(b:iU P TE N ops o K F)(p:∀F' j e,K F'->St w0 M S0 N F' j e->Kc j e) :
  if Region.wanted o (yielded ops a.tmps) then o.wp P a w Kc Q else Kc (a.put o.dst undef) w:=by
 unfold iU at b;rcases AO h b with⟨f,b⟩|⟨f,b⟩
 ·rw[f,CL rfl]
  cases g:o.dst with
  | none=>grind
  | some d=>
   rw[g]at b;obtain⟨av,k,l⟩:=h.pure_ c b;refine l Kc Q λv e q=>?_
   grind [bq.putD_new]
 rw[f,CJ (by simp)];cases g:o.dst with
 | none=>grind
 | some d=>
  rw[g]at b;obtain⟨F',k,n⟩:=h.putD_new (v:=undef) (o6.same (av:=.Z (.tup []) []) UZ) b
  grind
variable{d:Nat}
def RT{p:Option Nat × Nat}(f:PI F o=some p)(c:o.dst=some d)(h:Y8 TE N F d p.1 p.2 K):l7 P TE N ops o K F:=by
 obtain⟨e,a,-⟩:=J7 f;obtain⟨T,s⟩:=p;rcases Ql a with⟨i,j,rfl,b,g⟩|⟨rfl,b⟩
 ·unfold l7 gY
  rw[e];simp only;rw[b];simp only[Gy];rw[c];simp only[mO,g];exact h
 unfold l7 gY;rw[e];simp only;rw[b];simp only[Gy];rw[c];simp only[mO];exact h
theorem bq.oneP(h:bq w0 M S0 N S φ F a w)(c:∀t i,TE t=some i->j9 P t i)(b:nP P TE N ops o K F)(g:∀F' j k,K F'->St w0 M S0 N F' j k->Kc j k) :
  if Region.wanted o (yielded ops a.tmps) then o.wp P a w Kc Q else Kc (a.put o.dst undef) w:=by
 unfold nP at b;cases e:PI F o with
 | none=>rw[e]at b;exact h.oneP0 c b g
 | some p=>
  rw[e]at b;simp only at b;cases l:o.dst with
  | none=>grind
  | some d=>
   rw[l]at b;simp only at b;cases f:lE ops o p.2 with
   | false=>grind
   | true=>
    rw[f]at b;have:=h.one c (RT (P:=P) (ops:=ops) e l b) (Q:=Q) g
    grind
variable{m i:Nat}
theorem Nv(c:∀t i,TE t=some i->j9 P t i)(b:AH P TE N ops m i K F)(g:St w0 M S0 N F a w)(d:∀F' e f,K F'->St w0 M S0 N F' e f->Kc e f):wpOp P ops Q i Kc a w:=by
 unfold AH at b;unfold wpOp;cases j:ops[i]? with
 | none=>grind
 | some o=>
  rw[j]at b;simp only at b |-;obtain⟨S,φ,h⟩:=g;have:if Region.wanted o (yielded ops a.tmps) then o.wp P a w Kc Q else Kc (a.put o.dst undef) w:=by
   split at b
   ·exact h.oneP c b d
   exact h.one c b d
  grind
def Gi(b:∀t i,TE t=some i->j9 P t i){m:Nat}{K:(Nat->AV)->Prop}{Q:Exit->Act->World->Prop}(g:∀F' d e,K F'->St w0 M S0 N F' d e->Q .normal d e) :
  ∀(fuel:Nat)(listed:Array Bool)(F:Nat->AV)(a:Act)(w:World),N9 P TE N ops m K fuel listed F->St w0 M S0 N F a w->wpAny P .any ops Q fuel listed a w
 | 0,_,F,a,w,c,f=>⟨c.1,g F a w c.2 f⟩
 | fuel+1,_,F,a,w,c,f=>⟨λj=>g F a w (c.1 j) f,λi k=>Nv b (c.2 i k) f λF' d e l h=>Gi b g fuel _ F' d e l h⟩
structure Gv(ops:Array Oper)(m:Nat)(F:Nat->AV)(listed:Array Bool):Prop where
 dst:∀j o d,j<m->ops[j]? = some o->listed.getD j true=false->o.dst=some d->∀t,(F t).uses d=false
 mv:∀j o T s,j<m->ops[j]? = some o->listed.getD j true=false->o.guard=none->rk o.op=some (T,s)->lE ops o s=true->∀t,(F t).uses s=false
def DC(ops:Array Oper)(listed:Array Bool):Prop:=∀j a,ops[j]? = some a->listed.getD j false=true->∀k,dS a k=true->listed.getD k false=true
variable{e:Nat}
theorem Xd{v:AV}(h:(kl d v).uses e=true):v.uses e=true/\v.uses d=false:=by
 rw[FB]at h;cases a:v.uses d with
 | true=>rw[a]at h;cases h
 | false=>grind
theorem AC{α:Type}{p:α->Bool} : ∀{l:List α}{i j:Nat}{x y:α},(l.filter p).length<=1->l[i]? = some x->l[j]? = some y->p x=true->p y=true->i=j
 | [],_,_,_,_,_,h,_,_,_=>by simp at h
 | a::l,0,0,_,_,_,_,_,_,_=>rfl
 | a::l,i+1,j+1,x,y,h,b,c,d,e=>by
  rw[AC (l:=l) (I9 (List.Sublist.length_le ((List.sublist_cons_self a l).filter p)) h) b c d e]
 | a::l,0,j+1,x,y,h,b,c,d,e=>by
  simp only[List.getElem?_cons_zero,C2]at b;subst b;rw[List.filter_cons_of_pos d]at h;have:y∈l.filter p:=S8.2 ⟨t4 c,e⟩;have:=List.length_pos_of_mem this;rw[List.length_cons]at h;omega
 | a::l,i+1,0,x,y,h,b,c,d,e=>by
  simp only[List.getElem?_cons_zero,C2]at c;subst c;rw[List.filter_cons_of_pos e]at h;have:x∈l.filter p:=S8.2 ⟨t4 b,d⟩;have:=List.length_pos_of_mem this;rw[List.length_cons]at h;omega
variable{j:Nat}{listed:Array Bool}
theorem kn{a:Nat}(b:(listed.setIfInBounds j true).getD a true=false):a≠j:=λe=>by simp_all
variable{av:AV}{t:Nat}
theorem mw{a:Option Nat}(b:av.uses e=false)(c:(F t).uses e=false):(eff a d av F t).uses e=false:=by grind [Tl,eff]
theorem Gv.put{o:Option Nat}(h:Gv ops m F listed)(p:∀a b g,a<m->a≠j->ops[a]? = some b->listed.getD a true=false->b.dst=some g->av.uses g=false)(q:∀a b T s,a<m->a≠j->ops[a]? = some b->listed.getD a true=false->b.guard=none->rk b.op=some (T,s)->lE ops b s=true->av.uses s=false) :
  Gv ops m (eff o d av F) (listed.setIfInBounds j true):=by
 refine⟨λa b g i c e k t=>?_,λa b T s i c e r l n t=>?_⟩
 ·have f:=kn e
  rw[getD_set_ne true (Ne.symm f)]at e;exact mw ψ (h.dst a b g i c e k t)
 have f:=kn e;rw[getD_set_ne true (Ne.symm f)]at e;exact mw ψ (h.mv a b T s i c e r l n t)
inductive r6(ops:Array Oper):Nat->Nat->Prop
 |one {j i:Nat} (h:dS (eE ops j) i=true):r6 ops j i
 |step {j k i:Nat} (h:dS (eE ops j) k=true) (h2:r6 ops k i):r6 ops j i
def r6.trans{k:Nat}(h:r6 ops j k)(h2:r6 ops k i):r6 ops j i:=by
 induction h with
 | one h=>exact .step h h2
 | step h _ a=>exact .step h (a h2)
theorem LM{i:Nat} : ∀{a:List Nat},(Lz a).testBit i=true->i∈a
 | [],h=>by simp[Lz]at h
 | k::a,h=>by
  rw[Lz,Nat.testBit_or,CD]at h;rcases h with h|h
  ·grind
  exact OA _ (LM h)
theorem A5(h:(Lz (ons o)).testBit i=true):dS o i=true:=by
 have:=LM h
 grind [dh,ons]
def wX{j:Nat} : ∀(k S:Nat),(∀i,S.testBit i=true->r6 ops j i)->∀i,(clo ops k S).testBit i=true->r6 ops j i
 | 0,_,h,i,a=>h i a
 | k+1,S,h,i,a=>by
  rw[clo,V5]at a;cases c:S.testBit k with
  | false=>rw[c]at a;exact wX k S h i a
  | true=>
   rw[c]at a;refine wX k _ (λe b=>?_) i a;rw[Nat.testBit_or,CD]at b;rcases b with d|d
   ·exact h e d
   exact(h k c).trans (.one (A5 d))
theorem qG(d:DC ops listed)(b:∀j n,ops[j]? = some n->∀e∈n.after,Region.binds .any e=true->e.on<j)(o:r6 ops j i):j<ops.size->(∀k,dS (eE ops j) k=true->listed.getD k false=true)->listed.getD i false=true:=by
 induction o with
 | one h=>grind
 | @step j k i h h2 ih=>
  intro f p;have r:k<j:=by
   have c:=(show ops[j]? = some ops[j] from ID f)
   rw[bM c]at h;obtain⟨e,g,l,rfl⟩:=dh.1 h;exact b j _ c e g l
  have a:k<ops.size:=ω
  have c:=(show ops[k]? = some ops[k] from ID a)
  exact ih a λq a=>d k _ c (p k h) q (by rw[bM c]at a;exact a)
theorem DC.put(h:DC ops listed)(d:j∈Region.ready .any ops listed):DC ops (listed.setIfInBounds j true):=by
 obtain⟨l,n,f,b⟩:=mem_ready.1 d;intro k ok g c e i;by_cases a:k=j
 ·grind [dh,Go.getD_set_true]
 rw[getD_set_ne false (Ne.symm a)]at c;exact getD_set_true (h k ok g c e i)
theorem iF{s:Nat}(h:lE ops o s=true):(∃k ok,dS o k=true/\ops[k]? = some ok/\ok.dst=some s)/\∀(i j:Nat)(a b:Oper),ops[i]? = some a->ops[j]? = some b->s∈a.looksAt ops->s∈b.looksAt ops->i=j:=by
 unfold lE at h;rw[I0]at h;obtain⟨q,c⟩:=h;constructor
 ·grind [bM,v4]
 intro i j a b d e f g;have l:=O2 c;have n:ops.toList[i]? = some a:=by simpa using d
 have p:ops.toList[j]? = some b:=by simpa using e
 grind [Nat.beq_refl,AC]
structure XW(ops:Array Oper)(m:Nat):Prop where
 back:∀j oj,ops[j]? = some oj->∀e∈oj.after,Region.binds .any e=true->e.on<j
 tail:∀j,m<=j->j<ops.size->∀i,i<j->r6 ops j i
 apart:∀i j oi oj,i<m->j<m->i≠j->ops[i]? = some oi->ops[j]? = some oj->dS oj i=true\/dS oi j=true\/oi.apart ops oj=true
 look:∀i j oi oj d,i<m->j<m->i≠j->ops[i]? = some oi->ops[j]? = some oj->oi.dst=some d->d∈oj.looksAt ops->dS oj i=true
theorem Mm(h:Hx ops m=true):XW ops m:=by
 have o:∀j b,ops[j]? = some b->_:=λj b a=>iS h (I6.1 a).1
 refine⟨λj b a e t p=>?_,λj u a i f=>?_,λi j q b f a g r k=>?_,λi j q b d f a g r k w y=>?_⟩
 ·grind [bM,Nat.blt_eq]
 ·have l:=(show ops[j]? = some ops[j] from ID a)
  have:=o j _ l;simp only[I0]at this;have c:=this.2;rw[show Nat.blt j m=false by rw[<-SA,Nat.blt_eq];omega]at c;simp only[cond_false,V5]at c;exact wX j _ (λA n=>.one (A5 n)) i (iS c f)
 ·grind [bM,Nat.blt_eq,iS,Nat.beq_eq]
 have:=o j b k;rw[bM k]at this;simp only[I0]at this;have c:=this.2;rw[show Nat.blt j m=true by simpa[Nat.blt_eq] using a]at c
 grind [iS,bM,Nat.beq_eq,x9]
theorem QG(V:XW ops m){c:Oper}{u:Option Nat}(R:ops[i]? = some c)(w:i<m) :
  ∀(fuel:Nat)(listed:Array Bool)(F:Nat->AV),i∈Region.ready .any ops listed->Gv ops m F listed->DC ops listed->Yl P TE N ops c F u d av->N9 P TE N ops m K fuel (listed.setIfInBounds i true) (eff u d av F)->N9 P TE N ops m K (fuel+1) listed F:=by
 have self:∀(listed:Array Bool)(F:Nat->AV),i∈Region.ready .any ops listed->Gv ops m F listed->Yl P TE N ops c F u d av->∀S:(Nat->AV)->Prop,S (eff u d av F)->nP P TE N ops c S F:=λlisted F W a g S hK=>by
  have b:=(mem_ready.1 W).1;refine g.at_ F (Cs _ _) (a.dst i c d w R b g.dst) (λs X=>?_) S hK;obtain⟨A,⟨T,h2⟩,h3⟩:=g.mvl s X;exact a.mv i c T s w R b A h2 h3
 intro fuel
 induction fuel with
 | zero=>
  intro listed F W a E g H;refine⟨ψ,λj Y=>?_⟩;by_cases n:j=i
  ·grind [AH]
  have:=ready_mono Y n;rw[H.1]at this;cases this
 | succ fuel ih=>
  intro listed F W a E g H;refine⟨ψ,λj Y=>?_⟩;by_cases n:j=i
  ·grind [AH]
  have A:=H.2 j (ready_mono Y n);obtain⟨B,f,o,hall⟩:=mem_ready.1 Y;have b:=(mem_ready.1 W).1;have unl:∀k,listed.getD k true=false->listed.getD k false=true->False:=ψ
  have noedge:∀k ok,ops[k]? = some ok->listed.getD k true=false->dS f k=false:=λk ok hk Z=>by grind [dh]
  have noedge':∀k ok,ops[k]? = some ok->listed.getD k true=false->dS c k=false:=λk ok hk Z=>by grind [dh,Go.mem_ready]
  have G:j<m:=by
   rcases Nat.lt_or_ge j m with h|h
   ·exact h
   have C:=(I6.1 o).1;refine(unl i b (qG E V.back (V.tail j h C i ω) C λk hk=>?_)).elim
   grind [bM,dh]
  have hap:c.apart ops f=true:=by grind [XW.apart]
  obtain⟨ap1,ap2,ap3⟩:=Oper.apart_spec hap;unfold AH at A |-;rw[o]at A |-;simp only[CL G]at A |-;have hdl:d∉f.looksAt ops:=ap1 d g.dst;have cd:∀t,(F t).uses d=false:=a.dst i c d w R b g.dst
  have cdj':∀l,f.dst=some l->∀t,(F t).uses l=false:=λl J=>a.dst j f l G o B J
  have cmv:∀s,u=some s->(∀t,(F t).uses s=false)/\s∉f.looksAt ops/\s∈c.looksAt ops:=λs X=>by
   obtain⟨L,⟨T,q⟩,r⟩:=g.mvl s X;exact⟨a.mv i c T s w R b L q r,λhl=>n ((iF r).2 i j c f R o (dQ q) hl).symm,dQ q⟩
  have cmvj:∀T s,f.guard=none->rk f.op=some (T,s)->lE ops f s=true->(∀t,(F t).uses s=false)/\s∉c.looksAt ops/\s∈f.looksAt ops:=λT s L q r=>
   ⟨a.mv j f T s G o B L q r,λhl=>n ((iF r).2 i j c f R o hl (dQ q)).symm,dQ q⟩
  have avno:∀e,e∉c.looksAt ops->(∀t,(F t).uses e=false)->av.uses e=false:=λe A h2=>by
   cases hu:av.uses e with
   | false=>rfl
   | true=>
    rcases g.from_ e hu with h|⟨t,_,h⟩
    all_goals grind
  obtain⟨mvj,l,avj,p,hKj⟩:=t6 A (λl J t=>mw ψ (cdj' l J t)) (λT s L q r t=>by grind [mw]);have hdne:d≠l:=λe=>ap2 d g.dst (by rw[p.dst,e])
  have hdjl:l∉c.looksAt ops:=ap3 l p.dst;have cdj:∀t,(F t).uses l=false:=cdj' l p.dst
  have cmj:∀s,mvj=some s->(∀t,(F t).uses s=false)/\s∉c.looksAt ops/\s∈f.looksAt ops:=λs X=>by
   obtain⟨L,⟨T,q⟩,r⟩:=p.mvl s X
   grind
  have lookj:∀t,t∈f.looksAt ops->eff u d av F t=F t:=λt U=>by grind [eff]
  have looki:∀t,t∈c.looksAt ops->eff mvj l avj F t=F t:=λt U=>by grind [eff]
  have avjno:∀e,e∉f.looksAt ops->(∀t,(F t).uses e=false)->avj.uses e=false:=λe A h2=>by
   cases hu:avj.uses e with
   | false=>rfl
   | true=>
    rcases p.from_ e hu with h|⟨t,U,h⟩
    all_goals grind
  have agrj:j7 (eff u d av F) F (f.looksAt ops):=λt U=>by grind [eff]
  refine p.at_ F agrj cdj ψ _ (ih (listed.setIfInBounds j true) (eff mvj l avj F) (ready_mono W (Ne.symm n)) (a.put (λj' o' d' M D y O Q=>?_) (λj' o' T s M D y O L q r=>?_)) (E.put Y) ?_ ?_)
  ·refine avjno d' (λh=>?_) (a.dst j' o' d' M y O Q)
   grind [XW.look]
  ·exact avjno s (λh=>D ((iF r).2 j' j o' f y o (dQ q) h)) (a.mv j' o' T s M y O L q r)
  ·refine⟨g.dst,g.lt,g.self,λe he=>?_,g.mvl,λF' hA Q hs' S hK=>g.at_ F' (λt U=>?_) Q hs' S hK⟩
   ·rcases g.from_ e he with h|⟨t,U,h⟩
    all_goals grind
   obtain⟨a1,a2⟩:=hA t U
   grind [eff]
  rw[Array.setIfInBounds_comm _ _ n];have:eff u d av (eff mvj l avj F)=eff mvj l avj (eff u d av F):=by grind [eff]
  grind
theorem lS{o:Op}{K a:AV->Prop}(h:ew P TE F o K)(b:∀av,K av->a av):ew P TE F o a:=by
 obtain⟨av,c,-,d⟩:=mB h
 grind [Cs]
theorem bE{a:(Nat->AV)->Prop}(h:cn N F d av K)(b:∀F',K F'->a F'):cn N F d av a:=by grind [cn]
variable{y:Operand}
theorem gz{K b:(Nat->AV)->Option Nat->List C->Prop}(h:iV F y K)(g:∀F' ag cs,K F' ag cs->b F' ag cs):iV F y b:=by
 cases y with
 | tmp t=>
  simp only[iV]at h |-;cases d:F t with
  | Z k cs=>
   grind
  | c2 e f c ag=>
   rw[d]at h;cases c with
   | cons s c=>
    simp only at h |-;cases a:F e with
    | Z k cs=>
     rw[a]at h;obtain⟨r,j,i,l,n,o⟩:=Lq.out h;exact .mk_ ψ
    | _=>grind
   | nil=>
    grind
  | _=>grind
 | _=>exact h.elim
variable{x:Operand}
theorem Fk{K a:AV->Prop}(h:bO F x K)(b:∀av,K av->a av):bO F x a:=by
 obtain⟨av,c,-,d⟩:=mn h
 grind [Cs]
theorem Lc{a:(Nat->AV)->Prop}(h:mZ N F d x K)(j:∀F',K F'->a F'):mZ N F d x a:=by
 have i:∀y,bO F y (λb=>cn N F d b K)->bO F y (λb=>cn N F d b a):=λy h=>Fk h λb h=>bE h j
 have k:∀y,iV F y (λF' c e=>cn N F' d (.Z (o7 c) e) K)->iV F y (λF' c e=>cn N F' d (.Z (o7 c) e) a):=λy h=>gz h λF' c e h=>bE h j
 cases x with
 | tmp t=>
  grind [mZ]
 | const v=>exact i (.const v) h
 | global g=>exact i (.global g) h
 | func f=>exact i (.func f) h
theorem Vy{a:(Nat->AV)->Prop}(h:Jv N F d x K)(b:∀F',K F'->a F'):Jv N F d x a:=by grind [bE,Lc,Jv,P9]
variable{b:(Nat->AV)->Prop}
theorem FR{cs:List C}(h:uv F x cs K)(d:∀F',K F'->b F'):uv F x cs b:=by
 cases x with
 | tmp t=>
  simp only[uv]at h |-;cases e:F t with
  | Z k f=>
   grind [eB]
  | ref g i c=>
   rw[e]at h;cases c with
   | cons s c=>
    simp only at h |-;cases a:F g with
    | Z k f=>
     rw[a]at h;obtain⟨r,j,l,n,o,p⟩:=Pu.out h;exact Pu.mk l n o rfl (d _ p)
    | _=>grind
   | nil=>
    grind [eB]
  | _=>grind
 | _=>exact h.elim
variable{T:Nat}
theorem Ak{a:(Nat->AV)->Prop}(h:pf TE F T x y K)(b:∀F',K F'->a F'):pf TE F T x y a:=by
 unfold pf at h |-;split at h
 all_goals grind [dr,Cs,FR,gz]
theorem NR{g:Option (Nat × Bool)}{K1 a K1' K0':(Nat->AV)->Prop}(h:gY F ops g K1 a)(h1:∀F,K1 F->K1' F)(b:∀F,a F->K0' F):gY F ops g K1' K0':=by
 unfold gY at h |-;split at h
 ·exact h1 _ h
 rename_i j want;split at h
 all_goals grind [Bf.out,Bf.in_]
theorem xo{K a:(Nat->AV)->Option Nat->List C->Prop}(h:yk F x K)(c:∀F' ag cs,K F' ag cs->a F' ag cs):yk F x a:=by
 obtain⟨ag,cs,d,b⟩:=dr h;refine b F (Cs _ _) _ ?_
 grind [gz]
theorem lN{c:Nat->Option (Nat × Nat)} : ∀{parts:List (Nat × Operand)}{cs:List C}{K a:(Nat->AV)->List C->Prop}{F:Nat->AV},fillW c parts cs K F->(∀F' cs,K F' cs->a F' cs)->fillW c parts cs a F
 | [],cs,K,a,F,h,b=>b _ _ h
 | p::rest,cs,K,a,F,h,b=>by
  simp only[fillW]at h |-;split at h
  case h_2=>exact h.elim
  rename_i q e;refine xo h λF' f xs h=>?_
  cases d:(Nat.beq xs.length q.2&&Nat.ble (q.1+q.2) cs.length) with
  | false=>grind
  | true=>
   rw[d]at h;simp only[cond_true,eB]at h |-;exact lN h b
variable{parts:List (Nat × Operand)}
theorem KY{a:(Nat->AV)->Prop}(h:nt TE N F d T parts K)(b:∀F',K F'->a F'):nt TE N F d T parts a:=by grind [lN,bE,nt]
theorem Jq{n:Nat}{a:(Nat->AV)->Prop}(h:iA TE N F d T n parts K)(c:∀F',K F'->a F'):iA TE N F d T n parts a:=by
 obtain⟨e,f,h,b⟩:=jP h;refine b _ ?_
 grind [bE,eB,lN,rL]
theorem Ke{K a:Bool->(Nat->AV)->List (List C)->Prop}(h:HS F y K)(c:∀b F' xr,K b F' xr->a b F' xr):HS F y a:=by
 unfold HS at h |-;split at h
 all_goals grind [gz,dr,Cs]
theorem Fy{K a:(Nat->AV)->List (List C)->Prop}(h:G0 F x K)(c:∀F' xr,K F' xr->a F' xr):G0 F x a:=by
 obtain⟨d,e,f,b⟩:=dr h;refine b F (Cs _ _) _ ?_
 grind [gz]
theorem QK{a:(Nat->AV)->Prop}(h:Ga TE N F d T x y K)(f:∀F',K F'->a F'):Ga TE N F d T x y a:=by
 obtain⟨e,p,h,g⟩:=jP h;refine g _ (Ke h λb F' q h=>Fy h λF'' c h=>?_);obtain⟨i,j,k,l,n,o⟩:=h.out;exact Ca i j k l n rfl (bE o f)
theorem JH{a:(Nat->AV)->Prop}(h:tw TE N F d T x K)(b:∀F',K F'->a F'):tw TE N F d T x a:=by
 unfold tw at h |-;split at h
 all_goals grind [gz,bE]
theorem Nk(h:kN N F d x K)(c:∀F',K F'->b F'):kN N F d x b:=by
 have std:∀{y:Operand},bO F y (λa=>cn N F d a K)->bO F y (λa=>cn N F d a b):=λh=>Fk h λa h=>bE h c
 cases x with
 | tmp t=>
  simp only[kN]at h |-
  grind [bE]
 | const v=>grind [kN]
 | global g=>grind [kN]
 | func f=>grind [kN]
theorem N4{a:(Nat->AV)->Prop}(h:xx N F d x K)(b:∀F',K F'->a F'):xx N F d x a:=by
 unfold xx at h |-;split at h
 case h_2=>exact h.elim
 split at h
 all_goals grind [Nt.out,Nt.mk,bE]
theorem KO{a:(Nat->AV)->Prop}(h:sX N F d x K)(b:∀F',K F'->a F'):sX N F d x a:=by
 unfold sX at h |-
 grind [bE]
variable{c:(Nat->AV)->Prop}
theorem UW{b:Operand}(h:Lo TE N F d T x b K)(f:∀F',K F'->c F'):Lo TE N F d T x b c:=by
 unfold Lo at h |-;obtain⟨e,q,h,a⟩:=jP h;refine a _ ?_;obtain⟨n,g,i⟩:=qE h;refine i F (Cs _ _) _ (gz g λF' r t h=>?_);split at h
 case h_2=>exact h.elim
 obtain⟨m,y,j,k,l,o,p,h⟩:=h.out;exact .mk_ ⟨m,y,j,k,l,o,p,_,rfl,bE h f⟩
theorem KE{b:Op}{e:(Nat->AV)->Prop}(h:mO P TE N d b K F)(a:∀F',K F'->e F'):mO P TE N d b e F:=by
 cases b with
 | assign x=>exact Vy h a
 | box T x=>grind [xo,bE,mO,UQ]
 | build T g=>exact KY h a
 | buildSlice T n g=>exact Jq h a
 | range T x=>exact JH h a
 | move x=>exact Nk h a
 | next x str=>
  cases str with
  | true=>exact h.elim
  | false=>exact N4 h a
 | entry x=>exact KO h a
 | call c=>
  grind [lS,bE,QK,mO]
 | slice T x i f j=>
  cases i with
  | some _=>grind [lS,bE,mO]
  | none=>
   cases f with
   | none=>grind [lS,bE,mO]
   | some f=>
    cases j with
    | some _=>grind [lS,bE,mO]
    | none=>
     grind [lS,bE,UW,mO]
 | _=>grind [lS,bE,mO]
theorem gJ{off n:Nat}{st:dx}{K a:(Nat->AV)->List C->Prop}(h:lendAt F t off st n K)(b:∀F' cs,K F' cs->a F' cs):lendAt F t off st n a:=by
 unfold lendAt at h |-;split at h
 case h_2=>exact h.elim
 split at h
 ·grind [eB]
 obtain⟨r,j,c,d,e,f⟩:=Lq.out h;refine .mk_ ?_
 grind
theorem dl:∀{xs:List (Operand × Nat)}{K a:(Nat->AV)->List (MA × uE)->Prop}{F:Nat->AV},lendP xs K F->(∀F' l,K F' l->a F' l)->lendP xs a F
 | [],K,a,F,h,b=>b _ _ h
 | (x,0)::xs,K,a,F,h,b=>dl (xs:=xs) h ψ
 | (x,1)::xs,K,a,F,h,b=>by
  simp only[lendP]at h |-;split at h
  case h_2=>exact h.elim
  split at h
  ·exact gJ h λF' c h=>dl h ψ
  ·exact gJ h λF' c h=>dl h ψ
  ·exact gJ h λF' c h=>dl h ψ
  exact h.elim
 | (x,n+2)::xs,K,a,F,h,b=>by
  simp only[lendP]at h |-;split at h
  case h_2=>exact h.elim
  split at h
  ·split at h
   ·exact dl h ψ
   exact h.elim
  ·exact dl h ψ
  exact h.elim
theorem lO:∀{l:List (MA × uE)}{xs:List Operand}{K a:Bool->List MA->Prop},valsP F l xs K->(∀b A,K b A->a b A)->valsP F l xs a
 | [],[],K,a,h,c=>c _ _ h
 | (m,.no)::l,x::xs,K,a,h,c=>by
  obtain⟨f,g,d,e⟩:=dr h;refine e F (Cs _ _) _ (lO d λb A h=>?_)
  grind
 | (m,.at_ t off st)::l,x::xs,K,a,h,c=>lO (l:=l) (xs:=xs) h ψ
 | (m,.box t)::l,x::xs,K,a,h,c=>lO (l:=l) (xs:=xs) h ψ
 | [],_::_,K,a,h,c=>h.elim
 | (m,.no)::l,[],K,a,h,c=>h.elim
 | (m,.at_ t off st)::l,[],K,a,h,c=>h.elim
 | (m,.box t)::l,[],K,a,h,c=>h.elim
theorem eG{K b:(Nat->AV)->Prop}(a:∀F',K F'->b F'):∀{l:List (MA × uE)}{B:List MA}{F:Nat->AV},jy l B K F->jy l B b F
 | [],[],F,h=>a _ h
 | [],_::_,F,h=>h.elim
 | (m,.no)::l,[],F,h=>h.elim
 | (m,.at_ t off st)::l,[],F,h=>h.elim
 | (m,.box t)::l,[],F,h=>h.elim
 | (m,.no)::l,.val _ _::B,F,h=>eG a (l:=l) (B:=B) h
 | (m,.no)::l,.mut _ _::B,F,h=>eG a (l:=l) (B:=B) h
 | (m,.no)::l,.ptr _::B,F,h=>eG a (l:=l) (B:=B) h
 | (m,.at_ t off st)::l,.val _ _::B,F,h=>h.elim
 | (m,.at_ t off st)::l,.ptr _::B,F,h=>h.elim
 | (m,.box t)::l,.val _ _::B,F,h=>h.elim
 | (m,.box t)::l,.mut _ _::B,F,h=>h.elim
 | (m,.at_ t off st)::l,.mut ag out::B,F,h=>by
  simp only[jy]at h |-;split at h
  case h_2=>exact h.elim
  split at h
  ·rename_i k c _ _
   cases d:Nat.ble (off+out.length) c.length with
   | false=>grind
   | true=>
    rw[d]at h;simp only[cond_true,eB]at h |-;exact eG a h
  obtain⟨r,j,e,f,g,i⟩:=Pu.out h;exact Pu.mk e f g rfl (eG a i)
 | (m,.box t)::l,.ptr out::B,F,h=>by
  simp only[jy]at h |-;split at h
  ·exact eG a h
  exact h.elim
variable{modes:List Nat}{args:List Operand}{f:Nat}
theorem NZ{d:Option Nat}{a:(Nat->AV)->Prop}(h:nH P N F d f args modes K)(j:∀F',K F'->a F'):nH P N F d f args modes a:=by
 unfold nH at h |-;refine dl h λF' l h=>?_
 cases c:(yM l&&Nat.beq args.length modes.length) with
 | false=>grind
 | true=>
  rw[c]at h;refine lO h λb A h=>?_
  obtain⟨n,B,k,rcs,e,g,i⟩:=cg.out h;refine CO e g (eG (λF'' h=>?_) i)
  grind [bE]
theorem n6{F:Nat->AV}{K a:Nat->Nat->Prop}(h:Ew F x K)(b:∀t o,K t o->a t o):Ew F x a:=by grind [vS,Ew]
theorem RQ{d:Option Nat}{cs:List C}{c a b:Nat}{f:(Nat->AV)->Prop}{k:Kd}{rcs:List C}{B:List MA}(h:BN N F d t cs c a e b K k rcs B)(l:∀F',K F'->f F'):BN N F d t cs c a e b f k rcs B:=by
 unfold BN at h |-;split at h
 case h_2=>exact h.elim
 rename_i g i;cases j:(Nat.beq g.length a&&Nat.beq i.length b) with
 | false=>grind
 | true=>
  rw[j]at h;simp only[cond_true,eB]at h |-
  grind [bE]
theorem MM{d:Option Nat}{a b:Nat}(h:mL P N F d f args a b K)(e:∀F',K F'->c F'):mL P N F d f args a b c:=by
 unfold mL at h |-;split at h
 case h_2=>exact h.elim
 refine n6 h λt g h=>n6 h λi j h=>?_
 split at h
 all_goals grind [eB,cg.out,CO,RQ]
theorem uZ{d:Option Nat}{a:(Nat->AV)->Prop}(h:mP P N F d f args modes K)(b:∀F',K F'->a F'):mP P N F d f args modes a:=by grind [MM,NZ,mP]
theorem M0{off:Nat}{z:Int}{v:Value}{a:(Nat->AV)->Prop}(h:putMap F t off z v K)(f:∀F',K F'->a F'):putMap F t off z v a:=by
 unfold putMap at h |-;cases b:F t with
 | Z k d=>
  rw[b]at h;simp only at h |-;cases e:d[off]? with
  | none=>grind
  | some c=>
   rw[e]at h;cases c with
   | m g=>
    simp only at h |-;have:=h.out;refine Mu.mk rfl ?_
    grind [eB]
   | _=>exact h.elim
 | _=>grind
theorem yG{v:Operand}(h:rm TE F T x y v K)(f:∀F',K F'->b F'):rm TE F T x y v b:=by
 unfold rm at h |-;split at h
 case h_2=>exact h.elim
 obtain⟨z,c,d⟩:=lc h;refine d F (Cs F _) _ ?_;obtain⟨g,a,e⟩:=lc c;refine e F (Cs F _) _ ?_;split at a
 case h_2=>exact a.elim
 split at a
 all_goals grind [M0]
theorem m8{a:(Nat->AV)->Prop}(h:l7 P TE N ops o K F)(c:∀F',K F'->a F'):l7 P TE N ops o a F:=by
 unfold l7 at h |-;refine NR h (λF h=>?_) (λF h=>?_)
 ·split at h
  ·rename_i p _
   have lt:wN P N F o.dst p.1 p.2.1 p.2.2 K->wN P N F o.dst p.1 p.2.1 p.2.2 a:=λh=>uZ h λF' h=>by grind [q8]
   cases b:UR N o.op with
   | false=>grind
   | true=>
    rw[b]at h;rcases h with h|h
    ·refine .pl ?_
     grind [Ak,yG,KE,mF]
    exact .lt (lt h)
  grind [Ak,yG,KE]
 grind [bE]
theorem Hd{m:Nat}(a:XW ops m){K:(Nat->AV)->Prop}(hm:m<=ops.size):∀(l:List Oper)(k:Nat)(listed:Array Bool)(F:Nat->AV),(∀j,l[j]? = ops[k+j]?)->listed.size=ops.size->(∀j,j<ops.size->listed.getD j true=decide (j<k))->Gv ops m F listed->DC ops listed->
  UA P TE N ops (m - k) l K F->N9 P TE N ops m K l.length listed F
 | [],k,listed,F,C,L,b,_,_,i=>by
  have D:ops.size<=k:=by
   rcases Nat.lt_or_ge k ops.size with h|h
   ·have:=C 0;simp[h]at this
   exact h
  refine⟨?_,?_⟩
  ·apply List.eq_nil_iff_forall_not_mem.2
   grind [Go.mem_ready]
  cases M:m - k with
  | zero=>rw[M]at i;exact i
  | succ x=>omega
 | o::l,k,listed,F,C,L,b,c,n,i=>by
  have w:ops[k]? = some o:=by simpa using (C 0).symm
  have D:=(I6.1 w).1;have hready:k∈Region.ready .any ops listed:=mem_ready.2 ⟨by rw[b k D];simp,o,w,λe he hb=>by grind [XW.back]⟩;have A:∀j,l[j]? = ops[k+1+j]?:=λj=>by have:=C (j+1);grind
  have r:∀j,j<ops.size->(listed.setIfInBounds k true).getD j true=decide (j<k+1):=λj O=>by
   by_cases y:j=k
   ·simp_all
   rw[getD_set_ne true (Ne.symm y),b j O]
   grind
  show N9 P TE N ops m K (l.length+1) listed F;by_cases f:k<m
  ·have e1:m - k=(m - (k+1))+1:=ω
   rw[e1]at i;obtain⟨mv,d,av,Q,i⟩:=t6 (show nP P TE N ops o (UA P TE N ops (m - (k+1)) l K) F from i) (λd hd=>c.dst k o d f w (by rw[b k D];simp) hd) (λT s R S U=>c.mv k o T s f w (by rw[b k D];simp) R S U);refine QG a w f l.length listed F hready c n Q (Hd a hm l (k+1) _ _ A (by simpa using L) r (c.put (λE G H p u q hl'' B=>?_) (λE G T s p u q hl'' R S U=>?_)) (n.put hready) i)
   ·cases V:av.uses H with
    | false=>rfl
    | true=>
     rcases Q.from_ H V with h|⟨t,_,h⟩
     ·have:=a.look E k G o H p f u q w B h
      grind [dh,XW.back]
     rw[c.dst E G H p q hl'' B t]at h;cases h
   cases V:av.uses s with
   | false=>rfl
   | true=>
    rcases Q.from_ s V with h|⟨t,_,h⟩
    ·grind [iF,dQ]
    rw[c.mv E G T s p q hl'' R S U t]at h;cases h
  refine⟨ψ,λj O=>?_⟩;have y:j=k:=by
   obtain⟨h1,oj,W,hall⟩:=mem_ready.1 O;have g:=(I6.1 W).1;rw[b j g]at h1;simp at h1;rcases Nat.lt_or_ge k j with X|hge
   ·exfalso
    have h2:=qG n a.back (a.tail j ω g k X) g λk' hk'=>by grind [bM,dh]
    grind
   omega
  subst y;unfold AH;rw[w];simp only[CJ f];have e0:m - j=0:=ω
  rw[e0]at i;have hp':l7 P TE N ops o (R0 P TE N ops l K) F:=i;have Y:∀J,R0 P TE N ops l K J->N9 P TE N ops m K l.length (listed.setIfInBounds j true) J:=λJ Z=>
   Hd a hm l (j+1) _ J A (by simpa using L) r ⟨ψ,ψ⟩ (n.put hready) (by rw[show m - (j+1)=0 by omega];cases l<;>exact Z)
  grind [m8]
theorem St.clr(h:St w0 M S0 N F a w)(ds:List Nat):St w0 M S0 N (Ab.clr ds F) a w:=by
 obtain⟨S,φ,h⟩:=h;refine⟨S,φ,λt=>?_,h.dis,h.disS,h.ex,h.sub,h.sup,h.old,h.size,h.defers,h.par⟩;rw[GM];cases b:ds.any (λd=>(F t).uses d) with
 | true=>trivial
 | false=>
  simp only[cond_false];refine(h.slot t).keep (φ:=φ) (λt _ _ _=>h.slot t) (λc _=>⟨λk e f=>?_,rfl,λ_ _ _=>⟨rfl,rfl⟩⟩) (λ_ _ _=>⟨rfl,rfl⟩) (λ_ _ _=>⟨rfl,rfl⟩) (λ_ _ h=>h) (λ_ _ h=>h)
  grind [GM,AV.uses]
theorem Ju(g:∀t i,TE t=some i->j9 P t i)(E:P.follows .mixedOrders=true){id:Nat}{ds:List Nat}(b:((Nat.ble m ops.size&&below m λj=>match(eE ops j).dst with|some d=>ds.any (Nat.beq d)|none=>true)&&Hx ops m)=true)(G:UA P TE N ops m ops.toList K (Ab.clr ds F))(H:St w0 M S0 N F a w)(J:∀F' u y,K F'->St w0 M S0 N F' u y->Q .normal u y):(Code.region id ops true).wp P Q a w:=by
 simp only[I0]at b;obtain⟨⟨A,L⟩,b⟩:=b;have c:m<=ops.size:=by simp_all
 refine wp_region_any E ?_;have l:St w0 M S0 N (Ab.clr ds F) a {w with drawn:=w.drawn+1}:=by
  have O:=H.clr ds;obtain⟨S,φ,h⟩:=O;exact⟨S,φ,h.more (w1:={w with drawn:=w.drawn+1}) (λ_ _ h=>h) ψ ⟨rfl,rfl,rfl,C5 _,λ_ _ _=>rfl,λ_ _ _ _=>rfl,λ_ _ _ _=>rfl⟩⟩
 refine Gi g (m:=m) J ops.size (Array.replicate ops.size false) _ a _ ?_ l;have R:∀d,ds.any (Nat.beq d)=true->∀t,(Ab.clr ds F t).uses d=false:=λd U t=>by
  rw[GM];cases Z:ds.any (λd=>(F t).uses d) with
  | true=>rfl
  | false=>
   simp_all
 have B:∀j o d,j<m->ops[j]? = some o->o.dst=some d->ds.any (Nat.beq d)=true:=λj o d f C U=>by grind [iS,bM]
 have D:=Mm b;have:=Hd (P:=P) (TE:=TE) (N:=N) D (K:=K) c ops.toList 0 (Array.replicate ops.size false) (Ab.clr ds F) (by simp) (by simp) (λj f=>by simp[f]) ⟨ψ,λj o T s f C _ _ _ V t=>by
   obtain⟨k,ok,n,W,X⟩:=(iF V).1;obtain⟨e,p,q,rfl⟩:=dh.1 n;have:=D.back j o C e p q
   grind⟩ (λj oj f Y=>by
   have r:=(I6.1 f).1;simp[r]at Y) G
 simpa using this
end
section
variable{P:Program}{w0 w w1:World}{M S0 S:am}{N:gy}{φ:Nat->am}{F:Nat->AV}{a:Act}{TE:Nat->Option TI}{ops:Array Oper}{ds:List Nat}{nm:Nat->Bool}
def XI(P:Program)(TE:Nat->Option TI)(ops:Array Oper)(p:Nat)(F:Nat->AV):Prop:=∃d,(eE ops p).dst=some d/\PI F (eE ops p)=none/\ew P TE F (eE ops p).op λa=>a=F d
def y1(P:Program)(TE:Nat->Option TI)(N:gy)(ops:Array Oper)(ds:List Nat)(listed:Array Bool)(i:Nat)(K:(Nat->AV)->Prop)(F:Nat->AV):Prop:=
 match ops[i]? with
 | none=>K F
 | some o=>if tJ ds o=true then nP P TE N ops o K F else l7 P TE N ops o (λa=>(∀p,listed.getD p false=true->tJ ds (eE ops p)=true->zr ops i p=false->XI P TE ops p a)/\K a) F
def Md(P:Program)(TE:Nat->Option TI)(N:gy)(ops:Array Oper)(ds:List Nat)(K:(Nat->AV)->Prop):Nat->Array Bool->(Nat->AV)->Prop
 | 0,listed,F=>Region.ready .any ops listed=[]/\K F
 | fuel+1,listed,F=>(Region.ready .any ops listed=[]->K F)/\∀i,i∈Region.ready .any ops listed->y1 P TE N ops ds listed i (Md P TE N ops ds K fuel (listed.setIfInBounds i true)) F
variable{Q:Exit->Act->World->Prop}{K:(Nat->AV)->Prop}{i:Nat}{listed:Array Bool}
theorem KF(c:∀t i,TE t=some i->j9 P t i)(b:y1 P TE N ops ds listed i K F)(g:St w0 M S0 N F a w){Kc:Act->World->Prop}(d:∀F' e f,K F'->St w0 M S0 N F' e f->Kc e f):wpOp P ops Q i Kc a w:=by
 unfold y1 at b;unfold wpOp;cases j:ops[i]? with
 | none=>grind
 | some o=>
  rw[j]at b;simp only at b |-;obtain⟨S,φ,h⟩:=g;have:if Region.wanted o (yielded ops a.tmps) then o.wp P a w Kc Q else Kc (a.put o.dst undef) w:=by
   split at b
   ·exact h.oneP c b d
   exact h.one c (m8 b λF' h=>h.2) d
  grind
def ve(b:∀t i,TE t=some i->j9 P t i){K:(Nat->AV)->Prop}{Q:Exit->Act->World->Prop}(g:∀F' d e,K F'->St w0 M S0 N F' d e->Q .normal d e) :
  ∀(fuel:Nat)(listed:Array Bool)(F:Nat->AV)(a:Act)(w:World),Md P TE N ops ds K fuel listed F->St w0 M S0 N F a w->wpAny P .any ops Q fuel listed a w
 | 0,_,F,a,w,c,f=>⟨c.1,g F a w c.2 f⟩
 | fuel+1,_,F,a,w,c,f=>⟨λj=>g F a w (c.1 j) f,λi k=>KF b (c.2 i k) f λF' d e l h=>ve b g fuel _ F' d e l h⟩
def cG(ts:List Nat)(F F1:Nat->AV):Prop:=∀t e,(F1 t).uses e=true->e∈ts\/∃a,(F a).uses e=true
theorem cG.refl(ts:List Nat)(F:Nat->AV):cG ts F F:=λt _ h=>.inr ⟨t,h⟩
variable{F1:Nat->AV}{ts:List Nat}
theorem cG.trans{F a:Nat->AV}(h1:cG ts F F1)(h2:cG ts F1 a):cG ts F a:=λt e h=>by
 rcases h2 t e h with h|⟨b,h⟩
 ·exact .inl h
 exact h1 b e h
variable{d:Nat}
theorem cG.clean(h:cG ts F F1)(b:d∉ts)(c:∀t,(F t).uses d=false):∀t,(F1 t).uses d=false:=λt=>by
 cases a:(F1 t).uses d with
 | false=>rfl
 | true=>
  rcases h t d a with h|⟨e,h⟩
  all_goals grind
theorem cG.put{ts:List Nat}{dj:Nat}{av:AV}(h:∀e,av.uses e=true->e∈ts\/∃b,(F b).uses e=true):cG ts F (put F dj av):=λt e a=>by
 by_cases c:t=dj
 ·grind [sD]
 rw[kb _ _ c]at a;exact .inr ⟨t,(Xd a).1⟩
variable{v:AV}{t e:Nat}
theorem TD(h:(wy t v).uses e=true):v.uses e=true:=by
 cases v with
 | c2 a b d f=>simp only[wy]at h;cases c:Nat.beq a t<;>rw[c]at h<;>first|exact h|cases h
 | ref a b d=>cases d<;>simp only[wy]at h<;>first|exact h|(cases c:Nat.beq a t<;>rw[c]at h<;>first|exact h|cases h)
 | _=>exact h
theorem cG.updH{ts:List Nat}{t:Nat}{k:Kd}{cs:List C} : cG ts F (updH F t k cs):=λs e a=>by
 unfold Ab.updH at a;cases b:Nat.beq s t with
 | true=>rw[b]at a;cases a
 | false=>grind [TD]
theorem U9(h:(VJ t v).uses e=true):v.uses e=true:=by
 cases v with
 | c2 a b d f=>simp only[VJ]at h;cases c:Nat.beq a t<;>rw[c]at h<;>first|exact h|cases h
 | ref a b d=>simp only[VJ]at h;cases c:Nat.beq a t<;>rw[c]at h<;>first|exact h|cases h
 | _=>exact h
theorem cG.kill{ts:List Nat}{t:Nat} : cG ts F (kill F t):=λs e a=>by
 unfold Ab.kill at a;cases b:Nat.beq s t with
 | true=>rw[b]at a;cases a
 | false=>grind [U9]
variable{av:AV}
theorem cX(h:t≠d):eff none d av F t=F t:=by grind [eff]
theorem pz{a:Option Nat} : eff a d av F d=av:=by grind [eff]
theorem Uu : eff none d (F d) F=F:=by grind [pz,cX]
theorem pm(a:d∉ts)(b:∀t,(F t).uses d=false):j7 (eff none d av F) F ts:=λt c=>by grind [cX]
variable{dj:Nat}
theorem XT(a:dj≠d):put (eff none d v F) dj av=eff none d (kl dj v) (put F dj av):=by grind [sD,cX,kb,pz]
variable{b:Kd}
theorem rg{a:List C}(c:t≠d):updH (eff none d v F) t b a=eff none d (wy t v) (updH F t b a):=by grind [pz,Nat.beq_eq,cX,updH]
theorem AK{a:List C}(c:t≠d):updH F t b a d=wy t (F d):=by grind [Nat.beq_eq,updH]
theorem PQ{a:List C}(c:t≠d):updN (eff none d v F) t b a=eff none d (VC t v) (updN F t b a):=by grind [pz,Nat.beq_eq,cX,updN]
theorem Mq{a:List C}(c:t≠d):updN F t b a d=VC t (F d):=by grind [Nat.beq_eq,updN]
theorem UL(h:(VC t v).uses e=true):v.uses e=true:=by
 cases v with
 | c2 b c a f=>
  cases a with
  | nil=>exact h
  | cons s a=>simp only[VC]at h;cases d:Nat.beq b t<;>rw[d]at h<;>first|exact h|cases h
 | ref b c a=>
  cases a with
  | nil=>exact h
  | cons s a=>simp only[VC]at h;cases d:Nat.beq b t<;>rw[d]at h<;>first|exact h|cases h
 | _=>exact h
theorem cG.updN{ts:List Nat}{t:Nat}{k:Kd}{cs:List C} : cG ts F (updN F t k cs):=λs e a=>by
 unfold Ab.updN at a;cases b:Nat.beq s t with
 | true=>rw[b]at a;cases a
 | false=>grind [UL]
def Fq(d:Nat)(ts:List Nat)(v:AV)(F:Nat->AV)(K:(Nat->AV)->Prop)(F1:Nat->AV):Prop:=∃a,(v=F d->a=F1 d)/\K (eff none d a F1)/\cG ts F F1
def Zh(d:Nat)(ts:List Nat)(v:AV)(F:Nat->AV)(K:(Nat->AV)->Option Nat->List C->Prop)(F1:Nat->AV)(ag:Option Nat)(cs:List C):Prop:=∃a,(v=F d->a=F1 d)/\K (eff none d a F1) ag cs/\cG ts F F1
def Fq.trans{v1:AV}{a:Nat->AV}(h1:v=F d->v1=F1 d)(b:cG ts F F1)(h:Fq d ts v1 F1 K a):Fq d ts v F K a:=by
 obtain⟨c,f,g,i⟩:=h;exact⟨c,λe=>f (h1 e),g,b.trans i⟩
theorem jr(h:cn N (eff none d v F) dj av K)(a:dj≠d)(b:∀e,av.uses e=true->e∈ts\/∃c,(F c).uses e=true):cn N F dj av (Fq d ts v F K):=by
 unfold cn at h |-;cases f:(N.free dj&&!av.uses dj) with
 | false=>grind
 | true=>
  rw[f]at h;simp only[cond_true]at h |-;rw[XT a]at h;exact⟨kl dj v,λe=>by grind [kb],h,cG.put b⟩
variable{cs:List C}{k:Kd}
def kO : ∀e,(AV.Z k cs).uses e=true->e∈ts\/∃a,(F a).uses e=true:=λe h=>by cases h
theorem HE{p:(Nat->AV)->(AV->Prop)->Prop}{ts0:List Nat}(h:rC p (eff none d v F) ts0 λav=>cn N (eff none d v F) dj av K)(a:dj≠d)(j:∀t,t∈ts0->t∈ts)(k:d∉ts)(b:∀t,(F t).uses d=false) :
  p F λav=>cn N F dj av (Fq d ts v F K):=by
 obtain⟨av,c,f,g⟩:=h;refine g F (pm ψ b) _ (jr c a λe i=>?_);rcases f e i with h|⟨t,l,h⟩
 all_goals grind [cX]
variable{y:Operand}
theorem sQ{K:(Nat->AV)->Option Nat->List C->Prop}(h:iV (eff none d v F) y K)(n:d∉tm y)(o:∀t,(F t).uses d=false):iV F y (Zh d ts v F K):=by
 have fin:∀{t:Nat}{k:Kd}{b:List C}{a:Option Nat}{xs:List C},t≠d->K (updH (eff none d v F) t k b) a xs->Zh d ts v F K (updH F t k b) a xs:=fun {t k b a xs} c h=>by
  rw[rg c]at h;exact⟨_,λe=>by rw[AK c,e],h,cG.updH⟩
 have EJ:∀{t:Nat}{k:Kd}{b:List C}{a:Option Nat}{xs:List C},t≠d->K (updN (eff none d v F) t k b) a xs->Zh d ts v F K (updN F t k b) a xs:=fun {t k b a xs} c h=>by
  rw[PQ c]at h;exact⟨_,λe=>by rw[Mq c,e],h,cG.updN⟩
 cases y with
 | tmp t=>
  have c:t≠d:=λe=>n (by simp[tm,e])
  simp only[iV]at h |-;rw[cX c]at h;cases g:F t with
  | Z p q=>
   grind
  | c2 i u l a=>
   rw[g]at h;have w:i≠d:=λe=>by have:=o t;rw[g,e]at this;simp[AV.uses]at this
   cases l with
   | cons s l=>
    simp only at h |-;rw[cX w]at h;cases f:F i with
    | Z p q=>
     rw[f]at h;obtain⟨r,j,A,B,D,E⟩:=Lq.out h;exact .mk_ ψ
    | _=>grind
   | nil=>
    grind [cX]
  | _=>grind
 | _=>exact h.elim
theorem WV{K:(Nat->AV)->Option Nat->List C->Prop}(h:yk (eff none d v F) y K)(b:d∉tm y)(c:∀t,(F t).uses d=false):yk F y (Zh d ts v F K):=by
 obtain⟨i,xs,a,f⟩:=dr h;refine f F (pm b c) _ ?_;cases g:bp xs with
 | true=>rw[g]at a;exact⟨v,λe=>e,a,cG.refl _ _⟩
 | false=>grind [sQ]
def ZF(d:Nat)(ts:List Nat)(v:AV)(F:Nat->AV)(K:(Nat->AV)->List C->Prop)(F1:Nat->AV)(cs:List C):Prop:=∃a,(v=F d->a=F1 d)/\K (eff none d a F1) cs/\cG ts F F1
theorem Dt{d:Nat}{ts:List Nat}{c:Nat->Option (Nat × Nat)}(a:d∉ts):∀{parts:List (Nat × Operand)}{cs:List C}{K:(Nat->AV)->List C->Prop}{F:Nat->AV}{v:AV},fillW c parts cs K (eff none d v F)->(∀p,p∈parts->d∉tm p.2)->(∀t,(F t).uses d=false)->
  fillW c parts cs (ZF d ts v F K) F
 | [],cs,K,F,v,h,_,b=>⟨v,λe=>e,h,cG.refl _ _⟩
 | p::rest,cs,K,F,v,h,r,b=>by
  simp only[fillW]at h |-;split at h
  case h_2=>exact h.elim
  rename_i q u;refine xo (WV (ts:=ts) h ψ b) λw y xs h=>?_
  obtain⟨A,g,h,f⟩:=h;cases i:(Nat.beq xs.length q.2&&Nat.ble (q.1+q.2) cs.length) with
  | false=>grind
  | true=>
   rw[i]at h;simp only[cond_true,eB]at h |-;refine lN (Dt a h ψ (f.clean a b)) λB cs2 j=>?_
   obtain⟨k,l,n,o⟩:=j;exact⟨k,λe=>l (g e),n,f.trans o⟩
variable{parts:List (Nat × Operand)}{T:Nat}
theorem QQ(h:nt TE N (eff none d v F) dj T parts K)(a:dj≠d)(b:d∉ts)(c:∀p,p∈parts->d∉tm p.2)(e:∀t,(F t).uses d=false) :
  nt TE N F dj T parts (Fq d ts v F K):=by
 unfold nt at h |-;split at h
 case h_2=>exact h.elim
 rename_i size bytes zero flds k;cases f:GX TE flds with
 | false=>grind
 | true=>
  rw[f]at h;refine lN (Dt b h c e) λl n h=>?_
  obtain⟨o,g,h,i⟩:=h;exact bE (jr (ts:=ts) h a kO) λq j=>Fq.trans g i j
variable{n:Nat}
theorem MS(h:iA TE N (eff none d v F) dj T n parts K)(a:dj≠d)(c:d∉ts)(f:∀p,p∈parts->d∉tm p.2)(g:∀t,(F t).uses d=false) :
  iA TE N F dj T n parts (Fq d ts v F K):=by
 unfold iA at h |-;obtain⟨e,i,h,b⟩:=jP h;refine b _ ?_;cases j:Nat.ble (n*i.size) 16777216 with
 | false=>grind
 | true=>
  rw[j]at h;simp only[cond_true]at h |-;cases n with
  | zero=>
   cases parts with
   | nil=>exact jr h a kO
   | cons=>exact h.elim
  | succ n=>
   simp only[eB]at h |-;refine lN (Dt c h f g) λq r h=>?_
   obtain⟨u,k,h,l⟩:=h;rw[rL]at h |-;exact bE (jr (ts:=ts) h a kO) λw o=>Fq.trans k l o
theorem Un(h:kN N (eff none d v F) dj (.tmp t) K)(a:dj≠d)(c:d∉ts)(l:t∈ts)(g:∀t,(F t).uses d=false):kN N F dj (.tmp t) (Fq d ts v F K):=by
 have b:t≠d:=ψ
 have std:bO (eff none d v F) (.tmp t) (λf=>cn N (eff none d v F) dj f K)->bO F (.tmp t) (λf=>cn N F dj f (Fq d ts v F K)):=λh=>
  HE (p:=λF K=>bO F (.tmp t) K) (mn h) a (λn o=>by grind [tm]) c g
 simp only[kN]at h |-;rw[cX b]at h;split at h
 ·rename_i i xs q
  cases j:bp xs with
  | true=>grind [jr]
  | false=>
   rw[j]at h;simp only[cond_false]at h |-;rw[rg b]at h;exact bE (jr (ts:=ts) h a kO) λr k=>Fq.trans (F1:=updH F t (.tup i) _) (λe=>by grind [AK]) cG.updH k
 all_goals exact std h
variable{x:Operand}
theorem Yu{b:Operand}(h:Lo TE N (eff none d v F) dj T x b K)(c:dj≠d)(f:d∉tm x)(g:d∉tm b)(j:∀t,(F t).uses d=false):Lo TE N F dj T x b (Fq d ts v F K):=by
 unfold Lo at h |-;obtain⟨e,A,h,a⟩:=jP h;refine a _ ?_;obtain⟨n,k,i⟩:=qE h;refine i F (pm g j) _ ?_;refine gz (sQ (ts:=ts) k f j) λB C D h=>?_
 obtain⟨E,l,h,o⟩:=h;split at h
 case h_2=>exact h.elim
 obtain⟨m,y,p,q,r,u,w,h⟩:=h.out;exact .mk_ ⟨m,y,p,q,r,u,w,_,rfl,bE (jr (ts:=ts) h c kO) λG i=>Fq.trans l o i⟩
theorem RI(h:mZ N (eff none d v F) dj x K)(a:dj≠d)(j:d∉ts)(k:∀t,t∈tm x->t∈ts)(o:∀t,(F t).uses d=false):mZ N F dj x (Fq d ts v F K):=by
 have l:∀y,(∀t,t∈tm y->t∈ts)->bO (eff none d v F) y (λn=>cn N (eff none d v F) dj n K)->bO F y (λn=>cn N F dj n (Fq d ts v F K)):=λy q h=>HE (p:=λF K=>bO F y K) (mn h) a q j o
 have A:∀y,(∀t,t∈tm y->t∈ts)->iV (eff none d v F) y (λb e i=>cn N b dj (.Z (o7 e) i) K)->iV F y (λb e i=>cn N b dj (.Z (o7 e) i) (Fq d ts v F K)):=λy q h=>
  gz (sQ (ts:=ts) h ψ o) λb e i h=>by
   obtain⟨B,r,h,u⟩:=h;exact bE (jr (ts:=ts) h a kO) λC w=>Fq.trans r u w
 cases x with
 | tmp t=>
  grind [cX,tm,mZ]
 | const c=>exact l (.const c) k h
 | global g=>exact l (.global g) k h
 | func f=>exact l (.func f) k h
theorem GD(a:t≠d):kill (eff none d v F) t=eff none d (VJ t v) (kill F t):=by grind [pz,ox,cX,sS]
theorem XF(h:Jv N (eff none d v F) dj x K)(a:dj≠d)(c:d∉ts)(j:∀t,t∈tm x->t∈ts)(l:∀t,(F t).uses d=false):Jv N F dj x (Fq d ts v F K):=by
 have f:K4 N (eff none d v F) dj x=K4 N F dj x:=by
  cases x with
  | tmp t=>
   grind [cX,tm,K4]
  | _=>rfl
 unfold Jv at h |-;cases b:Vd N dj x with
 | true=>
  rw[b]at h;simp only[cond_true]at h |-;exact jr (ts:=ts) h a kO
 | false=>
 rw[b]at h;simp only[cond_false]at h |-;unfold P9 at h |-;rw[f]at h;cases i:K4 N F dj x with
 | none=>grind [RI]
 | some p=>
  rw[i]at h;simp only at h |-;obtain⟨rfl,n⟩:=Gh i;have g:p.1≠d:=λe=>c (e ▸ j p.1 (by simp[tm]))
  rw[GD g]at h;exact bE (jr (ts:=ts) h a kO) λo k=>Fq.trans (F1:=kill F p.1) (λe=>by grind [ox]) cG.kill k
theorem Ps(h:uv (eff none d v F) x cs K)(l:d∉tm x)(n:∀t,(F t).uses d=false):uv F x cs (Fq d ts v F K):=by
 have fin:∀{t:Nat}{k:Kd}{cs:List C},t≠d->K (updH (eff none d v F) t k cs)->Fq d ts v F K (updH F t k cs):=fun {t k cs} a h=>by
  rw[rg a]at h;exact⟨_,λe=>by rw[AK a,e],h,cG.updH⟩
 have EJ:∀{t:Nat}{k:Kd}{cs:List C},t≠d->K (updN (eff none d v F) t k cs)->Fq d ts v F K (updN F t k cs):=fun {t k cs} a h=>by
  rw[PQ a]at h;exact⟨_,λe=>by rw[Mq a,e],h,cG.updN⟩
 have finP:∀{t:Nat}{k:Kd}{cs:List C},t≠d->K (WU (eff none d v F) t k cs)->Fq d ts v F K (WU F t k cs):=fun {t k cs} a h=>by
  cases k with
  | box=>exact fin a h
  | _=>exact EJ a h
 cases x with
 | tmp t=>
  have a:t≠d:=λe=>l (by simp[tm,e])
  simp only[uv]at h |-;rw[cX a]at h;cases c:F t with
  | Z k o=>
   grind [eB]
  | ref f p g=>
   rw[c]at h;have i:f≠d:=λe=>by have:=n t;rw[c,e]at this;simp[AV.uses]at this
   cases g with
   | cons s g=>
    simp only at h |-;rw[cX i]at h;cases b:F f with
    | Z k o=>
     rw[b]at h;obtain⟨r,j,q,u,w,y⟩:=Pu.out h;exact Pu.mk q u w rfl (finP i y)
    | _=>grind
   | nil=>
    grind [cX,eB]
  | _=>grind
 | _=>exact h.elim
theorem Ty(h:pf TE (eff none d v F) T x y K)(b:d∉ts)(n:d∉tm x)(j:d∉tm y)(c:∀t,(F t).uses d=false):pf TE F T x y (Fq d ts v F K):=by
 unfold pf at h |-;split at h
 ·rename_i i r
  obtain⟨u,k,a,e⟩:=dr h;refine e F (pm j c) _ ?_;cases o:Nat.beq k.length i.size with
  | false=>grind
  | true=>
   rw[o]at a;simp only[cond_true]at a |-;cases p:bp k with
   | true=>grind [Ps]
   | false=>
    rw[p]at a;simp only[cond_false]at a |-;refine gz (sQ (ts:=ts) a j c) λw q f h=>?_
    obtain⟨A,a,h,l⟩:=h;cases g:Nat.beq f.length i.size with
    | false=>grind
    | true=>rw[g]at h;exact FR (Ps (ts:=ts) h n (l.clean b c)) λB e=>Fq.trans a l e
 exact h.elim
def XL(a:d∉tm y):qm (eff none d v F) y=qm F y:=by
 cases y with
 | tmp t=>exact cX λe=>a (by simp[tm,e])
 | _=>rfl
theorem Yx{K:Bool->(Nat->AV)->List (List C)->Prop}(h:HS (eff none d v F) y K)(b:d∉tm y)(c:∀t,(F t).uses d=false):HS F y λe F1 rows=>∃v1,(v=F d->v1=F1 d)/\K e (eff none d v1 F1) rows/\cG ts F F1:=by
 have a:=XL (F:=F) (v:=v) b;unfold HS at h |-;rw[a]at h;split at h
 ·refine gz (sQ (ts:=ts) h b c) λF1 f g h=>?_
  obtain⟨v1,i,h,j⟩:=h
  grind
 grind [dr,pm,cG.refl]
theorem W0{K:(Nat->AV)->List (List C)->Prop}(h:G0 (eff none d v F) y K)(b:d∉tm y)(c:∀t,(F t).uses d=false):G0 F y λF1 rows=>∃v1,(v=F d->v1=F1 d)/\K (eff none d v1 F1) rows/\cG ts F F1:=by
 obtain⟨e,xs,a,f⟩:=dr h;refine f F (pm b c) _ ?_;split at a
 ·grind [cG.refl]
 ·refine gz (sQ (ts:=ts) a b c) λF1 e g h=>?_
  obtain⟨v1,a,h,i⟩:=h
  grind
 exact a.elim
theorem WI(h:Ga TE N (eff none d v F) dj T x y K)(b:dj≠d)(c:d∉ts)(j:d∉tm x)(k:d∉tm y)(f:∀t,(F t).uses d=false):Ga TE N F dj T x y (Fq d ts v F K):=by
 obtain⟨e,B,h,a⟩:=jP h;refine a _ (Ke (Yx (ts:=ts) h k f) λC D E h=>?_);obtain⟨G,l,h,g⟩:=h;refine Fy (W0 (ts:=ts) h j (g.clean c f)) λH i h=>?_
 obtain⟨J,n,h,o⟩:=h;obtain⟨p,q,r,u,w,h⟩:=Ap.out h;refine Ca p q r u w rfl (bE (jr (ts:=ts) h b kO) λL A=>?_);exact Fq.trans l g (Fq.trans n o A)
theorem Tt{f:Oper}(B:f.guard=none)(g:X5 f.op=true)(k:f.dst≠some d)(u:d∉f.looksAt ops)(w:∀t,(F t).uses d=false)(h:l7 P TE N ops f K (eff none d v F)) :
  l7 P TE N ops f (Fq d (f.looksAt ops) v F K) F:=by
 unfold l7 gY at h |-;rw[B]at h |-;simp only at h |-;have j:∀t,t∈eK f.op->t∈f.looksAt ops:=λt l=>jZ f t l
 have pur:∀b,b≠d->ew P TE (eff none d v F) f.op (λq=>cn N (eff none d v F) b q K)->ew P TE F f.op λq=>cn N F b q (Fq d (f.looksAt ops) v F K):=λb k h=>
  HE (p:=λF K=>ew P TE F f.op K) (mB h) k j u w
 have dne:∀b,f.dst=some b->b≠d:=ψ
 have tmI:∀x,x∈f.op.operands.toList->∀t,t∈tm x->t∈f.looksAt ops:=λx C t l=>j t (List.mem_flatMap.2 ⟨x,C,l⟩)
 cases e:f.op with
 | store T x y=>
  rw[e]at h tmI;simp only[Gy]at h |-;cases a:f.dst with
  | some b=>rw[a]at h;simp only[mO]at h;exact h.elim
  | none=>
   grind [Ty,Go.Op.operands]
 | move x=>
  rw[e]at h tmI;cases a:f.dst with
  | none=>rw[a]at h;exact h.elim
  | some b=>
   rw[a]at h;cases x with
   | tmp t=>
    simp only[Gy,mO]at h |-;exact Un h (dne b a) u (tmI (.tmp t) (by simp[Op.operands]) t (by simp[tm])) w
   | _=>rw[e]at g;cases g
 | assign x=>
  rw[e]at h tmI
  grind [XF,Gy,mO,Go.Op.operands]
 | build T D=>
  rw[e]at h tmI
  grind [QQ,Gy,mO,Go.Op.operands]
 | buildSlice T n D=>
  rw[e]at h tmI
  grind [MS,Gy,mO,Go.Op.operands]
 | extract x i=>rw[e]at h pur;cases a:f.dst with|none=>rw[a]at h;exact h.elim|some b=>rw[a]at h;exact pur b (dne b a) h
 | load T x=>rw[e]at h pur;cases a:f.dst with|none=>rw[a]at h;exact h.elim|some b=>rw[a]at h;exact pur b (dne b a) h
 | fieldAddr T x i=>rw[e]at h pur;cases a:f.dst with|none=>rw[a]at h;exact h.elim|some b=>rw[a]at h;exact pur b (dne b a) h
 | field T x i=>rw[e]at h pur;cases a:f.dst with|none=>rw[a]at h;exact h.elim|some b=>rw[a]at h;exact pur b (dne b a) h
 | binOp o T x y L=>rw[e]at h pur;cases a:f.dst with|none=>rw[a]at h;exact h.elim|some b=>rw[a]at h;exact pur b (dne b a) h
 | unOp o T x=>rw[e]at h pur;cases a:f.dst with|none=>rw[a]at h;exact h.elim|some b=>rw[a]at h;exact pur b (dne b a) h
 | call c=>
  rw[e]at g h tmI;cases E:tT c with
  | none=>grind [X5]
  | some p=>
   have r:=AW E;subst r;cases a:f.dst with
   | none=>rw[a]at h;exact h.elim
   | some b=>
    grind [WI,Gy,mO,Go.Op.operands,Go.Call.operands]
 | slice T x G A H=>
  rw[e]at g h tmI pur;cases G with
  | some _=>cases g
  | none=>
   cases A with
   | none=>cases g
   | some A=>
    cases H with
    | some _=>cases g
    | none=>
     cases a:f.dst with
     | none=>rw[a]at h;exact h.elim
     | some b=>
      rw[a]at h;simp only[Gy,mO]at h |-;cases J:Zn N b with
      | false=>simp_all
      | true=>
       grind [Yu,Go.Op.operands]
 | _=>rw[e]at g;cases g
theorem XM{a:Oper}(c:a.guard=none)(f:X5 a.op=true)(b:a.dst≠some d)(g:d∉a.looksAt ops)(i:∀t,(F t).uses d=false)(h:l7 P TE N ops a K F) :
  l7 P TE N ops a (λF1=>K F1/\cG (a.looksAt ops) F F1) F:=by
 refine m8 (Tt (d:=d) (v:=F d) c f b g i (by rw[Uu];exact h)) λF1 j=>?_
 obtain⟨k,e,l,u⟩:=j
 grind [Uu]
theorem cG.setH{ts:List Nat}{t:Nat}{k:Kd}{cs:List C} : cG ts F (setH F t (.Z k cs)):=λs e a=>by
 unfold Ab.setH at a;cases b:Nat.beq s t with
 | true=>rw[b]at a;cases a
 | false=>grind
variable{rcs:List C}
theorem Qe(h:cn N F d (.Z k rcs) K):cn N F d (.Z k rcs) λF1=>K F1/\cG ts F F1:=by
 unfold cn at h |-;cases a:(N.free d&&!(AV.Z k rcs).uses d) with
 | false=>grind
 | true=>rw[a]at h;exact⟨h,cG.put λe b=>by cases b⟩
theorem xC{off:Nat}{st:dx}{K:(Nat->AV)->List C->Prop}(h:lendAt F t off st n K):lendAt F t off st n λF1 cs=>K F1 cs/\cG ts F F1:=by
 unfold lendAt at h |-;split at h
 all_goals grind [eB,cG.updH]
def nI{ts:List Nat} : ∀{xs:List (Operand × Nat)}{K:(Nat->AV)->List (MA × uE)->Prop}{F:Nat->AV},lendP xs K F->lendP xs (λF1 l=>K F1 l/\cG ts F F1) F
 | [],K,F,h=>⟨h,cG.refl _ _⟩
 | (x,0)::xs,K,F,h=>nI (xs:=xs) h
 | (x,1)::xs,K,F,h=>by
  simp only[lendP]at h |-;split at h
  case h_2=>exact h.elim
  split at h
  ·exact gJ (xC (ts:=ts) h) λF1 c h=>dl (nI (ts:=ts) h.1) λb l a=>⟨a.1,h.2.trans a.2⟩
  ·exact gJ (xC (ts:=ts) h) λF1 c h=>dl (nI (ts:=ts) h.1) λb l a=>⟨a.1,h.2.trans a.2⟩
  ·exact gJ (xC (ts:=ts) h) λF1 c h=>dl (nI (ts:=ts) h.1) λb l a=>⟨a.1,h.2.trans a.2⟩
  exact h.elim
 | (x,n+2)::xs,K,F,h=>by
  simp only[lendP]at h |-;split at h
  case h_2=>exact h.elim
  split at h
  ·split at h
   ·exact dl (nI (ts:=ts) h) λb l a=>⟨a.1,cG.kill.trans a.2⟩
   exact h.elim
  ·exact dl (nI (ts:=ts) h) λb l a=>⟨a.1,cG.kill.trans a.2⟩
  exact h.elim
theorem ot{ts:List Nat}{K:(Nat->AV)->Prop} : ∀{l:List (MA × uE)}{B:List MA}{F:Nat->AV},jy l B K F->jy l B (λF1=>K F1/\cG ts F F1) F
 | [],[],F,h=>⟨h,cG.refl _ _⟩
 | [],_::_,F,h=>h.elim
 | (m,.no)::l,[],F,h=>h.elim
 | (m,.at_ t off st)::l,[],F,h=>h.elim
 | (m,.box t)::l,[],F,h=>h.elim
 | (m,.no)::l,.val _ _::B,F,h=>ot (l:=l) (B:=B) h
 | (m,.no)::l,.mut _ _::B,F,h=>ot (l:=l) (B:=B) h
 | (m,.no)::l,.ptr _::B,F,h=>ot (l:=l) (B:=B) h
 | (m,.at_ t off st)::l,.val _ _::B,F,h=>h.elim
 | (m,.at_ t off st)::l,.ptr _::B,F,h=>h.elim
 | (m,.box t)::l,.val _ _::B,F,h=>h.elim
 | (m,.box t)::l,.mut _ _::B,F,h=>h.elim
 | (m,.at_ t off st)::l,.mut ag out::B,F,h=>by
  simp only[jy]at h |-;split at h
  case h_2=>exact h.elim
  split at h
  ·rename_i k c _ _
   cases d:Nat.ble (off+out.length) c.length with
   | false=>grind
   | true=>
    rw[d]at h;simp only[cond_true,eB]at h |-;exact eG (λb a=>⟨a.1,cG.updH.trans a.2⟩) (ot (ts:=ts) h)
  obtain⟨r,j,e,f,g,i⟩:=Pu.out h;exact Pu.mk e f g rfl (eG (λb a=>⟨a.1,cG.updH.trans a.2⟩) (ot (ts:=ts) i))
 | (m,.box t)::l,.ptr out::B,F,h=>by
  simp only[jy]at h |-;split at h
  ·exact eG (λb a=>⟨a.1,cG.setH.trans a.2⟩) (ot (ts:=ts) h)
  exact h.elim
variable{modes:List Nat}{args:List Operand}{f:Nat}
theorem V3{d:Option Nat}(h:nH P N F d f args modes K):nH P N F d f args modes λF1=>K F1/\cG ts F F1:=by
 unfold nH at h |-;refine dl (nI (ts:=ts) h) λn l h=>?_
 obtain⟨h,c⟩:=h;cases e:(yM l&&Nat.beq args.length modes.length) with
 | false=>grind
 | true=>
  rw[e]at h;refine lO h λb A h=>?_
  obtain⟨o,B,k,rcs,g,a,i⟩:=cg.out h;refine CO g a (eG (λF'' h=>?_) (ot (ts:=ts) i));obtain⟨h,j⟩:=h;cases d with
  | none=>grind [cG.trans]
  | some d=>exact bE (Qe (ts:=ts) h) λp a=>⟨a.1,(c.trans j).trans a.2⟩
theorem W7{d:Option Nat}{c a b:Nat}{B:List MA}(h:BN N F d t cs c a e b K k rcs B):BN N F d t cs c a e b (λF1=>K F1/\cG ts F F1) k rcs B:=by
 unfold BN at h |-;split at h
 case h_2=>exact h.elim
 rename_i g i;cases j:(Nat.beq g.length a&&Nat.beq i.length b) with
 | false=>grind
 | true=>
  rw[j]at h;simp only[cond_true,eB]at h |-;cases d with
  | none=>exact⟨h,cG.kill.trans cG.setH⟩
  | some d=>exact bE (Qe (ts:=ts) h) λl f=>⟨f.1,(cG.kill.trans cG.setH).trans f.2⟩
theorem TB{d:Option Nat}{a b:Nat}(h:mL P N F d f args a b K):mL P N F d f args a b λF1=>K F1/\cG ts F F1:=by
 unfold mL at h |-;split at h
 case h_2=>exact h.elim
 refine n6 h λt e h=>n6 h λg c h=>?_
 split at h
 case h_2=>exact h.elim
 rename_i i p;cases j:(Nat.beq g t&&Nat.ble (e+a) c&&Nat.ble (c+b) i.length) with
 | false=>grind
 | true=>
  rw[j]at h;simp only[cond_true,eB]at h |-;obtain⟨q,B,k,rcs,l,n,o⟩:=cg.out h;exact CO l n (W7 o)
def Uj{d:Option Nat}(h:mP P N F d f args modes K):mP P N F d f args modes λF1=>K F1/\cG ts F F1:=by
 unfold mP at h |-;split
 ·rename_i p a;rw[a]at h;exact TB h
 rename_i a;rw[a]at h;exact V3 h
variable{s:Nat}
theorem XY{dj:Option Nat}{a:Nat->AV}(u:cG ts F a):cG ts F (rv1 F dj s a):=by
 unfold rv1;split
 case h_2=>exact u
 rename_i t c f;cases g:(dne dj s&&dne dj t) with
 | false=>exact u
 | true=>
  simp only[cond_true];split
  case h_2=>exact u
  split
  case h_2=>exact u
  intro q e b;by_cases d:q=s
  ·grind [t7]
  rw[gT _ _ d]at b;exact u q e b
theorem Pd{ts:List Nat}{dj:Option Nat} : ∀{l:List Nat}{a:Nat->AV},cG ts F a->cG ts F (rvE F dj l a)
 | [],_,u=>u
 | _::l,_,u=>Pd (l:=l) (XY u)
theorem Xo{a:Oper}(k:a.guard=none)(i:sJ a.op=true)(h:l7 P TE N ops a K F):l7 P TE N ops a (λF1=>K F1/\cG (a.looksAt ops) F F1) F:=by
 have pur:∀d,a.dst=some d->ew P TE F a.op (λg=>cn N F d g K)->ew P TE F a.op λg=>cn N F d g λF1=>K F1/\cG (a.looksAt ops) F F1:=λd l h=>by
  have n:iU P TE N ops a K F:=by grind [iU,gY]
  obtain⟨y,g,j,o⟩:=AB n;have b:=j.dst;rw[l]at b;simp only[C2]at b;subst b;have A:=j.at_ F (Cs _ _) (λF1=>K F1/\cG (a.looksAt ops) F F1) ⟨o,cG.put λe q=>(j.from_ e q).imp id ψ⟩
  grind [iU,gY]
 unfold l7 gY at h |-;rw[k]at h |-;simp only at h |-;cases f:a.op with
 | call c=>
  rw[f]at h i;have r:tT c=none:=by grind [sJ,tT]
  have pl:mF P TE N a K F->mF P TE N a (λF1=>K F1/\cG (a.looksAt ops) F F1) F:=λh=>by grind [mF,mO]
  cases t:Gy N F (.call c) with
  | some p=>
   rw[t]at h;simp only at h |-;have lt:wN P N F a.dst p.1 p.2.1 p.2.2 K->wN P N F a.dst p.1 p.2.1 p.2.2 λF1=>K F1/\cG (a.looksAt ops) F F1:=λh=>uZ (Uj (ts:=a.looksAt ops) h) λF1 ⟨h,u⟩=>by grind [q8,Pd]
   cases w:UR N (.call c) with
   | false=>grind
   | true=>
    rw[w]at h;rcases h with h|h
    ·exact .pl (pl h)
    exact .lt (lt h)
  | none=>
   grind [mF]
 | _=>rw[f]at i;cases i
theorem VW{a:Oper}(c:a.guard=none)(e:(X5 a.op || sJ a.op)=true)(b:a.dst≠some d)(f:d∉a.looksAt ops)(g:∀t,(F t).uses d=false)(h:l7 P TE N ops a K F) :
  l7 P TE N ops a (λF1=>K F1/\cG (a.looksAt ops) F F1) F:=by grind [XM,Xo]
def Gq(d:Nat)(ts:List Nat)(F:Nat->AV)(K:(Nat->AV)->Prop)(F1:Nat->AV):Prop:=∃a,K (eff none d a F1)/\cG ts F F1
def Gq.trans{a:Nat->AV}(b:cG ts F F1)(h:Gq d ts F1 K a):Gq d ts F K a:=by
 obtain⟨c,e,f⟩:=h;exact⟨c,e,b.trans f⟩
theorem HT(a:t≠d):setH (eff none d v F) t av=eff none d v (setH F t av):=by grind [pz,gT,cX,setH]
theorem xu{off:Nat}{st:dx}{K:(Nat->AV)->List C->Prop}(h:lendAt (eff none d v F) t off st n K)(a:t≠d):lendAt F t off st n λF1 cs=>∃v1,K (eff none d v1 F1) cs/\cG ts F F1:=by
 unfold lendAt at h |-;rw[cX a]at h;split at h
 case h_2=>exact h.elim
 split at h
 ·grind [eB,rg,cG.updH]
 obtain⟨r,j,b,c,e,f⟩:=Lq.out h;refine .mk_ ?_
 grind [rg,cG.updH]
theorem pR{ts:List Nat}{d:Nat}(a:d∉ts):∀{xs:List (Operand × Nat)}{K:(Nat->AV)->List (MA × uE)->Prop}{F:Nat->AV}{v:AV},lendP xs K (eff none d v F)->(∀x,x∈xs->d∉tm x.1)->(∀t,(F t).uses d=false)->
  lendP xs (λF1 l=>(∃v1,K (eff none d v1 F1) l/\cG ts F F1)/\∀q,q∈l->d∉q.2.slot) F
 | [],K,F,v,h,_,_=>⟨⟨v,h,cG.refl _ _⟩,ψ⟩
 | (x,0)::xs,K,F,v,h,w,c=>by
  simp only[lendP]at h |-;refine dl (pR a h ψ c) λF1 l h=>⟨h.1,λq b=>?_⟩
  rcases List.mem_cons.1 b with rfl|b
  ·exact λu=>by cases u
  exact h.2 q b
 | (x,1)::xs,K,F,v,h,w,c=>by
  simp only[lendP]at h |-;split at h
  case h_2=>exact h.elim
  rename_i s;have j:s≠d:=λe=>w _ O3 (by simp[tm,e])
  rw[cX j]at h;have y:∀{t:Nat}{F1:Nat->AV}{l:List (MA × uE)}{m:MA}{f:Nat}{A:dx}{K2:(Nat->AV)->List (MA × uE)->Prop},t≠d->((∃v1,K2 (eff none d v1 F1) ((m,.at_ t f A)::l)/\cG ts F F1)/\∀q,q∈l->d∉q.2.slot)->(∃v1,K2 (eff none d v1 F1) ((m,.at_ t f A)::l)/\cG ts F F1)/\∀q,q∈(m,uE.at_ t f A)::l->d∉q.2.slot:=λg h=>⟨h.1,λq b=>by
    rcases List.mem_cons.1 b with rfl|b
    · exact λu=>g (z3.1 u).symm
    exact h.2 q b⟩
  split at h
  ·exact gJ (xu (ts:=ts) h j) λF1 k h=>by
    obtain⟨v1,h,i⟩:=h;exact dl (pR a h ψ (i.clean a c)) λB l h=>by
     obtain⟨⟨o,h,p⟩,r⟩:=h;exact y (K2:=K) j ⟨⟨o,h,i.trans p⟩,r⟩
  ·exact gJ (xu (ts:=ts) h j) λF1 k h=>by
    obtain⟨v1,h,i⟩:=h;exact dl (pR a h ψ (i.clean a c)) λB l h=>by
     obtain⟨⟨o,h,p⟩,r⟩:=h;exact y (K2:=K) j ⟨⟨o,h,i.trans p⟩,r⟩
  ·rename_i t f A G D
   have g:t≠d:=λe=>by have:=c s;rw[D,e]at this;simp[AV.uses]at this
   exact gJ (xu (ts:=ts) h g) λF1 k h=>by
    obtain⟨v1,h,i⟩:=h;exact dl (pR a h ψ (i.clean a c)) λB l h=>by
     obtain⟨⟨o,h,p⟩,r⟩:=h;exact y (K2:=K) g ⟨⟨o,h,i.trans p⟩,r⟩
  exact h.elim
 | (x,n+2)::xs,K,F,v,h,w,c=>by
  simp only[lendP]at h |-;split at h
  case h_2=>exact h.elim
  rename_i s;have j:s≠d:=λe=>w _ O3 (by simp[tm,e])
  rw[cX j]at h;have y:∀{t:Nat}{k:List C},t≠d->lendP xs (λE l=>K E ((.ptr k,.box t)::l)) (kill (eff none d v F) t)->lendP xs (λF1 l=>(∃v1,K (eff none d v1 F1) ((.ptr k,.box t)::l)/\cG ts F F1)/\∀q,q∈(MA.ptr k,uE.box t)::l->d∉q.2.slot) (kill F t):=fun {t k} g h=>by
   rw[GD g]at h;refine dl (pR a h ψ ((cG.kill (ts:=ts)).clean a c)) λB l h=>?_
   obtain⟨⟨o,h,p⟩,r⟩:=h;refine⟨⟨o,h,cG.kill.trans p⟩,λq b=>?_⟩;rcases List.mem_cons.1 b with rfl|b
   ·exact λu=>g (z3.1 u).symm
   exact r q b
  split at h
  ·rename_i t D
   have g:t≠d:=λe=>by have:=c s;rw[D,e]at this;simp[AV.uses]at this
   rw[cX g]at h;split at h
   all_goals simp_all
  all_goals simp_all
theorem wd{d:Nat}{v:AV}(a:∀t,(F t).uses d=false):∀{l:List (MA × uE)}{xs:List Operand}{K:Bool->List MA->Prop},valsP (eff none d v F) l xs K->(∀x,x∈xs->d∉tm x)->valsP F l xs K
 | [],[],K,h,_=>h
 | (m,.no)::l,x::xs,K,h,b=>by
  obtain⟨f,g,c,e⟩:=dr h;exact e F (pm ψ a) _ (wd a c ψ)
 | (m,.at_ t off st)::l,x::xs,K,h,b=>wd (l:=l) (xs:=xs) a h ψ
 | (m,.box t)::l,x::xs,K,h,b=>wd (l:=l) (xs:=xs) a h ψ
 | [],_::_,K,h,_=>h.elim
 | (m,.no)::l,[],K,h,_=>h.elim
 | (m,.at_ t off st)::l,[],K,h,_=>h.elim
 | (m,.box t)::l,[],K,h,_=>h.elim
theorem nM{ts:List Nat}{d:Nat}{K:(Nat->AV)->Prop} : ∀{l:List (MA × uE)}{B:List MA}{F:Nat->AV}{v:AV},jy l B K (eff none d v F)->(∀q,q∈l->d∉q.2.slot)->jy l B (Gq d ts F K) F
 | [],[],F,v,h,_=>⟨v,h,cG.refl _ _⟩
 | [],_::_,F,v,h,_=>h.elim
 | (m,.no)::l,[],F,v,h,_=>h.elim
 | (m,.at_ t off st)::l,[],F,v,h,_=>h.elim
 | (m,.box t)::l,[],F,v,h,_=>h.elim
 | (m,.no)::l,.val _ _::B,F,v,h,b=>nM (l:=l) (B:=B) h ψ
 | (m,.no)::l,.mut _ _::B,F,v,h,b=>nM (l:=l) (B:=B) h ψ
 | (m,.no)::l,.ptr _::B,F,v,h,b=>nM (l:=l) (B:=B) h ψ
 | (m,.at_ t off st)::l,.val _ _::B,F,v,h,_=>h.elim
 | (m,.at_ t off st)::l,.ptr _::B,F,v,h,_=>h.elim
 | (m,.box t)::l,.val _ _::B,F,v,h,_=>h.elim
 | (m,.box t)::l,.mut _ _::B,F,v,h,_=>h.elim
 | (m,.at_ t off st)::l,.mut ag out::B,F,v,h,b=>by
  have c:t≠d:=λe=>b _ O3 (by simp[uE.slot,e])
  have a:∀q,q∈l->d∉q.2.slot:=ψ
  simp only[jy]at h |-;rw[cX c]at h;split at h
  case h_2=>exact h.elim
  split at h
  ·rename_i k n _ _
   cases o:Nat.ble (off+out.length) n.length with
   | false=>grind
   | true=>
    rw[o]at h;simp only[cond_true,eB]at h |-;rw[rg c]at h;exact eG (λg f=>Gq.trans cG.updH f) (nM (ts:=ts) h a)
  obtain⟨r,j,p,u,w,i⟩:=Pu.out h;rw[rg c]at i;exact Pu.mk p u w rfl (eG (λg f=>Gq.trans cG.updH f) (nM (ts:=ts) i a))
 | (m,.box t)::l,.ptr out::B,F,v,h,b=>by
  have c:t≠d:=λe=>b _ O3 (by simp[uE.slot,e])
  have a:∀q,q∈l->d∉q.2.slot:=ψ
  simp only[jy]at h |-;rw[cX c]at h;split at h
  ·rw[HT c]at h
   exact eG (λg f=>Gq.trans cG.setH f) (nM (ts:=ts) h a)
  exact h.elim
theorem TH{dj:Option Nat}(h:nH P N (eff none d v F) dj f args modes K)(n:dj≠some d)(a:d∉ts)(g:∀x,x∈args->d∉tm x)(i:∀t,(F t).uses d=false) :
  nH P N F dj f args modes (Gq d ts F K):=by
 unfold nH at h |-;refine dl (pR a h (λx o=>g _ (List.of_mem_zip o).1) i) λE l h=>?_
 obtain⟨⟨G,h,c⟩,p⟩:=h;cases q:(yM l&&Nat.beq args.length modes.length) with
 | false=>grind
 | true=>
  rw[q]at h;refine lO (wd (c.clean a i) h g) λb A h=>?_
  obtain⟨H,B,k,rcs,r,e,u⟩:=cg.out h;refine CO r e (eG (λF'' h=>?_) (nM (ts:=ts) u p));obtain⟨w,h,j⟩:=h;cases dj with
  | none=>exact⟨w,h,c.trans j⟩
  | some dj=>
   refine bE (jr (ts:=ts) h ψ kO) λJ e=>?_
   obtain⟨y,-,C,D⟩:=e;exact⟨y,C,(c.trans j).trans D⟩
theorem WN{dj:Option Nat}{c a b:Nat}{B:List MA}(f:t≠d)(g:dj≠some d)(h:BN N (eff none d v F) dj t cs c a e b K k rcs B):BN N F dj t cs c a e b (Gq d ts F K) k rcs B:=by
 unfold BN at h |-;split at h
 case h_2=>exact h.elim
 rename_i i j;cases l:(Nat.beq i.length a&&Nat.beq j.length b) with
 | false=>grind
 | true=>
  rw[l]at h;simp only[cond_true,eB]at h |-;rw[GD f,HT f]at h;cases dj with
  | none=>exact⟨_,h,cG.kill.trans cG.setH⟩
  | some dj=>
   refine bE (jr (ts:=ts) h ψ kO) λr n=>?_
   obtain⟨o,-,p,q⟩:=n;exact⟨o,p,(cG.kill.trans cG.setH).trans q⟩
theorem Qw{K:Nat->Nat->Prop}(b:d∉tm x)(c:∀t,(F t).uses d=false)(h:Ew (eff none d v F) x K):Ew F x λt o=>t≠d/\K t o:=by
 obtain⟨s,t,f,rfl,a,i⟩:=vS h;have g:s≠d:=λe=>b (by simp[tm,e])
 rw[cX g]at a;have j:t≠d:=λe=>by have:=c s;rw[a,e]at this;simp[AV.uses]at this
 grind [Ew]
theorem UD{dj:Option Nat}{a b:Nat}(h:mL P N (eff none d v F) dj f args a b K)(g:dj≠some d)(c:∀x,x∈args->d∉tm x)(e:∀t,(F t).uses d=false) :
  mL P N F dj f args a b (Gq d ts F K):=by
 unfold mL at h |-;split at h
 case h_2=>exact h.elim
 refine n6 (Qw (c _ (by simp)) e h) λt j h=>?_
 obtain⟨i,h⟩:=h;refine n6 (Qw (c _ (by simp)) e h) λk l h=>?_
 replace h:=h.2;rw[cX i]at h;split at h
 all_goals grind [eB,cg.out,CO,WN]
theorem TR{dj:Option Nat}(h:mP P N (eff none d v F) dj f args modes K)(a:dj≠some d)(b:d∉ts)(c:∀x,x∈args->d∉tm x)(e:∀t,(F t).uses d=false) :
  mP P N F dj f args modes (Gq d ts F K):=by grind [UD,TH,mP]
theorem WM{dj:Option Nat}{q:Nat}(c:q≠s):rv1 F dj s F1 q=F1 q:=by
 unfold rv1;cases F s with
 | ref t a b=>
  cases b with
  | cons=>rfl
  | nil=>
   simp only;cases(dne dj s&&dne dj t) with
   | false=>rfl
   | true=>
    simp only[cond_true];cases F1 t with
    | Z k d=>
     cases k with
     | box=>
      simp only;cases F1 s with
      | dead=>grind [gT]
      | _=>rfl
     | _=>rfl
    | _=>rfl
 | _=>rfl
theorem XK{dj:Option Nat}{v1:AV}(c:∀t,(F t).uses d=false):∃a,rv1 (eff none d v F) dj s (eff none d v1 F1)=eff none d a (rv1 F dj s F1):=by
 by_cases b:s=d
 ·subst b
  have f:∃a,rv1 (eff none s v F) dj s (eff none s v1 F1)=eff none s a F1:=by
   unfold rv1;rw[pz];have set:∀x:AV,setH (eff none s v1 F1) s x=eff none s x F1:=λx=>by grind [t7,pz,gT,cX]
   grind
  obtain⟨a,g⟩:=f;refine⟨a,g.trans ?_⟩
  grind [pz,cX,WM]
 refine⟨v1,?_⟩;unfold rv1;rw[cX b];cases h:F s with
 | ref t i j=>
  cases j with
  | cons=>rfl
  | nil=>
   have k:t≠d:=λe=>by have:=c s;rw[h,e]at this;simp[AV.uses]at this
   grind [cX,HT]
 | _=>rfl
def Uq{d:Nat}{dj:Option Nat}{v:AV}(a:∀t,(F t).uses d=false):∀{l:List Nat}{v1:AV}{F1:Nat->AV},∃b,rvE (eff none d v F) dj l (eff none d v1 F1)=eff none d b (rvE F dj l F1)
 | [],v1,_=>⟨v1,rfl⟩
 | s::l,v1,F1=>by
  simp only[rvE];obtain⟨b,e⟩:=XK (dj:=dj) (v:=v) (v1:=v1) (s:=s) (F1:=F1) a;rw[e];exact Uq a
theorem VT{a:Oper}(B:a.guard=none)(k:sJ a.op=true)(g:a.dst≠some d)(w:d∉a.looksAt ops)(n:∀t,(F t).uses d=false)(h:l7 P TE N ops a K (eff none d v F)) :
  l7 P TE N ops a (Gq d (a.looksAt ops) F K) F:=by
 have f:∀t,t∈eK a.op->t∈a.looksAt ops:=λt o=>jZ a t o
 have tmI:∀x,x∈a.op.operands.toList->∀t,t∈tm x->t∈a.looksAt ops:=λx y t o=>f t (List.mem_flatMap.2 ⟨x,y,o⟩)
 have pur:∀dj,dj≠d->ew P TE (eff none d v F) a.op (λj=>cn N (eff none d v F) dj j K)->ew P TE F a.op λj=>cn N F dj j (Fq d (a.looksAt ops) v F K):=λdj g h=>
  HE (p:=λF K=>ew P TE F a.op K) (mB h) g f w n
 unfold l7 gY at h |-;rw[B]at h |-;simp only at h |-;cases b:a.op with
 | call c=>
  rw[b]at h k tmI;have q:tT c=none:=by grind [sJ,tT]
  have r:Gy N (eff none d v F) (.call c)=Gy N F (.call c):=by grind [sJ,Gy]
  rw[r]at h;have pl:mF P TE N a K (eff none d v F)->mF P TE N a (Gq d (a.looksAt ops) F K) F:=λh=>by
   unfold mF at h |-;rw[b]at h |-;cases C:a.dst with
   | none=>grind
   | some dj=>
    rw[C]at h;simp only[mO,q]at h |-;have A:=pur dj ψ;rw[b]at A;obtain⟨j,D,-,E⟩:=mB (A h);exact E F (Cs _ _) _ (bE D λQ G=>by
      obtain⟨v1,-,H,u⟩:=G;exact⟨v1,H,u⟩)
  cases J:Gy N F (.call c) with
  | some p=>
   rw[J]at h;simp only at h |-;have i:∀x,x∈p.2.1->d∉tm x:=λx y L=>by grind [sJ,Gy,Go.Op.operands,Go.Call.operands]
   have lt:wN P N (eff none d v F) a.dst p.1 p.2.1 p.2.2 K->wN P N F a.dst p.1 p.2.1 p.2.2 (Gq d (a.looksAt ops) F K):=λh=>uZ (TR (ts:=a.looksAt ops) h g w i n) λF1 h=>by
    obtain⟨v1,h,u⟩:=h;rw[q8]at h |-;obtain⟨M,e⟩:=Uq (dj:=a.dst) (v:=v) (l:=Zi N.mo) (v1:=v1) (F1:=F1) n;rw[e]at h;exact⟨M,h,Pd u⟩
   cases O:UR N (.call c) with
   | false=>grind
   | true=>
    rw[O]at h;rcases h with h|h
    ·exact .pl (pl h)
    exact .lt (lt h)
  | none=>
   grind [mF]
 | _=>rw[b]at k;cases k
theorem VV{a:Oper}(e:a.guard=none)(b:(X5 a.op || sJ a.op)=true)(c:a.dst≠some d)(f:d∉a.looksAt ops)(g:∀t,(F t).uses d=false)(h:l7 P TE N ops a K (eff none d v F)) :
  l7 P TE N ops a (Gq d (a.looksAt ops) F K) F:=by
 rw[CD]at b;rcases b with b|b
 ·refine m8 (Tt e b c f g h) λl i=>?_
  obtain⟨j,-,k,u⟩:=i;exact⟨j,k,u⟩
 grind [VT]
structure pC(ops:Array Oper)(ds:List Nat)(F:Nat->AV)(listed:Array Bool):Prop where
 dst:∀(j:Nat)(o:Oper)(d:Nat),tJ ds o=true->ops[j]? = some o->listed.getD j true=false->o.dst=some d->∀t,(F t).uses d=false
 mv:∀(j:Nat)(o:Oper)(T:Option Nat)(s:Nat),tJ ds o=true->ops[j]? = some o->listed.getD j true=false->o.guard=none->rk o.op=some (T,s)->lE ops o s=true->∀t,(F t).uses s=false
variable{j:Nat}
theorem pC.put{o:Option Nat}(h:pC ops ds F listed)(p:∀b a g,tJ ds a=true->b≠j->ops[b]? = some a->listed.getD b true=false->a.dst=some g->av.uses g=false)(q:∀b a T s,tJ ds a=true->b≠j->ops[b]? = some a->listed.getD b true=false->a.guard=none->rk a.op=some (T,s)->lE ops a s=true->av.uses s=false) :
  pC ops ds (eff o d av F) (listed.setIfInBounds j true):=by
 refine⟨λb a g i c e k t=>?_,λb a T s i c e r l n t=>?_⟩
 ·have f:=kn e
  rw[getD_set_ne true (Ne.symm f)]at e;exact mw ψ (h.dst b a g i c e k t)
 have f:=kn e;rw[getD_set_ne true (Ne.symm f)]at e;exact mw ψ (h.mv b a T s i c e r l n t)
theorem Bo{o:Oper}(h:Zc o=true):o.guard=none:=by grind [Zc]
theorem UV(h:(!ts.any (Nat.beq d))=true):d∉ts:=λa=>by grind [Nat.beq_refl]
theorem Vc{a b:Oper}{c:Bool}(h:YF ops a b c=true)(f:b.dst=some d):a.guard=none/\(X5 a.op || sJ a.op)=true/\a.dst≠some d/\d∉a.looksAt ops/\b.guard=none/\d∉b.looksAt ops/\(c=true\/∀T s,rk b.op=some (T,s)->lE ops b s=false):=by
 unfold YF at h;rw[f]at h;simp only[I0]at h;obtain⟨⟨⟨⟨⟨⟨g,i⟩,n⟩,j⟩,k⟩,l⟩,o⟩:=h;refine⟨Bo g,i,λe=>?_,UV j,Bo k,UV l,?_⟩
 ·simp_all
 grind
def UK(h:zr ops j i=true):r6 ops j i:=wX j _ (λ_ a=>.one (A5 a)) i h
theorem Qu{o:Oper}(h:tJ ds o=true):∃d,o.dst=some d/\ds.any (Nat.beq d)=true:=by grind [tJ]
structure X0(ops:Array Oper)(ds:List Nat)(nm:Nat->Bool):Prop where
 back:∀(j:Nat)(oj:Oper),ops[j]? = some oj->∀e∈oj.after,Region.binds .any e=true->e.on<j
 apart:∀(i j:Nat)(oi oj:Oper),tJ ds oi=true->tJ ds oj=true->i≠j->ops[i]? = some oi->ops[j]? = some oj->dS oj i=true\/dS oi j=true\/oi.apart ops oj=true
 look:∀(i j:Nat)(oi oj:Oper)(d:Nat),tJ ds oi=true->i≠j->ops[i]? = some oi->ops[j]? = some oj->oi.dst=some d->d∈oj.looksAt ops->dS oj i=true
 differ:∀(i j:Nat)(oi oj:Oper)(d:Nat),tJ ds oi=true->tJ ds oj=true->i≠j->ops[i]? = some oi->ops[j]? = some oj->oi.dst=some d->oj.dst≠some d
 nf:∀(i j:Nat)(oi oj:Oper),tJ ds oi=true->tJ ds oj=false->i≠j->ops[i]? = some oi->ops[j]? = some oj->zr ops j i=true\/zr ops i j=true\/YF ops oj oi (nm i)=true
 mvs:∀(j:Nat)(oj:Oper)(T:Option Nat)(s:Nat),tJ ds oj=true->ops[j]? = some oj->rk oj.op=some (T,s)->lE ops oj s=true->ds.any (Nat.beq s)=true
theorem sr{d:Oper}(a:X0 ops ds nm)(b:DC ops listed)(c:ops[j]? = some d)(f:∀e∈d.after,Region.binds .any e=true->listed.getD e.on false=true)(g:zr ops j i=true):listed.getD i false=true:=
 qG b a.back (UK g) (I6.1 c).1 λk h=>by grind [bM,dh]
theorem unl{k:Nat}(h1:listed.getD k true=false)(h2:listed.getD k false=true):False:=ψ
theorem j7.trans{a:Nat->AV}(h1:j7 F F1 ts)(h2:j7 F1 a ts):j7 F a ts:=λt b=>by
 obtain⟨c,d⟩:=h1 t b;obtain⟨e,f⟩:=h2 t b
 grind
theorem pC.us{g:Oper}(n:X0 ops ds nm)(h:pC ops ds F listed)(o:ops[j]? = some g)(r:∀e∈g.after,Region.binds .any e=true->listed.getD e.on false=true)(u:cG (g.looksAt ops) F F1):pC ops ds F1 (listed.setIfInBounds j true):=by
 refine⟨λi k t l b c d=>u.clean (λf=>?_) (h.dst i k t l b ?_ d),λi k T s l b c w p q=>u.clean (λf=>?_) (h.mv i k T s l b ?_ w p q)⟩
 ·have a:=kn c
  rw[getD_set_ne true (Ne.symm a)]at c;have:=n.look i j k g t l a b o d f
  grind [dh]
 ·have a:=kn c
  rwa [getD_set_ne true (Ne.symm a)]at c
 ·grind [kn,iF,dQ]
 have a:=kn c
 rwa [getD_set_ne true (Ne.symm a)]at c
theorem Ye{p:Nat}{b:Oper}(a:ops[p]? = some b)(j:d∉b.looksAt ops)(k:∀t,(F1 t).uses d=false)(e:b.dst≠some d)(h:XI P TE ops p (eff none d v F1)):XI P TE ops p F1:=by
 obtain⟨f,g,i,c⟩:=h;rw[bM a]at g i c;refine⟨f,by grind [bM],?_,?_⟩
 ·grind [bM,zI,pm]
 rw[bM a];obtain⟨l,n,-,o⟩:=mB c
 grind [cX,pm,jZ]
theorem MW(W:X0 ops ds nm){b:Oper}(D:ops[i]? = some b)(w:tJ ds b=true) :
  ∀(fuel:Nat)(listed:Array Bool)(F:Nat->AV)(l:Option Nat)(av:AV),i∈Region.ready .any ops listed->pC ops ds F listed->DC ops listed->Yl P TE N ops b F l d av->(nm i=true->l=none)->Md P TE N ops ds K fuel (listed.setIfInBounds i true) (eff l d av F)->Md P TE N ops ds K (fuel+1) listed F:=by
 have self:∀(listed:Array Bool)(F:Nat->AV)(l:Option Nat)(av:AV),i∈Region.ready .any ops listed->pC ops ds F listed->Yl P TE N ops b F l d av->∀X:(Nat->AV)->Prop,X (eff l d av F)->nP P TE N ops b X F:=λlisted F l av hr a c X hK=>by
  have f:=(mem_ready.1 hr).1;refine c.at_ F (Cs _ _) (a.dst i b d w D f c.dst) (λs hs=>?_) X hK;obtain⟨B,⟨T,h2⟩,h3⟩:=c.mvl s hs;exact a.mv i b T s w D f B h2 h3
 intro fuel
 induction fuel with
 | zero=>
  intro listed F l av hr a E c hnm H;refine⟨ψ,λj hj=>?_⟩;by_cases n:j=i
  ·grind [y1]
  have:=ready_mono hj n;rw[H.1]at this;cases this
 | succ fuel ih=>
  intro listed F l av hr a E c hnm H;refine⟨ψ,λj hj=>?_⟩;by_cases n:j=i
  ·grind [y1]
  have B:=H.2 j (ready_mono hj n);obtain⟨R,g,q,hall⟩:=mem_ready.1 hj;obtain⟨f,oi',C,halli⟩:=mem_ready.1 hr;rw[D]at C;simp only[C2]at C;subst C;have noedge:∀k ok,ops[k]? = some ok->listed.getD k true=false->dS g k=false:=λk ok hk hkun=>by grind [dh]
  have noedge':∀k ok,ops[k]? = some ok->listed.getD k true=false->dS b k=false:=λk ok hk hkun=>by grind [dh]
  have cd:∀t,(F t).uses d=false:=a.dst i b d w D f c.dst
  unfold y1 at B |-;rw[q]at B |-;simp only at B |-;by_cases G:tJ ds g=true
  case neg=>
   rw[CJ G]at B |-;have hji1:zr ops j i=false:=by grind [sr]
   have hij1:zr ops i j=false:=by grind [sr]
   have hfb:YF ops g b (nm i)=true:=by grind [X0.nf]
   obtain⟨J,r,A,g4,g5,g6,g7⟩:=Vc hfb c.dst;have hmv:l=none:=by
    cases l with
    | none=>rfl
    | some s=>
     obtain⟨-,⟨T,q1⟩,q2⟩:=c.mvl s rfl
     grind
   subst hmv;refine m8 (VV J r A g4 cd B) λF1 hF1=>?_
   obtain⟨v,⟨S,hrun⟩,u⟩:=hF1;have cd1:∀t,(F1 t).uses d=false:=u.clean g4 cd
   have hisz:i<listed.size:=ψ
   have hrd:XI P TE ops i (eff none d v F1):=S i (by simp[hisz]) (by grind [bM]) hji1;refine⟨λp hp1 L hp3=>?_,ih (listed.setIfInBounds j true) F1 none v (ready_mono hr (Ne.symm n)) (a.us W q hall u) (E.put hj) ?_ (λ_=>rfl) (by grind [Array.setIfInBounds_comm])⟩
   ·have hpi:p≠i:=ψ
    have hpl:p<ops.size:=by
     rcases Nat.lt_or_ge p ops.size with h|h
     ·exact h
     rw[show eE ops p=default by simp[eE,SD,Array.getElem?_eq_none h]]at L;cases L
    have h0:ops[p]? = some ops[p]:=ψ
    have U:=L;rw[bM h0]at U;refine Ye h0 (λhlk=>?_) cd1 (W.differ i p b _ d w U (Ne.symm hpi) D h0 c.dst) (S p (getD_set_true hp1) L hp3);have:=W.look i p b _ d w (Ne.symm hpi) D h0 c.dst hlk;exact unl f (E p _ h0 hp1 i this)
   obtain⟨dp,q1,q2,q3⟩:=hrd;rw[bM D]at q1 q2 q3;have hdp:dp=d:=by grind [Yl.dst]
   subst hdp;rw[pz]at q3;obtain⟨M,e1,e2,e3⟩:=mB q3;subst e1;have agr1:j7 (eff none dp M F1) F1 (b.looksAt ops):=pm g6 cd1;have fromv:fV F1 (b.looksAt ops) M:=λe he=>by
    rcases e2 e he with h|⟨t,Y,h⟩
    all_goals grind [jZ,cX]
   have Z:M.uses dp=false:=by
    cases hu:M.uses dp with
    | false=>rfl
    | true=>
     rcases fromv dp hu with h|⟨t,_,h⟩
     all_goals grind
   refine⟨c.dst,c.lt,Z,fromv,ψ,λF' hA O _ X hK=>?_⟩;have agr2:=agr1.trans hA;unfold nP;rw[zI agr2,q2];simp only;unfold iU gY
   grind [j7.mono,jZ,Yl.lt,Jx,cn]
  rw[CL G]at B |-;have hap:b.apart ops g=true:=by grind [X0.apart]
  obtain⟨ap1,ap2,ap3⟩:=Oper.apart_spec hap;have hdl:d∉g.looksAt ops:=ap1 d c.dst;have cdj':∀o,g.dst=some o->∀t,(F t).uses o=false:=λo hdj=>a.dst j g o G q R hdj
  have cmv:∀s,l=some s->(∀t,(F t).uses s=false)/\s∉g.looksAt ops/\s∈b.looksAt ops:=λs hs=>by
   obtain⟨J,⟨T,r⟩,A⟩:=c.mvl s hs;exact⟨a.mv i b T s w D f J r A,λhl=>n ((iF A).2 i j b g D q (dQ r) hl).symm,dQ r⟩
  have cmvj:∀T s,g.guard=none->rk g.op=some (T,s)->lE ops g s=true->(∀t,(F t).uses s=false)/\s∉b.looksAt ops/\s∈g.looksAt ops:=λT s J r A=>
   ⟨a.mv j g T s G q R J r A,λhl=>n ((iF A).2 i j b g D q hl (dQ r)).symm,dQ r⟩
  have avno:∀e,e∉b.looksAt ops->(∀t,(F t).uses e=false)->av.uses e=false:=λe B h2=>by
   cases hu:av.uses e with
   | false=>rfl
   | true=>
    rcases c.from_ e hu with h|⟨t,_,h⟩
    all_goals grind
  obtain⟨mvj,o,avj,y,hKj⟩:=t6 B (λo hdj t=>mw ψ (cdj' o hdj t)) (λT s J r A t=>by grind [mw]);have hdne:d≠o:=λe=>ap2 d c.dst (by rw[y.dst,e])
  have hdjl:o∉b.looksAt ops:=ap3 o y.dst;have cdj:∀t,(F t).uses o=false:=cdj' o y.dst
  have cmj:∀s,mvj=some s->(∀t,(F t).uses s=false)/\s∉b.looksAt ops/\s∈g.looksAt ops:=λs hs=>by
   obtain⟨J,⟨T,r⟩,A⟩:=y.mvl s hs
   grind
  have lookj:∀t,t∈g.looksAt ops->eff l d av F t=F t:=λt Y=>by grind [eff]
  have looki:∀t,t∈b.looksAt ops->eff mvj o avj F t=F t:=λt Y=>by grind [eff]
  have avjno:∀e,e∉g.looksAt ops->(∀t,(F t).uses e=false)->avj.uses e=false:=λe B h2=>by
   cases hu:avj.uses e with
   | false=>rfl
   | true=>
    rcases y.from_ e hu with h|⟨t,Y,h⟩
    all_goals grind
  have agrj:j7 (eff l d av F) F (g.looksAt ops):=λt Y=>by grind [eff]
  refine y.at_ F agrj cdj ψ _ (ih (listed.setIfInBounds j true) (eff mvj o avj F) l av (ready_mono hr (Ne.symm n)) (a.put (λj' o' d' hm' V Q hl' O=>?_) (λj' o' T s hm' V Q hl' J r A=>?_)) (E.put hj) ?_ hnm ?_)
  ·refine avjno d' (λh=>?_) (a.dst j' o' d' hm' Q hl' O)
   grind [X0.look]
  ·exact avjno s (λh=>V ((iF A).2 j' j o' g Q q (dQ r) h)) (a.mv j' o' T s hm' Q hl' J r A)
  ·refine⟨c.dst,c.lt,c.self,λe he=>?_,c.mvl,λF' hA O hs' X hK=>c.at_ F' (λt Y=>?_) O hs' X hK⟩
   ·rcases c.from_ e he with h|⟨t,Y,h⟩
    all_goals grind
   obtain⟨a1,a2⟩:=hA t Y
   grind [eff]
  rw[Array.setIfInBounds_comm _ _ n];have:eff l d av (eff mvj o avj F)=eff mvj o avj (eff l d av F):=by grind [eff]
  grind
theorem Gc:∀{b:List Nat}{X:Prop}{F:Nat->AV},U8 P TE ops b X F->X/\∀p,p∈b->XI P TE ops p F
 | [],X,F,h=>⟨h,ψ⟩
 | p::l,X,F,h=>by
  simp only[U8]at h;unfold YT at h;cases c:(eE ops p).dst with
  | none=>grind
  | some d=>
   rw[c]at h;simp only at h;cases f:PI F (eE ops p) with
   | some q=>grind
   | none=>
    rw[f]at h;simp only at h;obtain⟨g,i,-,-⟩:=mB h;obtain⟨e,k,j⟩:=(show g=F d/\X/\∀p,p∈l->XI P TE ops p F from⟨i.out.1,Gc i.out.2⟩)
    refine⟨k,λn a=>?_⟩;rcases List.mem_cons.1 a with rfl|a
    ·exact⟨d,c,f,lS h λg h=>h.out.1⟩
    grind
variable{l:List (Nat × List Nat)}
theorem xt : Av l i=true↔∃p,p∈l/\p.1=i:=by grind [v4,Nat.beq_refl,Av]
theorem tt{k:Nat × List Nat} : Av (k::l) i=(Nat.beq k.1 i || Av l i):=rfl
theorem Jr(b:X0 ops ds nm){K:(Nat->AV)->Prop} : ∀(l:List (Nat × List Nat))(listed:Array Bool)(F:Nat->AV),Mt ops ds l=true->listed.size=ops.size->(∀j,j<ops.size->listed.getD j true = !Av l j)->pC ops ds F listed->DC ops listed->
  QH P TE N ops ds nm l K F->Md P TE N ops ds K l.length listed F
 | [],listed,F,_,hs,E,_,_,c=>by
  refine⟨?_,c⟩;apply List.eq_nil_iff_forall_not_mem.2;intro j R;obtain⟨S,o,ho,-⟩:=mem_ready.1 R;have G:=(I6.1 ho).1;rw[E j G]at S;cases S
 | k::l,listed,F,A,hs,E,a,H,c=>by
  simp only[Mt,I0]at A;obtain⟨⟨⟨⟨q1,q2⟩,q3⟩,Z⟩,q5⟩:=A;have hk:k.1<ops.size:=by simp_all
  have r:ops[k.1]? = some ops[k.1]:=ψ
  have hrf:∀i,i<ops.size->listed.getD i true=true->listed.getD i false=true:=ψ
  have hready:k.1∈Region.ready .any ops listed:=mem_ready.2 ⟨by grind [tt,Nat.beq_refl],_,r,λe he hb=>by
    have G:=b.back k.1 _ r e he hb
    grind [bM,tt]⟩
  have B:∀j,j<ops.size->(listed.setIfInBounds k.1 true).getD j true = !Av l j:=λj R=>by
   by_cases w:j=k.1
   ·simp_all
   rw[getD_set_ne true (Ne.symm w),E j R,tt,show Nat.beq k.1 j=false by rw[<-SA,Nat.beq_eq];exact Ne.symm w];rfl
  show Md P TE N ops ds K (l.length+1) listed F;simp only[QH]at c;rw[bM r]at c Z;have U:listed.getD k.1 true=false:=(mem_ready.1 hready).1;cases f:tJ ds ops[k.1] with
  | true=>
   rw[f]at c;simp only[cond_true]at c;obtain⟨mv,d,av,hy,c,hnm⟩:=RG c (λd hd=>a.dst k.1 _ d f r U hd) (λT s g1 g2 g3=>a.mv k.1 _ T s f r U g1 g2 g3);have C:∀e∈ops[k.1].after,Region.binds .any e=true->listed.getD e.on false=true:=by grind [Go.mem_ready]
   refine MW b r f l.length listed F mv av hready a H hy hnm (Jr b l _ _ q5 (by simpa using hs) B (a.put (λO Q V g D n hl'' J=>?_) (λO Q T s g D n hl'' g1 g2 g3=>?_)) (H.put hready) c)
   ·cases hu:av.uses V with
    | false=>rfl
    | true=>
     rcases hy.from_ V hu with h|⟨t,_,h⟩
     ·have:=b.look O k.1 Q _ V g D n r J h
      grind [dh]
     rw[a.dst O Q V g n hl'' J t]at h;cases h
   cases hu:av.uses s with
   | false=>rfl
   | true=>
    rcases hy.from_ s hu with h|⟨t,_,h⟩
    ·grind [iF,dQ]
    rw[a.mv O Q T s g n hl'' g1 g2 g3 t]at h;cases h
  | false=>
   rw[f]at c Z;simp only[cond_false]at c;simp only[Bool.false_or,I0]at Z;obtain⟨⟨r1,r2⟩,r3⟩:=Z;refine⟨ψ,λj R=>?_⟩;obtain⟨hjun,oj,y,C⟩:=mem_ready.1 R;have hjlt:=(I6.1 y).1;have w:j=k.1:=by grind [xt,sr]
   subst w;rw[r]at y;simp only[C2]at y;subst y;unfold y1;rw[r];simp only[f,CJ (show ¬false=true by decide)];have post:∀u,U8 P TE ops k.2 (QH P TE N ops ds nm l K u) u->pC ops ds u (listed.setIfInBounds k.1 true)->(∀p,listed.getD p false=true->tJ ds (eE ops p)=true->zr ops k.1 p=false->XI P TE ops p u)/\Md P TE N ops ds K l.length (listed.setIfInBounds k.1 true) u:=λu L W=>by
    obtain⟨X,hrd⟩:=Gc L;refine⟨λp hp1 hp2 hp3=>hrd p ?_,Jr b l _ _ q5 (by simpa using hs) B W (H.put hready) X⟩;have hpl:p<ops.size:=ψ
    grind [iS,tt,v4]
   cases hlater:l.any (λj=>tJ ds (eE ops j.1)) with
   | false=>
    refine m8 c λu L=>post u L ⟨λO Q V g n hl'' J=>?_,λO Q T s g n hl''=>?_⟩
    all_goals grind [xt,bM]
   | true=>
    rw[hlater]at r3;simp only[Bool.not_true,Bool.false_or,I0]at r3;obtain⟨x,hx1,q⟩:=I7.1 hlater;have Y:listed.getD x.1 true=false/\x.1<ops.size:=by
     have G:x.1<ops.size:=by
      rcases Nat.lt_or_ge x.1 ops.size with h|h
      ·exact h
      rw[show eE ops x.1=default by simp[eE,SD,Array.getElem?_eq_none h]]at q;cases q
     grind [xt]
    have M:ops[x.1]? = some ops[x.1]:=ψ
    rw[bM M]at q;obtain⟨d,hd,hdd⟩:=Qu q;have hxk:x.1≠k.1:=ψ
    refine m8 (VW (d:=d) (Bo r3.1) r3.2 (λe=>?_) (λhlk=>?_) (a.dst x.1 _ d q M Y.1 hd) c) λu S=>post u S.1 (a.us b r C S.2)
    ·grind [tJ]
    have:=b.look x.1 k.1 _ _ d q hxk M r hd hlk
    grind [dh]
theorem GS{sch:List (Nat × List Nat)}(h:Hq ops ds sch=true):X0 ops ds (Zj sch)/\Mt ops ds sch=true/\sch.length=ops.size/\∀j,j<ops.size->Av sch j=true:=by
 unfold Hq at h;simp only[I0]at h;obtain⟨⟨p,k⟩,l⟩:=h;have C:=λj (o:j<ops.size)=>iS p o
 have r:∀(i j:Nat)(c b:Oper),i≠j->ops[i]? = some c->ops[j]? = some b->G4 ops ds (Zj sch) i j=true:=λi j c b a f g=>by grind [iS,Nat.beq_eq]
 refine⟨⟨λj b o e t u=>?_,λi j c b n q a f g=>?_,λi j c b d n a f g w D=>?_,λi j c b d n q a f g w t=>?_,λi j c b n q a f g=>?_,λj b T s n o y A=>?_⟩,l,v4 k,λj o=>?_⟩
 ·grind [bM,Nat.blt_eq]
 ·grind [bM,G4]
 ·have:=r i j c b a f g
  unfold G4 at this;rw[bM f,bM g,n]at this;have B:x9 ops i j=true:=by grind [bM,Nat.beq_refl,x9]
  grind
 ·grind [bM,Nat.beq_refl,G4]
 all_goals grind [bM,G4]
theorem xR{l:List Nat} : Jw l j=true↔j∈l:=by grind [v4,Nat.beq_refl,Jw]
def KZ{p:Nat->Prop} : ∀{l:List Nat}{i:Nat},Z0 p i l->∀j,j∈i::l->p j
 | [],i,h,j,a=>by rw[z3.1 a];exact h
 | k::l,i,h,j,a=>by
  rcases List.mem_cons.1 a with rfl|a
  ·exact h.1
  exact KZ h.2 j a
theorem K6{l:List Nat}{K:Prop}{p:Nat->Prop}(h:Zw l K p):(l=[]->K)/\∀j∈l,p j:=by
 cases l with
 | nil=>exact⟨λ_=>h,ψ⟩
 | cons i l=>exact⟨ψ,KZ h⟩
theorem uJ{done:List Nat}(h:listed.size=ops.size)(b:∀j,j<ops.size->listed.getD j true=Jw done j)(l:∀k∈done,k<ops.size) : j∈Region.ready .any ops listed↔j∈Uc ops done:=by
 have c:∀i,listed.getD i false=Jw done i:=λi=>by grind [xR]
 rw[mem_ready];unfold Uc;rw[S8,List.mem_range,I0];constructor
 ·grind [bM]
 rintro⟨a,n,d⟩
 refine⟨ψ,ops[j],ID a,λe f g=>?_⟩;have:=O7.1 d e (by rw[bM (ID a)];simpa using f)
 grind
theorem Xy{K:(Nat->AV)->Prop} : ∀(n:Nat)(done:List Nat)(listed:Array Bool)(F:Nat->AV),listed.size=ops.size->(∀j,j<ops.size->listed.getD j true=Jw done j)->(∀k∈done,k<ops.size)->XE P TE N ops K n done F->Md P TE N ops [] K n listed F
 | 0,done,listed,F,c,a,f,h=>by
  obtain⟨g,l⟩:=K6 h;have o:Uc ops done=[]:=List.eq_nil_iff_forall_not_mem.2 λj b=>l j b
  exact⟨List.eq_nil_iff_forall_not_mem.2 λj b=>(by grind [uJ]),g o⟩
 | n+1,done,listed,F,c,a,f,h=>by
  obtain⟨g,l⟩:=K6 h;refine⟨λo=>g (List.eq_nil_iff_forall_not_mem.2 λj b=>(by rw[<-uJ c a f,o]at b;cases b)),λi t=>?_⟩;have d:=(uJ c a f).1 t;have q:=l i d;have u:i<ops.size:=List.mem_range.1 (S8.1 d).1;have r:ops[i]? = some ops[i]:=ψ
  unfold y1;rw[r];simp only;rw[bM r]at q;have w:tJ [] ops[i]=false:=by grind [tJ]
  rw[CJ (by rw[w];decide)];refine m8 q λy A=>⟨λp _ B=>?_,Xy n (i::done) _ y (by simpa using c) (λj b=>?_) (λk C=>?_) A⟩
  ·grind [tJ]
  ·by_cases e:j=i
   ·subst e
    rw[show Jw (j::done) j=true from xR.2 ψ];simp[c,b]
   rw[getD_set_ne true (Ne.symm e),a j b]
   grind [xR]
  grind
theorem DB(g:∀t i,TE t=some i->j9 P t i)(y:P.follows .mixedOrders=true){id:Nat}{tb:List (Nat × Nat × List Nat)}(b:rh tb id ops=true)(c:DD P TE N tb id ops K F)(A:St w0 M S0 N F a w)(B:∀F' C D,K F'->St w0 M S0 N F' C D->Q .normal C D):(Code.region id ops true).wp P Q a w:=by
 unfold rh at b;unfold DD at c;cases q:Df tb id with
 | none=>grind
 | some p=>
  obtain⟨m,L⟩:=p;rw[q]at b c;simp only at b c;cases k:Nat.ble 65536 m with
  | true=>
   rw[k]at c;refine wp_region_any y ?_;have f:St w0 M S0 N F a {w with drawn:=w.drawn+1}:=by
    obtain⟨S,φ,h⟩:=A;exact⟨S,φ,h.more (w1:={w with drawn:=w.drawn+1}) (λ_ _ h=>h) ψ ⟨rfl,rfl,rfl,C5 _,λ_ _ _=>rfl,λ_ _ _ _=>rfl,λ_ _ _ _=>rfl⟩⟩
   refine ve g (ds:=[]) B ops.size (Array.replicate ops.size false) _ a _ ?_ f;exact Xy ops.size [] _ F (by simp) (λj n=>by simp[n,Jw]) ψ c
  | false=>
  rw[k]at b c;simp only[cond_false]at b c;cases r:Nat.ble 256 m with
  | false=>
   grind [Ju]
  | true=>
   rw[r]at b c;simp only[cond_true,P2]at b c;generalize L.take (m - 256)=ds at b c;generalize dec (L.drop (m - 256))=sch at b c;obtain⟨E,l,e,G⟩:=GS b;refine wp_region_any y ?_;have f:St w0 M S0 N (Ab.clr ds F) a {w with drawn:=w.drawn+1}:=by
    have O:=A.clr ds;obtain⟨S,φ,h⟩:=O;exact⟨S,φ,h.more (w1:={w with drawn:=w.drawn+1}) (λ_ _ h=>h) ψ ⟨rfl,rfl,rfl,C5 _,λ_ _ _=>rfl,λ_ _ _ _=>rfl,λ_ _ _ _=>rfl⟩⟩
   refine ve g (ds:=ds) B ops.size (Array.replicate ops.size false) _ a _ ?_ f;have u:∀d,ds.any (Nat.beq d)=true->∀t,(Ab.clr ds F t).uses d=false:=λd R t=>by
    rw[GM];cases X:ds.any (λd=>(F t).uses d) with
    | true=>rfl
    | false=>
     simp_all
   rw[<-e];refine Jr E sch _ _ l (by simp[e]) (λj n=>by simp_all) ⟨λj o d H J _ R t=>?_,λj o T s H J _ _ U V t=>u s (E.mvs j o T s H J U V) t⟩ (λj Y n Z=>by
     have W:=(I6.1 n).1
     simp_all) c
   grind [Qu]
end
def mJ:List (Option Nat)->Kd
 | [ag]=>o7 ag
 | a=>.tup a
def uS:ResultVar->Nat
 | .tmp t=>t
 | .cell t _=>t
def LG(tmps:Array Value):ResultVar->Sem Value
 | .tmp t=>pure (tmps.getD t undef)
 | .cell a t=>do loadVar t (<-asAddr (tmps.getD a undef))
def resOne(TE:Nat->Option TI)(F:Nat->AV)(r:ResultVar)(K:Option Nat->List C->Prop):Prop:=
 match r with
 | .tmp t=>(match F t with
   | .Z .one cs=>K none cs
   | .Z .agg cs=>K (some cs.length) cs
   | _=>False)
 | .cell t T=>match TE T with
  | some i=>bif i.agg || Nat.beq i.size 1 then(match F t with
    | .Z .box cs=>bif Nat.beq cs.length i.size then K (tM i) cs else False
    | _=>False) else False
  | none=>False
def resA(TE:Nat->Option TI)(F:Nat->AV):List ResultVar->List Nat->(List (Option Nat)->List C->Prop)->Prop
 | [],_,K=>K [] []
 | r::rs,seen,K=>bif seen.any (Nat.beq (uS r)) then False else resOne TE F r λb c=>resA TE F rs (uS r::seen) λd a=>K (b::d) (c++a)
def Zt:RA->AV
 | .val a cs=>.Z (o7 a) cs
 | .ptr cs=>.iref cs 0
 | .fn Ok=>.fv Ok
def zf:Nat->List RA->List (Nat × AV)
 | _,[]=>[]
 | i,A::As=>(i,Zt A)::zf (i+1) As
inductive QI:C->C->Prop
 |rfl_ (c:C):QI c c
 |z_:QI .z (.s .own [])
 |own_ (rows rows':List (List C)) (hl:rows.length=rows'.length) (hk:∀(i:Nat)(r r':List C),rows[i]? = some r->rows'[i]? = some r'->r.length=r'.length)
   (hr:∀(i j:Nat)(r r':List C)(c c':C),rows[i]? = some r->rows'[i]? = some r'->r[j]? = some c->r'[j]? = some c'->QI c c'):QI (.s .own rows) (.s .own rows')
def Ts(cs a:List C):Prop:=cs.length=a.length/\∀(j:Nat)(c b:C),cs[j]? = some c->a[j]? = some b->QI c b
def Ts.nil:Ts [] []:=⟨rfl,λj c a h=>by simp at h⟩
variable{cs a:List C}
theorem Ts.cons{c b:C}(h:QI c b)(d:Ts cs a):Ts (c::cs) (b::a):=by
 refine⟨by simp[d.1],λj y e f g=>?_⟩;cases j with
 | zero=>grind
 | succ j=>exact d.2 j y e (by simpa using f) (by simpa using g)
def QI.rep{r r':List C}(h:Ts r r'):QI (.s .own (List.replicate n r)) (.s .own (List.replicate n r')):=by
 refine .own_ _ _ (by simp) (λi a b d e=>?_) (λi j a b c o d e k l=>?_)
 ·have f:=List.mem_replicate.1 (t4 d)
  have g:=List.mem_replicate.1 (t4 e);rw[f.2,g.2];exact h.1
 have f:=List.mem_replicate.1 (t4 d);have g:=List.mem_replicate.1 (t4 e);rw[f.2]at k;rw[g.2]at l;exact h.2 j c o k l
theorem WX{w:World}{S Y:am}{c:C}{v:Value}(h:fj w S Y c v):∀t,QI c t->fj w S Y t v:=by
 induction h with
 | z F a=>
  intro t j;cases j with
  | rfl_=>exact .z _ _
  | z_=>exact .nil _ _ _ tV1
 | nil F o a K=>
  intro t j;cases j with
  | rfl_=>exact .nil _ _ _ K
  | own_ d e E=>obtain rfl:e=[]:=OF (by simpa using E.symm);exact .nil _ _ _ tV1
 | own F o g k n y d u f K J L p A D R T j G X=>
  intro t M;cases M with
  | rfl_=>exact .own _ o g k n y d u f K J L p A D R T j G
  | own_ d e E Z U=>
   have V:∀(i:Nat)(W:List C),e[i]? = some W->∃r,d[i]? = some r:=ψ
   refine .own _ .own g k n y e u f tV1 (E.symm.trans J) (λW hr'=>?_) p A D R T j ψ
   all_goals grind [List.mem_iff_getElem?]
 | v F x N=>intro t j;cases j;exact .v _ _ N
 | x F u N=>intro t j;cases j;exact .x _ _ N
 | S F g O k n y d u J L p hS G X=>intro t j;cases j;exact .S _ g O k n y d u J L p hS G
 | m F b l es q D P he Q B=>intro t j;cases j;exact .m _ b l es q D P he Q B
 | it F r b since c0 l seen q cur left D U P B G Q E H=>intro t j;cases j;exact .it _ r b since c0 l seen q cur left D U P B G Q E H
def WK(cs a:List C):Prop:=Rr cs a\/Ts cs a
inductive j8(k k':Kd)(cs cs':List C):Prop
 |mk_ (h:k=k'/\WK cs cs')
def m9:∀(cs:List C),Rr cs cs
 | []=>trivial
 | c::cs=>by
  refine⟨?_,m9 cs⟩;cases c with
  | s o a=>cases o<;>rfl
  | x=>trivial
  | _=>rfl
variable{k:Kd}
def j8.mk{b:Kd}(h1:k=b)(h2:cs=a):j8 k b cs a:=by refine .mk_ ?_;exact⟨h1,.inl (h2 ▸ m9 cs)⟩
def j8.wk{b:Kd}(h1:k=b)(h2:Rr cs a):j8 k b cs a:=.mk_ ⟨h1,.inl h2⟩
def j8.dk{b:Kd}(h1:k=b)(h2:Ts cs a):j8 k b cs a:=.mk_ ⟨h1,.inr h2⟩
def j8.out{b:Kd}(h:j8 k b cs a):k=b/\WK cs a:=by obtain⟨h⟩:=h;exact h
theorem WK.len(h:WK cs a):cs.length=a.length:=h.elim (λh=>(wV h).1) (λh=>h.1)
theorem WK.row{w:World}{S Y:am}{c:List C}{u:Nat->Value}(a:WK cs c)(h:dz w S Y cs u):dz w S Y c u:=by
 rcases a with a|a
 ·exact Hv a h
 obtain⟨f,k,l,n⟩:=h;refine⟨f,λj i b=>?_,λj b=>l j (by rw[a.1];exact b),λj o b e=>n j o (by rw[a.1];exact b) (by rw[a.1];exact e)⟩;have g:=(C4.1 b).1;have d:cs[j]? = some (cs[j]'(by rw[a.1];exact g)):=ψ
 exact WX (k j _ d) i (a.2 j _ i d b)
def WS(TE:Nat->Option TI)(c:List ResultVar)(k:Kd)(rcs:List C):Exit->(Nat->AV)->Prop:=λe F=>
 match e with
 | .normal=>resA TE F c [] λa b=>j8 (mJ a) k b rcs
 | .ret=>resA TE F c [] λa b=>j8 (mJ a) k b rcs
 | _=>False
def Xg(F:Nat->AV)(t:Nat)(rcs:List C):Prop:=
 match F t with
 | .Z .box cs=>j8 .box .box cs rcs
 | .ref a 0 []=>(match F a with
   | .Z .box cs=>j8 .box .box cs rcs
   | _=>False)
 | _=>False
def YO(t:Nat)(rcs:List C):Exit->(Nat->AV)->Prop:=λe F=>
 match e with
 | .normal=>Xg F t rcs
 | .ret=>Xg F t rcs
 | _=>False
section
variable{P:Program}{w0 w w1:World}{M S0 S:am}{N:gy}{φ:Nat->am}{F:Nat->AV}{a:Act}{TE:Nat->Option TI}
theorem bq.resOne(h:bq w0 M S0 N S φ F a w)(n:∀t i,TE t=some i->j9 P t i){r:ResultVar}{K:Option Nat->List C->Prop}(b:resOne TE F r K) :
  ∃ag cs v,K ag cs/\bL w S (φ (uS r)) ag cs v/\(LG a.tmps r).run P w=.ok v w:=by
 cases r with
 | tmp t=>
  have e:=h.slot t;simp only[Ab.resOne]at b;cases p:F t with
  | Z k cs=>
   rw[p]at b e;obtain⟨E,Y,G,j,H,A,l⟩:=e;cases k with
   | one=>exact⟨none,cs,tvs a t,b,⟨A,_,rfl,l.mono (λ_ _ h=>h) j⟩,rfl⟩
   | agg=>
    obtain⟨arr,q,u⟩:=A;refine⟨some cs.length,cs,tvs a t,b,⟨rfl,cZ w .agg (tvs a t),?_,l.mono (λ_ _ h=>h) j⟩,rfl⟩;rw[q];have:=tD arr;rw[u]at this;exact this
   | _=>exact b.elim
  | _=>grind
 | cell t T=>
  have e:=h.slot t;simp only[Ab.resOne]at b;split at b
  case h_2=>exact b.elim
  rename_i i J;have L:=n _ _ J;cases B:(i.agg || Nat.beq i.size 1) with
  | false=>grind
  | true=>
   rw[B]at b;simp only[cond_true]at b;cases p:F t with
   | Z k cs=>
    rw[p]at b e;cases k with
    | box=>
     simp only at b;cases D:Nat.beq cs.length i.size with
     | false=>grind
     | true=>
      rw[D]at b;have O:=v4 D;obtain⟨E,Y,G,j,H,⟨g,o,q,Q⟩,l⟩:=e;have c:∀d,d<i.size->cel w g (o+d)=some (cZ w .box (tvs a t) d):=λd R=>by grind [cZ]
      have f:=De (w:=w) L B c;refine⟨_,cs,_,b,⟨by grind [sI],_,rfl,l.mono (λ_ _ h=>h) j⟩,?_⟩;have y:a.tmps.getD t undef=.pointer (some ⟨g,o,none⟩):=q;simp only[LG,y,asAddr];exact f
    | _=>exact b.elim
   | _=>grind
def Nb{ag:Option Nat}{cs:List C}{v:Value}{Y:am}(h:bL w S Y ag cs v):∃u,v.cells.toList=(List.range cs.length).map u/\dz w S Y cs u/\v=mkv ag u:=by
 obtain⟨a,u,rfl,b⟩:=h;refine⟨u,?_,b,rfl⟩;rw[ta (λe=>by subst e;exact b.one (by simp at a;omega)),a]
theorem Nd{d e:am}{cs a:List C}{u g:Nat->Value}(h:dz w S d cs u)(h':dz w S e a g)(p:∀b o,d b o->¬e b o) :
  dz w S (λb o=>d b o\/e b o) (cs++a) (λj=>if j<cs.length then u j else g (j - cs.length)):=by
 obtain⟨f,q,r,t⟩:=h;obtain⟨i,k,l,n⟩:=h';refine⟨λj=>if j<cs.length then f j else i (j - cs.length),λj c y=>?_,ψ,ψ⟩
 all_goals grind
theorem bq.resA(h:bq w0 M S0 N S φ F a w)(e:∀t i,TE t=some i->j9 P t i):∀{p:List ResultVar}{seen:List Nat}{K:List (Option Nat)->List C->Prop},resA TE F p seen K->
  ∃sh cs vs u,K sh cs/\(p.mapM (LG a.tmps)).run P w=.ok vs w/\BQ sh vs/\sh.length=p.length/\BC sh=cs.length/\
   (vs.flatMap λv=>v.cells.toList)=(List.range cs.length).map u/\(∀ag,sh=[ag]->∃v,vs=[v]/\bL w S (λb o=>∃t,t∉seen/\φ t b o) ag cs v)/\dz w S (λb o=>∃t,t∉seen/\φ t b o) cs u
 | [],seen,K,c=>⟨[],[],[],λ_=>undef,c,rfl,tV1,rfl,rfl,rfl,ψ,dz.nil _ _ _ _⟩
 | r::p,seen,K,c=>by
  simp only[Ab.resA]at c;cases d:seen.any (Nat.beq (uS r)) with
  | true=>grind
  | false=>
   rw[d]at c;simp only[cond_false]at c;have L:uS r∉seen:=λY=>by grind [Nat.beq_refl]
   obtain⟨ag,cs,v,c,q,G⟩:=h.resOne e c;obtain⟨sh,f,vs,O,Q,y,A,B,R,hcells,-,g⟩:=bq.resA h e c;obtain⟨u,D,H,k⟩:=Nb q;have T:∀b o,φ (uS r) b o->¬∃t,t∉uS r::seen/\φ t b o:=λb o U ⟨t,Z,E⟩=>h.dis _ _ ψ b o U E
   refine⟨ag::sh,cs++f,v::vs,λj=>if j<cs.length then u j else O (j - cs.length),Q,?_,?_,by simp[B],?_,?_,?_,?_⟩
   ·simp_all
   ·obtain⟨V,-⟩:=q
    cases ag with
    | none=>
     refine⟨?_,A⟩;rw[k];have J:(u 0).oneCell'=true:=H.one (by simp at V;omega);show(u 0).cells = #[u 0];cases W:u 0<;>first|(rw[W]at J;cases J;done)|rfl
    | some n=>exact⟨⟨_,by rw[k];rfl,by simp⟩,A⟩
   ·rw[uY,O5,R,q.1]
   ·simp only[CE,D,hcells,O5]
    apply List.ext_getElem?
    grind
   ·intro X l
    simp only[List.cons.injEq]at l;obtain⟨rfl,rfl⟩:=l;cases vs with
    | cons _ _=>exact A.elim
    | nil=>
     have:f=[]:=OF (by simp_all);subst this;exact⟨v,rfl,by rw[List.append_nil];exact q.mono (λ_ _ h=>h) ψ⟩
   exact(Nd H g T).mono (λ_ _ h=>h) ψ
theorem xq:∀{A:List RA}{vs:List Value}(i:Nat),DQ w S A vs->∀t,(lay (zf i A) t=.dead)\/(∃a v,i<=t/\vs[t - i]? = some v/\lay (zf i A) t=Zt a/\qL w S a v)
 | [],_,i,_,t=>.inl rfl
 | a::A,[],i,h,t=>h.elim
 | a::A,v::vs,i,h,t=>by
  simp only[zf,lay];cases b:Nat.beq t i with
  | true=>
   have:=v4 b;subst this;exact .inr ⟨a,v,C5 _,by simp,rfl,h.1⟩
  | false=>
   have c:t≠i:=λe=>by simp_all
   rcases xq (i+1) h.2 t with d|⟨f,g,d,j,k⟩
   all_goals grind
theorem qL.slot{A:RA}{v:Value}(h:qL w S A v){tv:Nat->Value} : dC w S F tv NO (Zt A) v:=by
 cases A with
 | val f a=>exact bL.slot h
 | ptr a=>obtain⟨g,b,u,c,d,e⟩:=h;exact⟨g,b,u,by rw[c,Nat.add_zero],d,e⟩
 | fn Ok=>exact h
def HV:∀{A:List RA}{vs:List Value},DQ w S A vs->A.length=vs.length
 | [],[],_=>rfl
 | _::_,_::_,h=>by simp[HV h.2]
 | [],_::_,h=>h.elim
 | _::_,[],h=>h.elim
variable{ck:Nat->Array Oper->Bool}{rcs: List C}{D: Nat -> Array Oper -> ((Nat -> AV) -> Prop) -> (Nat -> AV) -> Prop}
theorem Rd{f : Nat}{d : Func}{c : Code}{sh : Bool}{A : List RA}{k : Kd}(K : ∀t i, TE t = some i -> j9 P t i)(hf : P.funcs[f]? = some d)(hn : (d.name == "runtime.NumGoroutine") = false)(p:d.body=some c)(hD:BF P N ck D)(hc:iG ck c=true)(hN:A.length+(d.ntmps - A.length)=N.n)(hkp:N.kp=[])(U:sh=true\/iN rcs)(hp:aw P TE N D c (WS TE d.results.toList k rcs) (lay (zf 0 A))):au P f sh A k rcs:=by
 refine⟨⟨d,hf,hn,by rw[p];rfl⟩,λw S r hS hA=>?_⟩;have hlen:=HV hA;refine calls_of_wp hf p ?_;have V:St w NO S N (lay (zf 0 A)) {tmps:=r.toArray++Array.replicate (d.ntmps - r.toArray.size) undef,defers:=[]} w:=by
  refine⟨S,λ_=>NO,λt=>?_,λ_ _ _ _ _ h=>h.elim,λ_ _ _ h=>h.elim,λ_ _ _ h=>h.elim,λ_ _ h=>h,ψ,Cr _ _,by simp;omega,rfl,ψ⟩;rcases xq 0 hA t with y|⟨A0,v,-,B,G,h4⟩
  ·rw[y];trivial
  rw[G];have hv:tvs {tmps:=r.toArray++Array.replicate (d.ntmps - r.toArray.size) undef,defers:=[]} t=v:=by
   have hlt:=(C4.1 B).1;simp only[tvs,SD]
   grind
  grind [qL.slot]
 refine kH K hD c hc _ _ _ _ w hp V λe F' J g W Z=>?_
 obtain⟨S',φ',h⟩:=Z;have fin:resA TE F' d.results.toList [] (λsh L=>j8 (mJ sh) k L rcs)->J.defers=[]/\∃v,(results d J.tmps).run P g=.ok v g/\(∃v',Ending.returned v=.returned v'/\bH NO w g/\∃X S1:am,(∀b o,X b o->b<g.heap.size/\w.heap.size<=b)/\
     (∀b o,S1 b o->(sh=true/\S b o)\/(b<g.heap.size/\w.heap.size<=b))/\(∀b o,X b o->¬S1 b o)/\gX g NO k rcs.length v'/\dz g S1 X rcs (cZ g k v')):=by
  intro hr;obtain⟨shs,L,a,u,M,hrun,q,hln,R,hcells,l,O⟩:=h.resA K hr;obtain⟨rfl,hwk⟩:=M.out;refine⟨h.defers,?_⟩;have H:(results d J.tmps).run P g=.ok (if h:a.toArray.size=1 then a.toArray[0] else .tuple a.toArray) g:=by
   have e:results d J.tmps=(do let r <-d.results.mapM (LG J.tmps);pure (if h:r.size=1 then r[0] else .tuple r)):=by
    unfold results
    congr 1
   rw[e,<-Array.toArray_toList (xs:=d.results),List.mapM_toArray]
   simp_all
  refine⟨_,H,_,rfl,h.old,λb o=>∃t,φ' t b o,λb o=>(sh=true/\S' b o)\/(S' b o/\w.heap.size<=b),λb o ⟨t,p⟩=>⟨(h.ex t b o p).1,(h.ex t b o p).2.resolve_right (λh=>h)⟩,λb o p=>?_,λb o ⟨t,p⟩ hb'=>h.disS t b o p ψ,?_⟩
  ·rcases p with⟨y,B⟩|⟨y,B⟩
   ·rcases(h.sup b o B).2 with G|G|G
    ·grind
    ·exact .inr ⟨(h.sup b o B).1,G⟩
    exact G.elim
   exact .inr ⟨(h.sup b o y).1,B⟩
  have Q:gX g NO (mJ shs) L.length (if h:a.toArray.size=1 then a.toArray[0] else .tuple a.toArray)/\dz g S' (λb o=>∃t,φ' t b o) L (cZ g (mJ shs) (if h:a.toArray.size=1 then a.toArray[0] else .tuple a.toArray)):=by
   have E:∀b o,(∃t,t∉([]:List Nat)/\φ' t b o)->∃t,φ' t b o:=ψ
   match shs,q,l,R with
   | [],q,_,R=>
    cases a with
    | cons _ _=>exact q.elim
    | nil=>
     have:L=[]:=ψ
     subst this;exact⟨⟨_,rfl,tV1,rfl⟩,dz.nil _ _ _ _⟩
   | [T],_,l,_=>
    obtain⟨v,rfl,hv⟩:=l T rfl;have:=(hv.mono (λ_ _ h=>h) E).slot (F:=F') (tv:=tvs J);obtain⟨X1,Y,y,B,G,h4,h5⟩:=this;refine⟨?_,h5.mono (λ_ _ h=>h) B⟩;cases T<;>exact h4
   | T::ag2::sh,q,_,R=>
    have hsz:¬a.toArray.size=1:=by
     match a,q with
     | [],q=>simp
     | [v],q=>cases T<;>cases ag2<;>exact q.2.elim
     | _::_::_,_=>simp
    rw[dif_neg hsz];refine⟨⟨_,rfl,q,R⟩,(O.mono (λ_ _ h=>h) E).congr λj hj=>?_⟩;simp only[cZ,mJ,pS,hcells];simp[List.getD,hj]
  replace Q:=CV Q.1 (hwk.row Q.2);refine⟨by grind [WK.len],?_⟩;rcases U with y|y
  ·exact Q.2.mono ψ (λ_ _ h=>h)
  exact(Q.2.fresh y).mono (λ_ _ h=>h.elim) (λ_ _ h=>h)
 cases e with
 | normal=>exact fin W
 | ret=>exact fin W
 | _=>exact W.elim
theorem R3{f t : Nat}{j : Func}{c : Code}{A : List RA}(K : ∀t i, TE t = some i -> j9 P t i)(Z : P.funcs[f]? = some j)(hn : (j.name == "runtime.NumGoroutine") = false)(a:j.body=some c)(hD:BF P N ck D)(hc:iG ck c=true)(hN:A.length+(j.ntmps - A.length)=N.n)(hkp:N.kp=[])(hr:j.results = #[.tmp t])(hp:aw P TE N D c (YO t rcs) (lay (zf 0 A))):uT P f true A .box rcs:=by
 refine⟨⟨j,Z,hn,by rw[a];rfl⟩,λw S F hS hA=>?_⟩;have hlen:=HV hA;refine calls_of_wp Z a ?_;have L:St w NO S N (lay (zf 0 A)) {tmps:=F.toArray++Array.replicate (j.ntmps - F.toArray.size) undef,defers:=[]} w:=by
  refine⟨S,λ_=>NO,λt=>?_,λ_ _ _ _ _ h=>h.elim,λ_ _ _ h=>h.elim,λ_ _ _ h=>h.elim,λ_ _ h=>h,ψ,Cr _ _,by simp;omega,rfl,ψ⟩;rcases xq 0 hA t with G|⟨A0,v,-,H,J,h4⟩
  ·rw[G];trivial
  rw[J];have hv:tvs {tmps:=F.toArray++Array.replicate (j.ntmps - F.toArray.size) undef,defers:=[]} t=v:=by
   have hlt:=(C4.1 H).1;simp only[tvs,SD]
   grind
  grind [qL.slot]
 refine kH K hD c hc _ _ _ _ w hp L λe F' q k M O=>?_
 obtain⟨S',φ',h⟩:=O;have fin:Xg F' t rcs->q.defers=[]/\∃v,(results j q.tmps).run P k=.ok v k/\(∃Q,Ending.returned v=.returned Q/\bH NO w k/\∃X S1:am,(∀b o,X b o->b<k.heap.size/\w.heap.size<=b)/\
     (∀b o,S1 b o->(true=true/\S b o)\/(b<k.heap.size/\w.heap.size<=b))/\(∀b o,X b o->¬S1 b o)/\∃r Y:am,(∀b o,r b o->X b o)/\(∀b o,Y b o->X b o)/\(∀b o,r b o->¬Y b o)/\gX k r .box rcs.length Q/\dz k S1 Y rcs (cZ k .box Q)):=by
  intro l;have core:∃(d:Nat)(u:List C),tvs q t=tvs q d/\F' d=.Z .box u/\j8 .box .box u rcs:=by
   unfold Xg at l;split at l
   ·grind
   ·rename_i d R
    split at l
    case h_2=>exact l.elim
    rename_i u y;refine⟨d,u,?_,y,l⟩;have B:=h.slot t;rw[R]at B;obtain⟨k0,cs0,r0,j0,g0,o0,T,-,e3,e4⟩:=B;have E:=h.slot d;rw[y]at E;rw[y]at T;simp only[AV.Z.injEq]at T;obtain⟨rfl,rfl⟩:=T;obtain⟨r,Y,G,H,J,⟨g,o,hv,-⟩,h5⟩:=E
    grind [plc,rD]
   exact l.elim
  obtain⟨d,u,U,y,l⟩:=core;have V:=l.out.2;have E:=h.slot d;rw[y]at E;obtain⟨r,Y,G,H,J,h4,h5⟩:=E;refine⟨h.defers,tvs q d,?_,tvs q d,rfl,h.old,φ' d,λb o=>S' b o/\(S b o\/w.heap.size<=b),λb o a=>⟨(h.ex d b o a).1,(h.ex d b o a).2.resolve_right (λh=>h)⟩,λb o a=>?_,λb o a W=>h.disS d b o a W.1,r,Y,G,H,J,?_,?_⟩
  ·rw[<-U];simp[results,hr,tvs]
  ·rcases a.2 with p|p
   ·grind
   exact .inr ⟨(h.sup b o a.1).1,p⟩
  ·grind [WK.len]
  exact(V.row h5).mono (λb o a=>⟨a,by
    rcases(h.sup b o a).2 with p|p|p
    · exact .inl p
    · exact .inr p
    exact p.elim⟩) (λ_ _ h=>h)
 cases e with
 | normal=>exact fin M
 | ret=>exact fin M
 | _=>exact M.elim
end
def DF(P:Program)(TE:Nat->Option TI)(N:gy)(tb:List (Nat × Nat × List Nat))(id:Nat)(ops:Array Oper)(K:(Nat->AV)->Prop)(F:Nat->AV):Prop:=
 match Df tb (id+1048576) with
 | some (t,offs)=>wF t offs (DD P TE N tb id ops K) F
 | none=>DD P TE N tb id ops K F
variable{P:Program}
def uN{TE:Nat->Option TI}(a:∀t i,TE t=some i->j9 P t i)(e:P.follows .mixedOrders=true)(N:gy)(tb:List (Nat × Nat × List Nat)):BF P N (rh tb) (DF P TE N tb):=
 λ_ _ b _ _ _ _ _ _ _ _ c f g=>by
  unfold DF at c;split at c
  ·obtain⟨j,h,d⟩:=D7 c f
   exact DB a e b h d g
  exact DB a e b c f g
def PH:List (Nat × TI)->Nat->Option TI
 | [],_=>none
 | p::l,t=>bif Nat.beq t p.1 then some p.2 else PH l t
def Yn(P:Program):List (Nat × TI)->Prop
 | []=>True
 | p::l=>j9 P p.1 p.2/\Yn P l
def LB{P:Program} : ∀{l:List (Nat × TI)},Yn P l->∀t i,PH l t=some i->j9 P t i
 | [],_,t,i,h=>by cases h
 | p::l,b,t,i,h=>by
  simp only[PH]at h;cases a:Nat.beq t p.1 with
  | true=>
   rw[a]at h;simp only[cond_true,C2]at h;have:=v4 a;subst this h;exact b.1
  | false=>rw[a]at h;exact LB b.2 t i h
def Zq:TypeDesc->Prop
 | .struct _=>False
 | .array _ _=>False
 | _=>True
variable{t:Nat}
def Jn{i:TI}{d:TypeDesc}(h:P.underlying t=some d)(k:i.kind=.sc d:=by rfl)(a:(P.info? t).map (λx=>(x.zero.map (·.cells.toList),x.size,x.bytes))=some (some (i.zero.map cval),i.size,i.bytes):=by kernel_rfl)(z:mS i.zero:=by repeat' first|exact tV1|refine CV rfl ?_)(n:Zq d:=by trivial):j9 P t i:=⟨a,z,by rw[k];refine⟨h,?_⟩;revert n;cases d<;>exact id⟩
def yf{e:Nat}{i:TI}(h:P.underlying t=some (.slice e))(k:i.kind=.sl e:=by rfl)(a:(P.info? t).map (λx=>(x.zero.map (·.cells.toList),x.size,x.bytes))=some (some (i.zero.map cval),i.size,i.bytes):=by kernel_rfl)(z:mS i.zero:=by repeat' first|exact tV1|refine CV rfl ?_):j9 P t i:=⟨a,z,by rw[k];exact h⟩
def gU{i:TI}{fs}(h:P.underlying t=some (.struct fs))(k:i.kind=.st (fs.toList.map (λf=>(f.offset,f.type))):=by rfl)(a:(P.info? t).map (λx=>(x.zero.map (·.cells.toList),x.size,x.bytes))=some (some (i.zero.map cval),i.size,i.bytes):=by kernel_rfl)(z:mS i.zero:=by repeat' first|exact tV1|refine CV rfl ?_):j9 P t i:=⟨a,z,by rw[k];exact⟨_,h,rfl⟩⟩
def Z4{e:Nat}{i:TI}{v:Value}(h:P.underlying t=some (.map 3 e))(d:P.underlying 3=some (.int .i64))(k:i.kind=.mp 3 e v:=by rfl)(a:(P.info? t).map (λx=>(x.zero.map (·.cells.toList),x.size,x.bytes))=some (some (i.zero.map cval),i.size,i.bytes):=by kernel_rfl)(z:mS i.zero:=by repeat' first|exact tV1|refine CV rfl ?_)(b:(P.info? e).bind (·.zero)=some v:=by kernel_rfl)(c:v.oneCell'=true:=by rfl):j9 P t i:=⟨a,z,by rw[k];exact⟨h,d,b,c⟩⟩
def ti3:TI:=⟨1,8,[.v (.int .i64 0)],.sc (.int .i64)⟩
def ti4:TI:=⟨1,1,[.v (.bool false)],.sc .bool⟩
def ti2:TI:=⟨1,8,[.v (.int .i64 0)],.sc (.int .i64)⟩
def ti5:TI:=⟨1,1,[.v (.int .u8 0)],.sc (.int .u8)⟩
def ti6:TI:=⟨1,1,[.v (.int .u8 0)],.sc (.int .u8)⟩
def ti7:TI:=⟨4,24,[.v (.int .i64 0),.v (.int .i64 0),.v (.bool false),.v (.int .u8 0)],.st [(0,2),(1,3),(2,4),(3,6)]⟩
def ti8:TI:=⟨4,24,[.v (.int .i64 0),.v (.int .i64 0),.v (.bool false),.v (.int .u8 0)],.st [(0,2),(1,3),(2,4),(3,6)]⟩
def ti9:TI:=⟨1,16,[.v (.string ⟨#[]⟩)],.sc .string⟩
def ti10:TI:=⟨1,16,[.v (.string ⟨#[]⟩)],.sc .string⟩
def ti11:TI:=⟨1,16,[.v (.string ⟨#[]⟩)],.sc .string⟩
def ti12:TI:=⟨1,8,[.v (.int .u64 0)],.sc (.int .u64)⟩
def ti13:TI:=⟨2,24,[.v (.string ⟨#[]⟩),.v (.int .u64 0)],.st [(0,9),(1,12)]⟩
def ti14:TI:=⟨2,24,[.v (.string ⟨#[]⟩),.v (.int .u64 0)],.st [(0,9),(1,12)]⟩
def ti21:TI:=⟨1,4,[.v (.int .i32 0)],.sc (.int .i32)⟩
def ti22:TI:=⟨1,24,[.z],.sl 5⟩
def ti24:TI:=⟨1,24,[.z],.sl 33⟩
def ti25:TI:=⟨1,24,[.z],.sl 4⟩
def ti26:TI:=⟨2,48,[.z,.z],.st [(0,24),(1,25)]⟩
def ti27:TI:=⟨2,48,[.z,.z],.st [(0,24),(1,25)]⟩
def ti28:TI:=⟨1,24,[.z],.sl 82⟩
def ti29:TI:=⟨1,24,[.z],.st [(0,28)]⟩
def ti30:TI:=⟨1,24,[.z],.st [(0,28)]⟩
def ti31:TI:=⟨3,72,[.z,.z,.z],.st [(0,27),(2,30)]⟩
def ti32:TI:=⟨3,72,[.z,.z,.z],.st [(0,27),(2,30)]⟩
def ti33:TI:=⟨1,24,[.z],.sl 3⟩
def ti34:TI:=⟨5,104,[.z,.z,.z,.v (.int .i64 0),.z],.st [(0,32),(3,3),(4,33)]⟩
def ti35:TI:=⟨5,104,[.z,.z,.z,.v (.int .i64 0),.z],.st [(0,32),(3,3),(4,33)]⟩
def ti36:TI:=⟨1,24,[.z],.sl 180⟩
def ti37:TI:=⟨1,24,[.z],.sl 267⟩
def ti38:TI:=⟨1,24,[.z],.sl 175⟩
def ti39:TI:=⟨1,24,[.z],.sl 74⟩
def ti40:TI:=⟨1,24,[.z],.sl 158⟩
def ti41:TI:=⟨1,24,[.z],.sl 192⟩
def ti42:TI:=⟨2,48,[.z,.z],.st [(0,41),(1,24)]⟩
def ti43:TI:=⟨2,48,[.z,.z],.st [(0,41),(1,24)]⟩
def ti44:TI:=⟨1,24,[.z],.sl 190⟩
def ti45:TI:=⟨2,32,[.v (.int .i64 0),.z],.st [(0,3),(1,44)]⟩
def ti46:TI:=⟨2,32,[.v (.int .i64 0),.z],.st [(0,3),(1,44)]⟩
def ti47:TI:=⟨3,40,[.v (.int .i64 0),.v (.int .i64 0),.z],.st [(0,3),(1,3),(2,33)]⟩
def ti48:TI:=⟨3,40,[.v (.int .i64 0),.v (.int .i64 0),.z],.st [(0,3),(1,3),(2,33)]⟩
def ti49:TI:=⟨5,56,[.v (.int .i64 0),.v (.int .i64 0),.z,.v (.int .i64 0),.v (.int .i64 0)],.st [(0,48),(3,3),(4,3)]⟩
def ti50:TI:=⟨5,56,[.v (.int .i64 0),.v (.int .i64 0),.z,.v (.int .i64 0),.v (.int .i64 0)],.st [(0,48),(3,3),(4,3)]⟩
def ti51:TI:=⟨24,400,[.z,.z,.z,.v (.int .i64 0),.z,.z,.z,.z,.z,.z,.z,.z,.v (.int .i64 0),.z,.v (.int .i64 0),.v (.int .i64 0),.v (.int .i64 0),.v (.int .i64 0),.v (.bool false),.v (.int .i64 0),.v (.int .i64 0),.z,.v (.int .i64 0),.v (.int .i64 0)],.st [(0,35),(5,36),(6,37),(7,38),(8,39),(9,40),(10,43),(12,46),(14,3),(15,3),(16,3),(17,3),(18,4),(19,50)]⟩
def ti52:TI:=⟨24,400,[.z,.z,.z,.v (.int .i64 0),.z,.z,.z,.z,.z,.z,.z,.z,.v (.int .i64 0),.z,.v (.int .i64 0),.v (.int .i64 0),.v (.int .i64 0),.v (.int .i64 0),.v (.bool false),.v (.int .i64 0),.v (.int .i64 0),.z,.v (.int .i64 0),.v (.int .i64 0)],.st [(0,35),(5,36),(6,37),(7,38),(8,39),(9,40),(10,43),(12,46),(14,3),(15,3),(16,3),(17,3),(18,4),(19,50)]⟩
def ti53:TI:=⟨1,24,[.z],.sl 325⟩
def ti54:TI:=⟨2,32,[.v (.int .i64 0),.z],.st [(0,3),(1,53)]⟩
def ti55:TI:=⟨2,32,[.v (.int .i64 0),.z],.st [(0,3),(1,53)]⟩
def ti56:TI:=⟨26,432,[.z,.z,.z,.v (.int .i64 0),.z,.z,.z,.z,.z,.z,.z,.z,.v (.int .i64 0),.z,.v (.int .i64 0),.v (.int .i64 0),.v (.int .i64 0),.v (.int .i64 0),.v (.bool false),.v (.int .i64 0),.v (.int .i64 0),.z,.v (.int .i64 0),.v (.int .i64 0),.v (.int .i64 0),.z],.st [(0,52),(24,55)]⟩
def ti57:TI:=⟨26,432,[.z,.z,.z,.v (.int .i64 0),.z,.z,.z,.z,.z,.z,.z,.z,.v (.int .i64 0),.z,.v (.int .i64 0),.v (.int .i64 0),.v (.int .i64 0),.v (.int .i64 0),.v (.bool false),.v (.int .i64 0),.v (.int .i64 0),.z,.v (.int .i64 0),.v (.int .i64 0),.v (.int .i64 0),.z],.st [(0,52),(24,55)]⟩
def ti73:TI:=⟨4,32,[.v (.int .i64 0),.v (.int .i64 0),.v (.int .i64 0),.v (.int .i64 0)],.st [(0,3),(1,3),(2,3),(3,3)]⟩
def ti74:TI:=⟨4,32,[.v (.int .i64 0),.v (.int .i64 0),.v (.int .i64 0),.v (.int .i64 0)],.st [(0,3),(1,3),(2,3),(3,3)]⟩
def ti77:TI:=⟨1,24,[.z],.sl 168⟩
def ti81:TI:=⟨2,16,[.v (.int .i64 0),.v (.int .i64 0)],.st [(0,3),(1,3)]⟩
def ti82:TI:=⟨2,16,[.v (.int .i64 0),.v (.int .i64 0)],.st [(0,3),(1,3)]⟩
def ti86:TI:=⟨5,56,[.v (.int .i64 0),.v (.int .i64 0),.v (.int .i64 0),.v (.int .i64 0),.z],.st [(0,3),(1,3),(2,3),(3,3),(4,33)]⟩
def ti87:TI:=⟨5,56,[.v (.int .i64 0),.v (.int .i64 0),.v (.int .i64 0),.v (.int .i64 0),.z],.st [(0,3),(1,3),(2,3),(3,3),(4,33)]⟩
def ti88:TI:=⟨1,24,[.z],.sl 199⟩
def ti97:TI:=⟨2,48,[.z,.z],.st [(0,24),(1,25)]⟩
def ti98:TI:=⟨1,24,[.z],.sl 515⟩
def ti99:TI:=⟨1,24,[.z],.st [(0,98)]⟩
def ti100:TI:=⟨1,24,[.z],.st [(0,98)]⟩
def ti101:TI:=⟨3,72,[.z,.z,.z],.st [(0,97),(2,100)]⟩
def ti102:TI:=⟨3,72,[.z,.z,.z],.st [(0,97),(2,100)]⟩
def ti103:TI:=⟨5,104,[.z,.z,.z,.v (.int .i64 0),.z],.st [(0,102),(3,3),(4,33)]⟩
def ti104:TI:=⟨5,104,[.z,.z,.z,.v (.int .i64 0),.z],.st [(0,102),(3,3),(4,33)]⟩
def ti105:TI:=⟨1,24,[.z],.sl 343⟩
def ti106:TI:=⟨1,24,[.z],.sl 345⟩
def ti107:TI:=⟨1,24,[.z],.sl 347⟩
def ti108:TI:=⟨1,24,[.z],.sl 349⟩
def ti109:TI:=⟨1,24,[.z],.sl 336⟩
def ti110:TI:=⟨1,24,[.z],.sl 436⟩
def ti111:TI:=⟨2,48,[.z,.z],.st [(0,110),(1,24)]⟩
def ti112:TI:=⟨2,48,[.z,.z],.st [(0,110),(1,24)]⟩
def ti113:TI:=⟨1,24,[.z],.sl 441⟩
def ti114:TI:=⟨2,32,[.v (.int .i64 0),.z],.st [(0,3),(1,113)]⟩
def ti115:TI:=⟨2,32,[.v (.int .i64 0),.z],.st [(0,3),(1,113)]⟩
def ti116:TI:=⟨3,40,[.v (.int .i64 0),.v (.int .i64 0),.z],.st [(0,3),(1,3),(2,33)]⟩
def ti117:TI:=⟨5,56,[.v (.int .i64 0),.v (.int .i64 0),.z,.v (.int .i64 0),.v (.int .i64 0)],.st [(0,116),(3,3),(4,3)]⟩
def ti118:TI:=⟨5,56,[.v (.int .i64 0),.v (.int .i64 0),.z,.v (.int .i64 0),.v (.int .i64 0)],.st [(0,116),(3,3),(4,3)]⟩
def ti119:TI:=⟨24,400,[.z,.z,.z,.v (.int .i64 0),.z,.z,.z,.z,.z,.z,.z,.z,.v (.int .i64 0),.z,.v (.int .i64 0),.v (.int .i64 0),.v (.int .i64 0),.v (.int .i64 0),.v (.bool false),.v (.int .i64 0),.v (.int .i64 0),.z,.v (.int .i64 0),.v (.int .i64 0)],.st [(0,104),(5,105),(6,106),(7,107),(8,108),(9,109),(10,112),(12,115),(14,3),(15,3),(16,3),(17,3),(18,4),(19,118)]⟩
def ti120:TI:=⟨24,400,[.z,.z,.z,.v (.int .i64 0),.z,.z,.z,.z,.z,.z,.z,.z,.v (.int .i64 0),.z,.v (.int .i64 0),.v (.int .i64 0),.v (.int .i64 0),.v (.int .i64 0),.v (.bool false),.v (.int .i64 0),.v (.int .i64 0),.z,.v (.int .i64 0),.v (.int .i64 0)],.st [(0,104),(5,105),(6,106),(7,107),(8,108),(9,109),(10,112),(12,115),(14,3),(15,3),(16,3),(17,3),(18,4),(19,118)]⟩
def ti126:TI:=⟨5,56,[.v (.int .i64 0),.v (.int .i64 0),.v (.int .i64 0),.v (.int .i64 0),.z],.st [(0,3),(1,3),(2,3),(3,3),(4,33)]⟩
def ti127:TI:=⟨1,24,[.z],.sl 254⟩
def ti157:TI:=⟨1,24,[.z],.st [(0,24)]⟩
def ti158:TI:=⟨1,24,[.z],.st [(0,24)]⟩
def ti167:TI:=⟨3,24,[.v (.int .i64 0),.v (.int .i64 0),.v (.int .i64 0)],.st [(0,3),(1,3),(2,3)]⟩
def ti168:TI:=⟨3,24,[.v (.int .i64 0),.v (.int .i64 0),.v (.int .i64 0)],.st [(0,3),(1,3),(2,3)]⟩
def ti174:TI:=⟨3,24,[.v (.int .i64 0),.v (.int .i64 0),.v (.int .i64 0)],.st [(0,3),(1,3),(2,3)]⟩
def ti175:TI:=⟨3,24,[.v (.int .i64 0),.v (.int .i64 0),.v (.int .i64 0)],.st [(0,3),(1,3),(2,3)]⟩
def ti179:TI:=⟨2,16,[.v (.int .i64 0),.v (.int .i64 0)],.st [(0,3),(1,3)]⟩
def ti180:TI:=⟨2,16,[.v (.int .i64 0),.v (.int .i64 0)],.st [(0,3),(1,3)]⟩
def ti185:TI:=⟨2,16,[.v (.int .i64 0),.v (.int .i64 0)],.st [(0,3),(1,3)]⟩
def ti186:TI:=⟨2,16,[.v (.int .i64 0),.v (.int .i64 0)],.st [(0,3),(1,3)]⟩
def ti189:TI:=⟨3,24,[.v (.int .i64 0),.v (.int .i64 0),.v (.int .i64 0)],.st [(0,3),(1,3),(2,3)]⟩
def ti190:TI:=⟨3,24,[.v (.int .i64 0),.v (.int .i64 0),.v (.int .i64 0)],.st [(0,3),(1,3),(2,3)]⟩
def ti192:TI:=⟨1,24,[.z],.sl 186⟩
def ti198:TI:=⟨5,40,[.v (.int .i64 0),.v (.int .i64 0),.v (.int .i64 0),.v (.int .i64 0),.v (.int .i64 0)],.st [(0,3),(1,3),(2,3),(3,3),(4,3)]⟩
def ti199:TI:=⟨5,40,[.v (.int .i64 0),.v (.int .i64 0),.v (.int .i64 0),.v (.int .i64 0),.v (.int .i64 0)],.st [(0,3),(1,3),(2,3),(3,3),(4,3)]⟩
def ti210:TI:=⟨8,64,[.v (.int .i64 0),.v (.int .i64 0),.v (.int .i64 0),.v (.int .i64 0),.v (.int .i64 0),.v (.int .i64 0),.v (.int .i64 0),.v (.int .i64 0)],.st [(0,3),(1,3),(2,3),(3,3),(4,3),(5,3),(6,3),(7,3)]⟩
def ti211:TI:=⟨8,64,[.v (.int .i64 0),.v (.int .i64 0),.v (.int .i64 0),.v (.int .i64 0),.v (.int .i64 0),.v (.int .i64 0),.v (.int .i64 0),.v (.int .i64 0)],.st [(0,3),(1,3),(2,3),(3,3),(4,3),(5,3),(6,3),(7,3)]⟩
def ti254:TI:=⟨5,40,[.v (.int .i64 0),.v (.int .i64 0),.v (.int .i64 0),.v (.int .i64 0),.v (.int .i64 0)],.st [(0,3),(1,3),(2,3),(3,3),(4,3)]⟩
def ti256:TI:=⟨3,40,[.z,.v (.int .i64 0),.v (.int .i64 0)],.st [(0,22),(1,3),(2,3)]⟩
def ti257:TI:=⟨3,40,[.z,.v (.int .i64 0),.v (.int .i64 0)],.st [(0,22),(1,3),(2,3)]⟩
def ti266:TI:=⟨3,24,[.v (.int .i64 0),.v (.int .i64 0),.v (.int .i64 0)],.st [(0,3),(1,3),(2,3)]⟩
def ti267:TI:=⟨3,24,[.v (.int .i64 0),.v (.int .i64 0),.v (.int .i64 0)],.st [(0,3),(1,3),(2,3)]⟩
def ti281:TI:=⟨1,8,[.v (.map none)],.mp 3 4 (.bool false)⟩
def ti289:TI:=⟨4,32,[.v (.int .i64 0),.v (.int .i64 0),.v (.int .i64 0),.v (.int .i64 0)],.st [(0,3),(1,3),(2,3),(3,3)]⟩
def ti290:TI:=⟨4,32,[.v (.int .i64 0),.v (.int .i64 0),.v (.int .i64 0),.v (.int .i64 0)],.st [(0,3),(1,3),(2,3),(3,3)]⟩
def ti292:TI:=⟨1,8,[.v (.map none)],.mp 3 3 (.int .i64 0)⟩
def ti304:TI:=⟨1,8,[.v (.int .u64 0)],.sc (.int .u64)⟩
def ti324:TI:=⟨2,32,[.v (.int .i64 0),.z],.st [(0,3),(1,33)]⟩
def ti325:TI:=⟨2,32,[.v (.int .i64 0),.z],.st [(0,3),(1,33)]⟩
def ti336:TI:=⟨1,24,[.z],.st [(0,24)]⟩
def ti343:TI:=⟨2,16,[.v (.int .i64 0),.v (.int .i64 0)],.st [(0,3),(1,3)]⟩
def ti345:TI:=⟨3,24,[.v (.int .i64 0),.v (.int .i64 0),.v (.int .i64 0)],.st [(0,3),(1,3),(2,3)]⟩
def ti347:TI:=⟨3,24,[.v (.int .i64 0),.v (.int .i64 0),.v (.int .i64 0)],.st [(0,3),(1,3),(2,3)]⟩
def ti349:TI:=⟨4,32,[.v (.int .i64 0),.v (.int .i64 0),.v (.int .i64 0),.v (.int .i64 0)],.st [(0,3),(1,3),(2,3),(3,3)]⟩
def ti398:TI:=⟨1,24,[.z],.sl 404⟩
def ti403:TI:=⟨2,16,[.v (.int .i64 0),.v (.int .i64 0)],.st [(0,3),(1,3)]⟩
def ti404:TI:=⟨2,16,[.v (.int .i64 0),.v (.int .i64 0)],.st [(0,3),(1,3)]⟩
def ti408:TI:=⟨1,8,[.v (.int .i64 0)],.sc (.int .i64)⟩
def ti415:TI:=⟨1,4,[.v (.int .u32 0)],.sc (.int .u32)⟩
def ti417:TI:=⟨1,8,[.v (.int .u64 0)],.sc (.int .u64)⟩
def ti436:TI:=⟨1,24,[.z],.sl 491⟩
def ti441:TI:=⟨3,24,[.v (.int .i64 0),.v (.int .i64 0),.v (.int .i64 0)],.st [(0,3),(1,3),(2,3)]⟩
def ti470:TI:=⟨1,8,[.v (.int .u64 0)],.sc (.int .u64)⟩
def ti491:TI:=⟨2,16,[.v (.int .i64 0),.v (.int .i64 0)],.st [(0,3),(1,3)]⟩
def ti515:TI:=⟨2,16,[.v (.int .i64 0),.v (.int .i64 0)],.st [(0,3),(1,3)]⟩
def ti528:TI:=⟨0,0,[],.st [(0,527)]⟩
def ti529:TI:=⟨0,0,[],.st [(0,527)]⟩
def ti531:TI:=⟨1,1,[.v (.int .u8 0)],.sc (.int .u8)⟩
def ti532:TI:=⟨1,1,[.v (.int .u8 0)],.sc (.int .u8)⟩
def ti535:TI:=⟨1,4,[.v (.int .i32 0)],.sc (.int .i32)⟩
def ti536:TI:=⟨1,4,[.v (.int .i32 0)],.sc (.int .i32)⟩
def tab:List (Nat × TI):=[(3,ti3),(4,ti4),(2,ti2),(5,ti5),(6,ti6),(7,ti7),(8,ti8),(9,ti9),(10,ti10),(11,ti11),(12,ti12),(13,ti13),(14,ti14),(21,ti21),(22,ti22),(24,ti24),(25,ti25),(26,ti26),(27,ti27),(28,ti28),(29,ti29),(30,ti30),(31,ti31),(32,ti32),(33,ti33),(34,ti34),(35,ti35),(36,ti36),(37,ti37),(38,ti38),(39,ti39),(40,ti40),(41,ti41),(42,ti42),(43,ti43),(44,ti44),(45,ti45),(46,ti46),(47,ti47),(48,ti48),(49,ti49),(50,ti50),(51,ti51),(52,ti52),(53,ti53),(54,ti54),(55,ti55),(56,ti56),(57,ti57),(73,ti73),(74,ti74),(77,ti77),(81,ti81),(82,ti82),(86,ti86),(87,ti87),(88,ti88),(97,ti97),(98,ti98),(99,ti99),(100,ti100),(101,ti101),(102,ti102),(103,ti103),(104,ti104),(105,ti105),(106,ti106),(107,ti107),(108,ti108),(109,ti109),(110,ti110),(111,ti111),(112,ti112),(113,ti113),(114,ti114),(115,ti115),(116,ti116),(117,ti117),(118,ti118),(119,ti119),(120,ti120),(126,ti126),(127,ti127),(157,ti157),(158,ti158),(167,ti167),(168,ti168),(174,ti174),(175,ti175),(179,ti179),(180,ti180),(185,ti185),(186,ti186),(189,ti189),(190,ti190),(192,ti192),(198,ti198),(199,ti199),(210,ti210),(211,ti211),(254,ti254),(256,ti256),(257,ti257),(266,ti266),(267,ti267),(281,ti281),(289,ti289),(290,ti290),(292,ti292),(304,ti304),(324,ti324),(325,ti325),(336,ti336),(343,ti343),(345,ti345),(347,ti347),(349,ti349),(398,ti398),(403,ti403),(404,ti404),(408,ti408),(415,ti415),(417,ti417),(436,ti436),(441,ti441),(470,ti470),(491,ti491),(515,ti515),(528,ti528),(529,ti529),(531,ti531),(532,ti532),(535,ti535),(536,ti536)]
abbrev zzA:=au Tryz.prog
abbrev zzB:=aU Tryz.prog
def XZ:Yn Tryz.prog tab:=⟨Jn Tryz.underlying3,Jn Tryz.underlying4,Jn Tryz.underlying2,Jn Tryz.underlying5,Jn Tryz.underlying6,gU Tryz.underlying7,gU Tryz.underlying8,Jn Tryz.underlying9,Jn Tryz.underlying10,Jn Tryz.underlying11,Jn Tryz.underlying12,gU Tryz.underlying13,gU Tryz.underlying14,Jn Tryz.underlying21,yf Tryz.underlying22,yf Tryz.underlying24,yf Tryz.underlying25,gU Tryz.underlying26,gU Tryz.underlying27,yf Tryz.underlying28,gU Tryz.underlying29,gU Tryz.underlying30,gU Tryz.underlying31,gU Tryz.underlying32,yf Tryz.underlying33,gU Tryz.underlying34,gU Tryz.underlying35,yf Tryz.underlying36,yf Tryz.underlying37,yf Tryz.underlying38,yf Tryz.underlying39,yf Tryz.underlying40,yf Tryz.underlying41,gU Tryz.underlying42,gU Tryz.underlying43,yf Tryz.underlying44,gU Tryz.underlying45,gU Tryz.underlying46,gU Tryz.underlying47,gU Tryz.underlying48,gU Tryz.underlying49,gU Tryz.underlying50,gU Tryz.underlying51,gU Tryz.underlying52,yf Tryz.underlying53,gU Tryz.underlying54,gU Tryz.underlying55,gU Tryz.underlying56,gU Tryz.underlying57,gU Tryz.underlying73,gU Tryz.underlying74,yf Tryz.underlying77,gU Tryz.underlying81,gU Tryz.underlying82,gU Tryz.underlying86,gU Tryz.underlying87,yf Tryz.underlying88,gU Tryz.underlying97,yf Tryz.underlying98,gU Tryz.underlying99,gU Tryz.underlying100,gU Tryz.underlying101,gU Tryz.underlying102,gU Tryz.underlying103,gU Tryz.underlying104,yf Tryz.underlying105,yf Tryz.underlying106,yf Tryz.underlying107,yf Tryz.underlying108,yf Tryz.underlying109,yf Tryz.underlying110,gU Tryz.underlying111,gU Tryz.underlying112,yf Tryz.underlying113,gU Tryz.underlying114,gU Tryz.underlying115,gU Tryz.underlying116,gU Tryz.underlying117,gU Tryz.underlying118,gU Tryz.underlying119,gU Tryz.underlying120,gU Tryz.underlying126,yf Tryz.underlying127,gU Tryz.underlying157,gU Tryz.underlying158,gU Tryz.underlying167,gU Tryz.underlying168,gU Tryz.underlying174,gU Tryz.underlying175,gU Tryz.underlying179,gU Tryz.underlying180,gU Tryz.underlying185,gU Tryz.underlying186,gU Tryz.underlying189,gU Tryz.underlying190,yf Tryz.underlying192,gU Tryz.underlying198,gU Tryz.underlying199,gU Tryz.underlying210,gU Tryz.underlying211,gU Tryz.underlying254,gU Tryz.underlying256,gU Tryz.underlying257,gU Tryz.underlying266,gU Tryz.underlying267,Z4 Tryz.underlying281 Tryz.underlying3,gU Tryz.underlying289,gU Tryz.underlying290,Z4 Tryz.underlying292 Tryz.underlying3,Jn Tryz.underlying304,gU Tryz.underlying324,gU Tryz.underlying325,gU Tryz.underlying336,gU Tryz.underlying343,gU Tryz.underlying345,gU Tryz.underlying347,gU Tryz.underlying349,yf Tryz.underlying398,gU Tryz.underlying403,gU Tryz.underlying404,Jn Tryz.underlying408,Jn Tryz.underlying415,Jn Tryz.underlying417,yf Tryz.underlying436,gU Tryz.underlying441,Jn Tryz.underlying470,gU Tryz.underlying491,gU Tryz.underlying515,gU Tryz.underlying528,gU Tryz.underlying529,Jn Tryz.underlying531,Jn Tryz.underlying532,Jn Tryz.underlying535,Jn Tryz.underlying536,tV1⟩
def TE:Nat->Option TI:=PH tab
def ru:∀t i,TE t=some i->j9 Tryz.prog t i:=LB XZ
def Yt:C->Value->C
 | .s .own rows,v=>.s (.tag v) rows
 | c,_=>c
def EP(u:Nat->Value):Nat->List C->List C
 | _,[]=>[]
 | j,c::cs=>Yt c (u j)::EP u (j+1) cs
def Bl(u:Nat->Nat->Value):Nat->List MA->List (Nat × AV)
 | _,[]=>[]
 | i,.val a cs::A=>(i,.Z (o7 a) cs)::Bl u (i+1) A
 | i,.mut a cs::A=>(i,.Z (o7 a) (EP (u i) 0 cs))::Bl u (i+1) A
 | i,.ptr cs::A=>(i,.Z .box cs)::Bl u (i+1) A
def P0(p:Nat->Value):Nat->List MA->List (Nat × Value)
 | _,[]=>[]
 | i,.ptr _::A=>(i,p i)::P0 p (i+1) A
 | i,_::A=>P0 p (i+1) A
def Mj:Nat->List MA->List (Nat × Nat)->List (Option Nat)
 | i,.val _ _::A,_::pl=>none::Mj (i+1) A pl
 | i,.mut _ _::A,p::pl=>some p.1::Mj (i+1) A pl
 | i,.ptr _::A,_::pl=>some i::Mj (i+1) A pl
 | _,_,_=>[]
def NX:List (Option Nat)->Bool
 | []=>true
 | none::l=>NX l
 | some t::l=>l.all (λx=>match x with|some a=>!Nat.beq t a|none=>true)&&NX l
def sles:List (Option Nat)->List Nat
 | []=>[]
 | none::l=>sles l
 | some t::l=>t::sles l
def Zy(v:Value)(c y o:C):Prop:=
 match c with
 | .s .own _=>(match y with|.s (.tag v') rows=>v'=v/\o=.s .own rows|_=>False)
 | .s (.tag _) _=>False
 | .m _=>False
 | .it _ _=>False
 | c=>o=c
def Xx(u:Nat->Value):Nat->List C->List C->List C->Prop
 | _,[],_,o=>o=[]
 | j,c::cs,y::xs,o::os=>Zy (u j) c y o/\Xx u (j+1) cs xs os
 | _,_,_,_=>False
def kh(u:Nat->Nat->Value)(F:Nat->AV):Nat->List MA->List (Nat × Nat)->List MA->Prop
 | _,[],_,[]=>True
 | i,.val _ _::A,_::pl,.val _ _::B=>kh u F (i+1) A pl B
 | i,.mut ag cs::A,p::pl,.mut a out::B=>(a=ag/\match F p.1 with|.Z _ xs=>Xx (u i) 0 cs (xs.drop p.2) out|_=>False)/\kh u F (i+1) A pl B
 | i,.ptr _::A,_::pl,.ptr out::B=>(match F i with|.Z .box xs=>xs=out|_=>False)/\kh u F (i+1) A pl B
 | _,_,_,_=>False
inductive bf(k k':Kd)(cs cs':List C)(Q:Prop):Prop
 |mk_ (h:k=k'/\cs=cs'/\Q)
theorem bf.mk{b:Kd}{Q:Prop}(h1:k=b)(h2:cs=a)(c:Q):bf k b cs a Q:=by refine .mk_ ?_;grind
def CP:type_of% @bf.mk:=@bf.mk
def bf.out{b:Kd}{Q:Prop}(h:bf k b cs a Q):k=b/\cs=a/\Q:=by obtain⟨h⟩:=h;exact h
def Ys(TE:Nat->Option TI)(d:List ResultVar)(k:Kd)(rcs:List C)(u:Nat->Nat->Value)(A B:List MA)(a:List (Nat × Nat)):Exit->(Nat->AV)->Prop:=λe F=>
 match e with
 | .normal=>resA TE F d (sles (Mj 0 A a)) λb c=>bf (mJ b) k c rcs (kh u F 0 A a B)
 | .ret=>resA TE F d (sles (Mj 0 A a)) λb c=>bf (mJ b) k c rcs (kh u F 0 A a B)
 | _=>False
section
variable{P:Program}{w0 w w1:World}{M S0 S:am}{N:gy}{φ:Nat->am}{F:Nat->AV}{a:Act}{TE:Nat->Option TI}
theorem fj.tag{Y:am}{c:C}{v:Value}(h:fj w S Y c v):fj w S Y (Yt c v) v:=by
 cases h with
 | nil _ o a B=>cases o with
  | own=>exact .nil _ _ _ rfl
  | _=>exact .nil _ _ _ B
 | own _ o g k n l e u f B D E i p t K L M y=>cases o with
  | own=>exact .own _ _ g k n l e u f rfl D E i p t K L M y
  | S=>exact B.elim
  | tag z=>exact .own _ _ g k n l e u f B D E i p t K L M y
 | v _ x F=>exact .v _ _ F
 | x _ u F=>exact .x _ _ F
 | z _ a=>exact .z _ _
 | S _ g G k n l e u D E i N y=>exact .S _ g G k n l e u D E i N y
 | m _ b d O j t H P J q=>exact .m _ b d O j t H P J q
 | it _ r b since Q d seen j cur left t R H q y J T A=>exact .it _ r b since Q d seen j cur left t R H q y J T A
def fj.untag{Y:am}{z v:Value}{rows:List (List C)}(h:fj w S Y (.s (.tag z) rows) v):v=z/\fj w S Y (.s .own rows) v:=by
 cases h with
 | nil _ o a d=>exact⟨Eq.symm d,.nil _ _ _ tV1⟩
 | own _ o g k n e rows u f d i j b c l p q r t=>exact⟨Eq.symm d,.own _ _ g k n e rows u f tV1 i j b c l p q r t⟩
theorem rG(u:Nat->Value):∀(j:Nat)(cs:List C),(EP u j cs).length=cs.length
 | _,[]=>rfl
 | j,c::cs=>by simp[EP,rG u (j+1) cs]
theorem KT(u:Nat->Value):∀(a:Nat)(cs:List C)(j:Nat),(EP u a cs)[j]? = (cs[j]?).map λc=>Yt c (u (a+j))
 | _,[],j=>by simp[EP]
 | a,c::cs,0=>by simp[EP]
 | a,c::cs,j+1=>by simp only[EP,List.getElem?_cons_succ];rw[KT u (a+1) cs j,show a+1+j=a+(j+1) by omega]
variable{u:Nat->Value}
theorem dz.tag{Y:am}{cs:List C}(h:dz w S Y cs u):dz w S Y (EP u 0 cs) u:=by
 obtain⟨f,i,b,d⟩:=h;refine⟨f,λj c a=>?_,λj a=>b j (by grind [rG]),λj e a g=>d j e (by grind [rG]) (by grind [rG])⟩
 grind [KT,fj.tag]
def celF(v:Value)(j:Nat):Value:=v.cells.toList.getD j undef
def bL.celF{Y:am}{ag:Option Nat}{cs:List C}{v:Value}(h:bL w S Y ag cs v):cs.length=ag.getD 1/\v=mkv ag (celF v)/\dz w S Y cs (celF v):=by
 obtain⟨b,u,c,d⟩:=h;have g:=ta (ag:=ag) (u:=u) (λe=>by subst e;exact d.one (by simp at b;omega));have f:∀j,j<ag.getD 1->Ab.celF v j=u j:=λj a=>by
  unfold Ab.celF;rw[c,g];simp[List.getD,a]
 exact⟨b,c.trans (lP λj a=>(f j a).symm),d.congr λj a=>f j ω⟩
def Xz(u:Nat->Nat->Value)(i:Nat):MA->AV
 | .val a cs=>.Z (o7 a) cs
 | .mut a cs=>.Z (o7 a) (EP (u i) 0 cs)
 | .ptr cs=>.Z .box cs
theorem Gj{u:Nat->Nat->Value} : ∀{A:List MA}{vs:List Value}{V:Nat->am}(i:Nat),RZ w S V A vs->∀t,(lay (Bl u i A) t=.dead)\/(∃m v,i<=t/\vs[t - i]? = some v/\A[t - i]? = some m/\lay (Bl u i A) t=Xz u t m/\tH w S (V (t - i)) m v)
 | [],_,_,i,_,t=>.inl rfl
 | m::A,[],_,i,h,t=>h.elim
 | m::A,v::vs,V,i,h,t=>by
  have b:lay (Bl u i (m::A)) t=bif Nat.beq t i then Xz u i m else lay (Bl u (i+1) A) t:=by cases m<;>rfl
  rw[b];cases c:Nat.beq t i with
  | true=>
   have:=v4 c;subst this;exact .inr ⟨m,v,C5 _,by simp,by simp,rfl,by rw[Nat.sub_self];exact h.1⟩
  | false=>
   have d:t≠i:=λe=>by simp_all
   rcases Gj (i+1) h.2 t with a|⟨f,g,a,j,k,l,n⟩
   ·exact .inl a
   grind
def Qs:∀{A:List MA}{vs:List Value}{V:Nat->am},RZ w S V A vs->A.length=vs.length
 | [],[],_,_=>rfl
 | _::_,_::_,_,h=>by simp[Qs h.2]
 | [],_::_,_,h=>h.elim
 | _::_,[],_,h=>h.elim
theorem Q4{p:Nat->Value} : ∀{A:List MA}{i:Nat}{q:Nat × Value},q∈P0 p i A->i<=q.1/\q.1<i+A.length/\q.2=p q.1
 | [],_,_,h=>by simp[P0]at h
 | m::A,i,q,h=>by
  have a:q∈P0 p (i+1) A->i<=q.1/\q.1<i+(m::A).length/\q.2=p q.1:=λh=>by
   obtain⟨b,c,d⟩:=Q4 h
   grind
  cases m with
  | ptr e=>
   rcases List.mem_cons.1 h with rfl|h
   all_goals grind
  | val=>exact a h
  | «mut»=>exact a h
theorem Qy{p:Nat->Value} : ∀{A:List MA}{i n:Nat}{cs:List C},A[n]? = some (.ptr cs)->(i+n,p (i+n))∈P0 p i A
 | [],_,n,_,h=>by simp at h
 | m::A,i,0,cs,h=>by grind [P0]
 | m::A,i,n+1,cs,h=>by
  have a:=Qy (p:=p) (i:=i+1) (show A[n]? = some (.ptr cs) by simpa using h);rw[show i+1+n=i+(n+1) by omega]at a;cases m with
  | ptr cs=>exact OA _ a
  | val=>exact a
  | «mut»=>exact a
def XJ(φ:Nat->am):Option (Option Nat)->am
 | some (some t)=>φ t
 | _=>NO
theorem H0{u:Nat->Value} : ∀{b:Nat}{cs xs a:List C},Xx u b cs xs a->cs.length=a.length/\∀(j:Nat)(c o:C),cs[j]? = some c->a[j]? = some o->∃y,(eO c=true->xs[j]? = some y)/\Zy (u (b+j)) c y o
 | _,[],xs,a,h=>by grind [Xx]
 | _,_::_,[],_,h=>by grind [Xx]
 | _,_::_,_::_,[],h=>by grind [Xx]
 | b,d::cs,e::xs,f::a,h=>by
  simp only[Xx]at h;obtain⟨g,i⟩:=H0 h.2
  grind
theorem TX{S' Y r:am}{E:Nat->Value}{cs xs t:List C}{off:Nat}(g:bA S w w1)(l:∀b o,S b o->S' b o)(h:dz w S Y cs u)(h':dz w1 S' r xs E)(F:Xx u 0 cs (xs.drop off) t):dz w1 S' r t u:=by
 obtain⟨f,G,O,P⟩:=h;obtain⟨A,n,H,J⟩:=h';obtain⟨Q,K⟩:=H0 F;refine⟨λj b o=>off+j<xs.length/\A (off+j) b o,λj c B=>?_,ψ,ψ⟩;have L:=(C4.1 B).1;have i:cs[j]? = some cs[j]:=ψ
 obtain⟨y,k,a⟩:=K j _ c i B;rw[OE]at a;have d:=G j _ i;generalize cs[j]=p at i a d k;have keep:eO p=false->c=p->fj w1 S' (λb o=>off+j<xs.length/\A (off+j) b o) c (u j):=λM e=>by
  subst e;exact((d.bare (F':=NO) M).keep g (λ_ _ h=>h.elim)).mono l (λ_ _ h=>h.elim)
 cases p with
 | v R=>exact keep rfl a
 | x=>exact keep rfl a
 | z=>exact keep rfl a
 | m T=>exact a.elim
 | it=>exact a.elim
 | s o D=>
  cases o with
  | S=>exact keep rfl a
  | tag z=>exact a.elim
  | own=>
   have k:=k rfl;rw[List.getElem?_drop]at k;have N:=(C4.1 k).1;simp only[Zy]at a;split at a
   case h_2=>exact a.elim
   rename_i U q;obtain⟨rfl,rfl⟩:=a;obtain⟨V,W⟩:=(n _ _ k).untag
   simp_all
theorem bq.backs{C:World}{S':am}{u:Nat->Nat->Value}(h:bq w0 M S0 N S' φ F a C)(d:bA S w C)(f:∀b o,S b o->S' b o):∀{A:List MA}{g:List (Nat × Nat)}{B:List MA}{vs:List Value}{V:Nat->am}{i:Nat},RZ w S V A vs->
  (∀j v,vs[j]? = some v->u (i+j)=celF v)->(∀j v cs,vs[j]? = some v->A[j]? = some (.ptr cs)->tvs a (i+j)=v)->kh u F i A g B->Hw C S' (λn=>XJ φ (Mj i A g)[n]?) B vs
 | [],g,B,vs,V,i,l,r,t,c=>by
  cases vs with
  | cons _ _=>exact l.elim
  | nil=>cases B with
   | nil=>trivial
   | cons _ _=>grind [kh]
 | m::A,[],B,vs,V,i,l,r,t,c=>by grind [kh]
 | m::A,p::g,[],vs,V,i,l,r,t,c=>by grind [kh]
 | m::A,p::g,D::B,[],V,i,l,r,t,c=>l.elim
 | m::A,p::g,D::B,v::vs,V,i,l,r,t,c=>by
  have next:kh u F (i+1) A g B->Hw C S' (λn=>XJ φ (Mj (i+1) A g)[n]?) B vs:=λc=>
   bq.backs h d f l.2 (λj v T=>by rw[show i+1+j=i+(j+1) by omega];simp_all)
    (λj v cs T X=>by rw[show i+1+j=i+(j+1) by omega];simp_all) c
  cases m with
  | val U cs=>
   cases D with
   | val y W=>simp only[kh]at c;exact⟨tV1,next c⟩
   | ptr=>grind [kh]
   | «mut»=>grind [kh]
  | «mut» U cs=>
   cases D with
   | val=>grind [kh]
   | ptr=>grind [kh]
   | «mut» y out=>
    simp only[kh]at c;obtain⟨⟨rfl,e⟩,G⟩:=c;refine⟨?_,next G⟩;have E:=bL.celF (show bL w S (V 0) y cs v from l.1);have H:u i=celF v:=r 0 v (by simp);have q:=h.slot p.1;cases J:F p.1 with
    | Z k xs=>
     rw[J]at e q;simp only at e;rw[H]at e;obtain⟨O,Y,P,K,Q,R,L⟩:=q;refine⟨by grind [H0],celF v,E.2.1,?_⟩;exact(TX d f E.2.2 L e).mono (λ_ _ h=>h) (λb o c=>by simpa[Mj,XJ] using K b o c)
    | _=>grind
  | ptr cs=>
   cases D with
   | val=>grind [kh]
   | «mut»=>grind [kh]
   | ptr out=>
    simp only[kh]at c;refine⟨?_,next c.2⟩;have E:tvs a i=v:=t 0 v cs (by simp) (by simp);have q:=h.slot i;cases J:F i with
    | Z k xs=>
     cases k with
     | box=>
      rw[J]at c q;have:=c.1;simp only at this;subst this;rw[E]at q;obtain⟨O,Y,P,K,Q,R,L⟩:=q;exact⟨O,Y,λb o c=>by simpa[Mj,XJ] using P b o c,λb o c=>by simpa[Mj,XJ] using K b o c,Q,R,L⟩
     | _=>grind
    | _=>grind
theorem xD:∀{l:List (Option Nat)},NX l=true->∀(i a t c:Nat),i≠a->l[i]? = some (some t)->l[a]? = some (some c)->t≠c
 | [],_,i,a,t,c,_,h,_=>by simp at h
 | none::l,b,i,a,t,c,f,h,d=>by
  cases i with
  | zero=>simp at h
  | succ i=>cases a with
   | zero=>simp at d
   | succ a=>exact xD (l:=l) b i a t c ω (by simpa using h) (by simpa using d)
 | some g::l,b,i,a,t,c,f,h,d=>by
  simp only[NX,I0]at b;have k:∀(n s:Nat),l[n]? = some (some s)->g≠s:=λn s j e=>by
   have:=O7.1 b.1 _ (t4 j)
   simp_all
  cases i with
  | zero=>
   grind
  | succ i=>cases a with
   | zero=>grind
   | succ a=>exact xD b.2 i a t c ω (by simpa using h) (by simpa using d)
theorem AQ:∀{l:List (Option Nat)}{i t:Nat},l[i]? = some (some t)->t∈sles l
 | [],i,t,h=>by simp at h
 | none::l,i,t,h=>by
  cases i with
  | zero=>simp at h
  | succ i=>exact AQ (l:=l) (i:=i) (by simpa using h)
 | some a::l,i,t,h=>by
  cases i with
  | zero=>grind [sles]
  | succ i=>exact OA _ (AQ (l:=l) (i:=i) (by simpa using h))
theorem Dr{φ:Nat->am}{x:Option (Option Nat)}{b o:Nat}(h:XJ φ x b o):∃t,x=some (some t)/\φ t b o:=by
 match x,h with
 | some (some t),h=>exact⟨t,rfl,h⟩
 | some none,h=>exact h.elim
 | none,h=>exact h.elim
theorem RR{f : Nat}{y : Func}{c : Code}{sh : Bool}{A B : List MA}{k : Kd}{rcs : List C}{mo : List (Nat × List Nat)}{n : Nat}(O : List (Nat × Nat))(hTE : ∀t i, TE t = some i -> j9 P t i)(hf : P.funcs[f]? = some y)(hn : (y.name == "runtime.NumGoroutine") = false)(d:y.body=some c){ck:Nat->Array Oper->Bool}{D:gy->Nat->Array Oper->((Nat->AV)->Prop)->(Nat->AV)->Prop}(hD:∀N,BF P N ck (D N))(hc:iG ck c=true)(hN:A.length+(y.ntmps - A.length)=n)(hok:NX (Mj 0 A O)=true)(hsh:sh=true\/iN rcs)(hp:∀(u:Nat->Nat->Value)(p:Nat->Value),aw P TE ⟨n,P0 p 0 A,mo⟩ (D ⟨n,P0 p 0 A,mo⟩) c (Ys TE y.results.toList k rcs u A B O) (lay (Bl u 0 A))):aU P f sh A B k rcs:=by
 refine⟨⟨y,hf,hn,by rw[d];rfl⟩,λw S V E hS hV hVd hA=>?_⟩;have hlen:=Qs hA;refine calls_of_wp hf d ?_
 let u:Nat->Nat->Value:=λi=>celF (E.getD i undef)
 let p:Nat->Value:=λi=>E.getD i undef
 have htv:∀t v,E[t]? = some v->tvs {tmps:=E.toArray++Array.replicate (y.ntmps - E.toArray.size) undef,defers:=[]} t=v:=λt v r=>by
  have Q:=(C4.1 r).1;simp only[tvs,SD]
  grind
 have hst:St w (λb o=>∃i,V i b o) S ⟨n,P0 p 0 A,mo⟩ (lay (Bl u 0 A)) {tmps:=E.toArray++Array.replicate (y.ntmps - E.toArray.size) undef,defers:=[]} w:=by
  refine⟨S,V,λt=>?_,hVd,ψ,ψ,λ_ _ h=>h,ψ,Cr _ _,by simp;omega,rfl,λq hq=>?_⟩
  ·rcases Gj (u:=u) 0 hA t with J|⟨m,v,-,r,h2',K,U⟩
   ·rw[J];trivial
   rw[K];rw[Nat.sub_zero]at r U;rw[htv t v r];have hu:u t=celF v:=ψ
   cases m with
   | val M G=>exact(bL.mono (show bL w S NO M G v from U) (λ_ _ h=>h) (λ_ _ h=>h.elim)).slot
   | «mut» M G=>
    obtain⟨e1,e2,e3⟩:=bL.celF (show bL w S (V t) M G v from U);refine bL.slot ⟨by grind [rG],celF v,e2,?_⟩
    grind [dz.tag]
   | ptr G=>exact U
  obtain⟨-,J,r⟩:=Q4 hq
  grind
 refine kH hTE (hD _) c hc _ _ _ _ w (hp u p) hst λe F' W l he hs'=>?_
 obtain⟨S',φ',h⟩:=hs';have fin:resA TE F' y.results.toList (sles (Mj 0 A O)) (λsh G=>bf (mJ sh) k G rcs (kh u F' 0 A O B))->W.defers=[]/\∃v,(results y W.tmps).run P l=.ok v l/\(∃v',Ending.returned v=.returned v'/\bH (λb o=>∃i,V i b o) w l/\∃(X:am)(Z:Nat->am)(S1:am),
     (∀b o,X b o->(∃i,V i b o)\/(b<l.heap.size/\w.heap.size<=b))/\(∀i b o,Z i b o->(∃i,V i b o)\/(b<l.heap.size/\w.heap.size<=b))/\
     (∀b o,S1 b o->(sh=true/\S b o)\/(∃i,V i b o)\/(b<l.heap.size/\w.heap.size<=b))/\
     (∀i i',i≠i'->∀b o,Z i b o->¬Z i' b o)/\(∀i b o,X b o->¬Z i b o)/\(∀b o,X b o->¬S1 b o)/\(∀i b o,Z i b o->¬S1 b o)/\
     gX l NO k rcs.length v'/\dz l S1 X rcs (cZ l k v')/\Hw l (λb o=>S b o\/S1 b o) Z B E):=by
  intro hr;obtain⟨shs,G,a,u',hfin,hrun,L,hln,hL,hcells,H,hrow⟩:=h.resA hTE hr;obtain⟨rfl,rfl,R⟩:=hfin.out;refine⟨h.defers,?_⟩;have T:(results y W.tmps).run P l=.ok (if h:a.toArray.size=1 then a.toArray[0] else .tuple a.toArray) l:=by
   have e:results y W.tmps=(do let E <-y.results.mapM (LG W.tmps);pure (if h:E.size=1 then E[0] else .tuple E)):=by
    unfold results
    congr 1
   rw[e,<-Array.toArray_toList (xs:=y.results),List.mapM_toArray]
   simp_all
  have hex:∀t b o,φ' t b o->(∃i,V i b o)\/(b<l.heap.size/\w.heap.size<=b):=λt b o d=>(h.ex t b o d).2.elim (λh'=>.inr ⟨(h.ex t b o d).1,h'⟩) .inl
  have hsameS:bA S w l:=λb o d=>by
   have Q:=hS b o d;exact⟨h.old.cel b o Q ψ,h.old.fro b o Q ψ⟩
  have hm:=h.backs (u:=u) hsameS h.sub hA ψ (λj v G hj hc=>by
    have:=h.par _ (Qy (p:=p) (i:=0) hc)
    grind) R
  refine⟨_,T,_,rfl,h.old,λb o=>∃t,t∉sles (Mj 0 A O)/\φ' t b o,λi=>XJ φ' (Mj 0 A O)[i]?,λb o=>(sh=true/\S' b o)\/(S' b o/\((∃i,V i b o)\/w.heap.size<=b)),ψ,λi b o d=>?_,λb o d=>?_,λi i' hne b o d g=>?_,λi b o ⟨t,ht,d⟩ g=>?_,λb o ⟨t,_,d⟩ g=>h.disS t b o d ψ,λi b o d g=>?_,?_⟩
  ·grind [Dr]
  ·rcases d with⟨J,r⟩|⟨J,r⟩
   ·rcases(h.sup b o r).2 with K|K|K
    ·grind
    ·exact .inr (.inr ⟨(h.sup b o r).1,K⟩)
    grind
   rcases r with r|r
   ·grind
   exact .inr (.inr ⟨(h.sup b o J).1,r⟩)
  ·obtain⟨t,e1,d⟩:=Dr d
   obtain⟨t',e2,g⟩:=Dr g;exact h.dis t t' (xD hok i i' t t' hne e1 e2) b o d g
  ·obtain⟨t',e2,g⟩:=Dr g
   exact h.dis t t' (λe=>ht (by grind [AQ])) b o d g
  ·obtain⟨t,-,d⟩:=Dr d
   exact h.disS t b o d ψ
  have hk:gX l NO (mJ shs) G.length (if h:a.toArray.size=1 then a.toArray[0] else .tuple a.toArray)/\dz l S' (λb o=>∃t,t∉sles (Mj 0 A O)/\φ' t b o) G (cZ l (mJ shs) (if h:a.toArray.size=1 then a.toArray[0] else .tuple a.toArray)):=by
   match shs,L,H,hL with
   | [],L,_,hL=>
    cases a with
    | cons _ _=>exact L.elim
    | nil=>
     have:G=[]:=ψ
     subst this;exact⟨⟨_,rfl,tV1,rfl⟩,dz.nil _ _ _ _⟩
   | [M],_,H,_=>
    obtain⟨v,rfl,hv⟩:=H M rfl;have:=hv.slot (F:=F') (tv:=tvs W);obtain⟨X1,Y,J,r,K,U,h5⟩:=this;refine⟨?_,h5.mono (λ_ _ h=>h) r⟩;cases M<;>exact U
   | M::ag2::sh,L,_,hL=>
    have hsz:¬a.toArray.size=1:=by
     match a,L with
     | [],L=>simp
     | [v],L=>cases M<;>cases ag2<;>exact L.2.elim
     | _::_::_,_=>simp
    rw[dif_neg hsz];refine⟨⟨_,rfl,L,hL⟩,hrow.congr λj hj=>?_⟩;simp only[cZ,mJ,pS,hcells];simp[List.getD,hj]
  refine⟨hk.1,?_,hm.mono λb o d=>?_⟩
  ·rcases hsh with J|J
   ·exact hk.2.mono ψ (λ_ _ h=>h)
   exact(hk.2.fresh J).mono (λ_ _ h=>h.elim) (λ_ _ h=>h)
  rcases(h.sup b o d).2 with K|K|K
  all_goals grind
 cases e with
 | normal=>exact fin he
 | ret=>exact fin he
 | _=>exact he.elim
end
abbrev I(z:Int):C:=.v (.int .i64 z)
abbrev B(b:Bool):C:=.v (.bool b)
def rI(_:fE)(z:Int):List C:=[I z]
def rB(_:fE)(b:Bool):List C:=[B b]
def rR(z:Int):iN (rI .own z):=⟨tV1,tV1⟩
def Fd(b:Bool):iN (rB .own b):=⟨tV1,tV1⟩
def rx(z:Int):Prop:=-9223372036854775808<=z/\z<=9223372036854775807
def Z7(_:Bool):Prop:=True
def uX : Tryz.prog.follows .mixedOrders=true:=by kernel_rfl
variable{tb: List (Nat × Nat × List Nat)}{rcs: List C}{A: List RA}{sh: Bool}{c: Code}{mo: List (Nat × List Nat)}{f: Nat}
def YD{a : Func}(d : Tryz.prog.funcs[f]? = some a)(e : (a.name == "runtime.NumGoroutine") = false)(g : a.body = some c)(h : iG (rh tb) c = true)(i:A.length+(a.ntmps - A.length)=n)(b:sh=true\/iN rcs)(j:aw Tryz.prog TE ⟨n,[],mo⟩ (DF Tryz.prog TE ⟨n,[],mo⟩ tb) c (WS TE a.results.toList k rcs) (lay (zf 0 A))):zzA f sh A k rcs:=
 Rd ru d e g (uN ru uX ⟨n,[],mo⟩ tb) h i rfl b j
def YK{a : Func}{A B : List MA}(b : List (Nat × Nat))(g : Tryz.prog.funcs[f]? = some a)(h : (a.name == "runtime.NumGoroutine") = false)(i : a.body = some c)(j : iG (rh tb) c = true)(l:A.length+(a.ntmps - A.length)=n)(d:NX (Mj 0 A b)=true)(e:sh=true\/iN rcs)(o:∀(u:Nat->Nat->Value)(p:Nat->Value),aw Tryz.prog TE ⟨n,P0 p 0 A,mo⟩ (DF Tryz.prog TE ⟨n,P0 p 0 A,mo⟩ tb) c (Ys TE a.results.toList k rcs u A B b) (lay (Bl u 0 A))):zzB f sh A B k rcs:=
 RR b ru g h i (λN=>uN ru uX N tb) j l d e o
def YJ{a : Func}(b : Tryz.prog.funcs[f]? = some a)(d : (a.name == "runtime.NumGoroutine") = false)(e : a.body = some c)(g : iG (rh tb) c = true)(h:A.length+(a.ntmps - A.length)=n)(i:a.results = #[.tmp t])(j:aw Tryz.prog TE ⟨n,[],mo⟩ (DF Tryz.prog TE ⟨n,[],mo⟩ tb) c (YO t rcs) (lay (zf 0 A))):uT Tryz.prog f true A .box rcs:=
 R3 ru b d e (uN ru uX ⟨n,[],mo⟩ tb) g h rfl i j
theorem gf{x:Int}(h1 : -9223372036854775808<=x)(h2:x<=9223372036854775807):IntKind.i64.wrap x=x:=IntWalk.i64_in x ω
def TA:RA->RA->Prop
 | .val ag cs,.val ag' cs'=>ag=ag'/\cs=cs'
 | .ptr cs,.ptr cs'=>cs=cs'
 | A,a=>A=a
theorem TA.eq{A a:RA}(h:TA A a):A=a:=by
 unfold TA at h
 grind
def Fw:List RA->List RA->Prop
 | [],[]=>True
 | A::As,B::Bs=>TA A B/\Fw As Bs
 | _,_=>False
theorem Fw.eq:∀{A a:List RA},Fw A a->A=a
 | [],[],_=>rfl
 | A::As,B::Bs,h=>by rw[TA.eq h.1,Fw.eq h.2]
 | [],_::_,h=>h.elim
 | _::_,[],h=>h.elim
theorem Cl.eq{b:Bool}{a:List RA}{K:AV->Prop}(h:au P f false a k rcs)(c:Fw A a)(d:K (.Z k rcs)):Cl P f b A K:=by grind [Fw.eq,CG]
def CN:type_of% @Cl.eq:=@Cl.eq
def vm{b:Nat}(h:n<=1048576)(a:b<=1000):n*b<=140737488355328:=I9 (Nat.mul_le_mul h a) qs
variable{X Y:Prop}
theorem Bf.NB{a b:Bool}(h1:a≠b->X)(h2:a=b->Y):Bf (a != b) X Y:=by grind [Bf.P]
theorem Rw.one{off k j:Nat}{K:List C->Nat->Prop}{o:fE}{rows:List (List C)}{r:List C}(h1:a[off]? = some (.s o rows))(h2:rows[i]? = some r)(c:r.length=k)(b:K r j):Rw a off [(i,k,j)] K:=
 Rw.mk (r:=r) (j:=j) (by grind [db]) b
def CM:type_of% @Rw.one:=@Rw.one
section
variable{α:Type}{A B:List α}
end
def aa{β:Type}{f:α->β}{l:List α}{k:Nat}{x:α}(h:l[k]? = some x):(l.map f)[k]? = some (f x):=by simp[h]
def aF(o:fE)(x:List Int):List C:=[.s o (x.map (rI o))]
def cR(x:List Int):eJ (aF .own x)=aF .S x:=by simp[eJ,aF,rI,eJ]
theorem bC(x:List Int):iN (aF .own x):=⟨⟨.inl ψ,bm _ _ λy _=>rR y⟩,tV1⟩
def lQ(x:List Int):Prop:=x.length<=9223372036854775807/\∀y∈x,rx y
def wv(x:List Int):Prop:=x.length<=1048576
def iR(o:fE)(x:List (List Int)):List C:=[.s o (x.map (aF o))]
def Y5(x:List (List Int)):eJ (iR .own x)=iR .S x:=by simp[eJ,iR,cR,<-cj,SB]
def HP(x:List (List Int)):Prop:=x.length<=9223372036854775807/\∀y∈x,lQ y
def zZ(x:List (List Int)):Prop:=x.length<=1048576/\∀y∈x,wv y
def lH(o:fE)(x:List Bool):List C:=[.s o (x.map (rB o))]
theorem QM(x:List Bool):iN (lH .own x):=⟨⟨.inl ψ,bm _ _ λy _=>Fd y⟩,tV1⟩
def Wl(x:List Bool):Prop:=x.length<=9223372036854775807/\∀y∈x,Z7 y
def Vv(x:List Bool):Prop:=x.length<=1048576
structure aZ where
 T:List (List Int)
 a6:List Bool
deriving DecidableEq,Inhabited
def aZ.enc(o:fE)(x:aZ):List C:=[.s o (x.T.map (aF o)),.s o (x.a6.map (rB o))]
def aZ.enc_fz(x:aZ):eJ (aZ.enc .own x)=aZ.enc .S x:=by simp[eJ,aZ.enc,rB,cR,<-cj,SB]
theorem aZ.enc_fr(x:aZ):iN (aZ.enc .own x):=⟨⟨.inl ψ,bm _ _ λy _=>bC y⟩,⟨.inl ψ,bm _ _ λy _=>Fd y⟩,tV1⟩
def aZ.wf(x:aZ):Prop:=HP x.T/\Wl x.a6
def aZ.sml(x:aZ):Prop:=zZ x.T/\Vv x.a6
structure bo where
 e:Int
 j:Int
deriving DecidableEq,Inhabited
def bo.enc(o:fE)(x:bo):List C:=[I x.e,I x.j]
def bo.enc_fz(x:bo):eJ (bo.enc .own x)=bo.enc .S x:=by simp[eJ,bo.enc]
def bo.enc_fr(x:bo):iN (bo.enc .own x):=⟨tV1,tV1,tV1⟩
def bo.wf(x:bo):Prop:=rx x.e/\rx x.j
def bo.sml(_:bo):Prop:=True
def DH(o:fE)(x:List bo):List C:=[.s o (x.map (bo.enc o))]
def Rc(x:List bo):Prop:=x.length<=9223372036854775807/\∀y∈x,bo.wf y
def NP(x:List bo):Prop:=x.length<=1048576/\∀y∈x,bo.sml y
structure aO where
 M:List bo
deriving DecidableEq,Inhabited
def aO.enc(o:fE)(x:aO):List C:=[.s o (x.M.map (bo.enc o))]
def aO.enc_fz(x:aO):eJ (aO.enc .own x)=aO.enc .S x:=by simp[eJ,aO.enc,bo.enc_fz,<-cj,SB]
def Cp:type_of% @aO.enc_fz:=@aO.enc_fz
theorem aO.enc_fr(x:aO):iN (aO.enc .own x):=⟨⟨.inl ψ,bm _ _ λy _=>bo.enc_fr y⟩,tV1⟩
def aO.wf(x:aO):Prop:=Rc x.M
def aO.sml(x:aO):Prop:=NP x.M
structure aT where
 V:aZ
 O:aO
deriving DecidableEq,Inhabited
def aT.enc(o:fE)(x:aT):List C:=[.s o (x.V.T.map (aF o)),.s o (x.V.a6.map (rB o)),.s o (x.O.M.map (bo.enc o))]
def aT.enc_fz(x:aT):eJ (aT.enc .own x)=aT.enc .S x:=by simp[eJ,aT.enc,bo.enc_fz,rB,cR,<-cj,SB]
theorem aT.enc_fr(x:aT):iN (aT.enc .own x):=⟨⟨.inl ψ,bm _ _ λy _=>bC y⟩,⟨.inl ψ,bm _ _ λy _=>Fd y⟩,⟨.inl ψ,bm _ _ λy _=>bo.enc_fr y⟩,tV1⟩
def aT.wf(x:aT):Prop:=aZ.wf x.V/\aO.wf x.O
def aT.sml(x:aT):Prop:=aZ.sml x.V/\aO.sml x.O
structure ah where
 F:aT
 Calls:Int
 a3:List Int
deriving DecidableEq,Inhabited
def ah.enc(o:fE)(x:ah):List C:=[.s o (x.F.V.T.map (aF o)),.s o (x.F.V.a6.map (rB o)),.s o (x.F.O.M.map (bo.enc o)),I x.Calls,.s o (x.a3.map (rI o))]
def ah.enc_fz(x:ah):eJ (ah.enc .own x)=ah.enc .S x:=by simp[eJ,ah.enc,bo.enc_fz,rB,rI,cR,<-cj,SB]
def CY:type_of% @ah.enc_fz:=@ah.enc_fz
theorem ah.enc_fr(x:ah):iN (ah.enc .own x):=⟨⟨.inl ψ,bm _ _ λy _=>bC y⟩,⟨.inl ψ,bm _ _ λy _=>Fd y⟩,⟨.inl ψ,bm _ _ λy _=>bo.enc_fr y⟩,tV1,⟨.inl ψ,bm _ _ λy _=>rR y⟩,tV1⟩
def Ck:type_of% @ah.enc_fr:=@ah.enc_fr
def ah.wf(x:ah):Prop:=aT.wf x.F/\rx x.Calls/\lQ x.a3
def ah.sml(x:ah):Prop:=aT.sml x.F/\wv x.a3
structure aG where
 At:Int
 a8:Int
deriving DecidableEq,Inhabited
def aG.enc(o:fE)(x:aG):List C:=[I x.At,I x.a8]
def aG.enc_fz(x:aG):eJ (aG.enc .own x)=aG.enc .S x:=by simp[eJ,aG.enc]
def aG.enc_fr(x:aG):iN (aG.enc .own x):=⟨tV1,tV1,tV1⟩
def aG.wf(x:aG):Prop:=rx x.At/\rx x.a8
def aG.sml(_:aG):Prop:=True
def bw(o:fE)(x:List aG):List C:=[.s o (x.map (aG.enc o))]
def fm(x:List aG):eJ (bw .own x)=bw .S x:=by simp[eJ,bw,aG.enc_fz,<-cj,SB]
theorem ko(x:List aG):iN (bw .own x):=⟨⟨.inl ψ,bm _ _ λy _=>aG.enc_fr y⟩,tV1⟩
def RE(x:List aG):Prop:=x.length<=9223372036854775807/\∀y∈x,aG.wf y
def iy(x:List aG):Prop:=x.length<=1048576/\∀y∈x,aG.sml y
structure aB where
 Q:Int
 d:Int
 a9:Int
deriving DecidableEq,Inhabited
def aB.enc(o:fE)(x:aB):List C:=[I x.Q,I x.d,I x.a9]
def aB.enc_fz(x:aB):eJ (aB.enc .own x)=aB.enc .S x:=by simp[eJ,aB.enc]
def aB.enc_fr(x:aB):iN (aB.enc .own x):=⟨tV1,tV1,tV1,tV1⟩
def aB.wf(x:aB):Prop:=rx x.Q/\rx x.d/\rx x.a9
def aB.sml(_:aB):Prop:=True
def bY(o:fE)(x:List aB):List C:=[.s o (x.map (aB.enc o))]
def f9(x:List aB):eJ (bY .own x)=bY .S x:=by simp[eJ,bY,aB.enc_fz,<-cj,SB]
theorem Dp(x:List aB):iN (bY .own x):=⟨⟨.inl ψ,bm _ _ λy _=>aB.enc_fr y⟩,tV1⟩
def Ud(x:List aB):Prop:=x.length<=9223372036854775807/\∀y∈x,aB.wf y
def eN(x:List aB):Prop:=x.length<=1048576/\∀y∈x,aB.sml y
structure aC where
 Q:Int
 a1:Int
 k:Int
deriving DecidableEq,Inhabited
def aC.enc(o:fE)(x:aC):List C:=[I x.Q,I x.a1,I x.k]
def aC.enc_fz(x:aC):eJ (aC.enc .own x)=aC.enc .S x:=by simp[eJ,aC.enc]
def aC.enc_fr(x:aC):iN (aC.enc .own x):=⟨tV1,tV1,tV1,tV1⟩
def aC.wf(x:aC):Prop:=rx x.Q/\rx x.a1/\rx x.k
def aC.sml(_:aC):Prop:=True
def ce(o:fE)(x:List aC):List C:=[.s o (x.map (aC.enc o))]
def kj(x:List aC):eJ (ce .own x)=ce .S x:=by simp[eJ,ce,aC.enc_fz,<-cj,SB]
def RW(x:List aC):Prop:=x.length<=9223372036854775807/\∀y∈x,aC.wf y
def eU(x:List aC):Prop:=x.length<=1048576/\∀y∈x,aC.sml y
structure bg where
 Id:Int
 Addr:Int
 k:Int
 a2:Int
deriving DecidableEq,Inhabited
def bg.enc(o:fE)(x:bg):List C:=[I x.Id,I x.Addr,I x.k,I x.a2]
def bg.enc_fz(x:bg):eJ (bg.enc .own x)=bg.enc .S x:=by simp[eJ,bg.enc]
def bg.enc_fr(x:bg):iN (bg.enc .own x):=⟨tV1,tV1,tV1,tV1,tV1⟩
def bg.wf(x:bg):Prop:=rx x.Id/\rx x.Addr/\rx x.k/\rx x.a2
def bg.sml(_:bg):Prop:=True
def pG(o:fE)(x:List bg):List C:=[.s o (x.map (bg.enc o))]
def Q9(x:List bg):eJ (pG .own x)=pG .S x:=by simp[eJ,pG,bg.enc_fz,<-cj,SB]
def Xr(x:List bg):Prop:=x.length<=9223372036854775807/\∀y∈x,bg.wf y
def Tz(x:List bg):Prop:=x.length<=1048576/\∀y∈x,bg.sml y
structure aE where
 Y:List (List Int)
deriving DecidableEq,Inhabited
def aE.enc(o:fE)(x:aE):List C:=[.s o (x.Y.map (aF o))]
def aE.enc_fz(x:aE):eJ (aE.enc .own x)=aE.enc .S x:=by simp[eJ,aE.enc,cR,<-cj,SB]
def Cm:type_of% @aE.enc_fz:=@aE.enc_fz
theorem aE.enc_fr(x:aE):iN (aE.enc .own x):=⟨⟨.inl ψ,bm _ _ λy _=>bC y⟩,tV1⟩
def Cv:type_of% @aE.enc_fr:=@aE.enc_fr
def aE.wf(x:aE):Prop:=HP x.Y
def aE.sml(x:aE):Prop:=zZ x.Y
def kQ(o:fE)(x:List aE):List C:=[.s o (x.map (aE.enc o))]
def QO(x:List aE):Prop:=x.length<=9223372036854775807/\∀y∈x,aE.wf y
def Ni(x:List aE):Prop:=x.length<=1048576/\∀y∈x,aE.sml y
structure dA where
 To:Int
 Addr:Int
deriving DecidableEq,Inhabited
def dA.enc(o:fE)(x:dA):List C:=[I x.To,I x.Addr]
def dA.enc_fz(x:dA):eJ (dA.enc .own x)=dA.enc .S x:=by simp[eJ,dA.enc]
def dA.enc_fr(x:dA):iN (dA.enc .own x):=⟨tV1,tV1,tV1⟩
def dA.wf(x:dA):Prop:=rx x.To/\rx x.Addr
def dA.sml(_:dA):Prop:=True
def bP(o:fE)(x:List dA):List C:=[.s o (x.map (dA.enc o))]
def oc(x:List dA):eJ (bP .own x)=bP .S x:=by simp[eJ,bP,dA.enc_fz,<-cj,SB]
theorem uC(x:List dA):iN (bP .own x):=⟨⟨.inl ψ,bm _ _ λy _=>dA.enc_fr y⟩,tV1⟩
def TO(x:List dA):Prop:=x.length<=9223372036854775807/\∀y∈x,dA.wf y
def Rb(x:List dA):Prop:=x.length<=1048576/\∀y∈x,dA.sml y
def zW(o:fE)(x:List (List dA)):List C:=[.s o (x.map (bP o))]
def Ro(x:List (List dA)):Prop:=x.length<=9223372036854775807/\∀y∈x,TO y
def MZ(x:List (List dA)):Prop:=x.length<=1048576/\∀y∈x,Rb y
structure aP where
 U:List (List dA)
 a0:List (List Int)
deriving DecidableEq,Inhabited
def aP.enc(o:fE)(x:aP):List C:=[.s o (x.U.map (bP o)),.s o (x.a0.map (aF o))]
def aP.enc_fz(x:aP):eJ (aP.enc .own x)=aP.enc .S x:=by simp[eJ,aP.enc,oc,cR,<-cj,SB]
def Cu:type_of% @aP.enc_fz:=@aP.enc_fz
theorem aP.enc_fr(x:aP):iN (aP.enc .own x):=⟨⟨.inl ψ,bm _ _ λy _=>uC y⟩,⟨.inl ψ,bm _ _ λy _=>bC y⟩,tV1⟩
def Ct:type_of% @aP.enc_fr:=@aP.enc_fr
def aP.wf(x:aP):Prop:=Ro x.U/\HP x.a0
def aP.sml(x:aP):Prop:=MZ x.U/\zZ x.a0
structure aV where
 Addr:Int
 d:Int
 b5:Int
deriving DecidableEq,Inhabited
def aV.enc(o:fE)(x:aV):List C:=[I x.Addr,I x.d,I x.b5]
def aV.enc_fz(x:aV):eJ (aV.enc .own x)=aV.enc .S x:=by simp[eJ,aV.enc]
def aV.enc_fr(x:aV):iN (aV.enc .own x):=⟨tV1,tV1,tV1,tV1⟩
def aV.wf(x:aV):Prop:=rx x.Addr/\rx x.d/\rx x.b5
def aV.sml(_:aV):Prop:=True
def de(o:fE)(x:List aV):List C:=[.s o (x.map (aV.enc o))]
def Mz(x:List aV):eJ (de .own x)=de .S x:=by simp[eJ,de,aV.enc_fz,<-cj,SB]
theorem oM(x:List aV):iN (de .own x):=⟨⟨.inl ψ,bm _ _ λy _=>aV.enc_fr y⟩,tV1⟩
def QL(x:List aV):Prop:=x.length<=9223372036854775807/\∀y∈x,aV.wf y
def og(x:List aV):Prop:=x.length<=1048576/\∀y∈x,aV.sml y
structure bv where
 b7:Int
 y:List aV
deriving DecidableEq,Inhabited
def bv.enc(o:fE)(x:bv):List C:=[I x.b7,.s o (x.y.map (aV.enc o))]
def bv.enc_fz(x:bv):eJ (bv.enc .own x)=bv.enc .S x:=by simp[eJ,bv.enc,aV.enc_fz,<-cj,SB]
theorem bv.enc_fr(x:bv):iN (bv.enc .own x):=⟨tV1,⟨.inl ψ,bm _ _ λy _=>aV.enc_fr y⟩,tV1⟩
def bv.wf(x:bv):Prop:=rx x.b7/\QL x.y
def bv.sml(x:bv):Prop:=og x.y
structure cL where
 a4:Int
 a5:Int
 T:List Int
deriving DecidableEq,Inhabited
def cL.enc(o:fE)(x:cL):List C:=[I x.a4,I x.a5,.s o (x.T.map (rI o))]
def cL.enc_fz(x:cL):eJ (cL.enc .own x)=cL.enc .S x:=by simp[eJ,cL.enc,rI,<-cj,SB]
theorem cL.enc_fr(x:cL):iN (cL.enc .own x):=⟨tV1,tV1,⟨.inl ψ,bm _ _ λy _=>rR y⟩,tV1⟩
def cL.wf(x:cL):Prop:=rx x.a4/\rx x.a5/\lQ x.T
def cL.sml(x:cL):Prop:=wv x.T
structure cY where
 X:cL
 b0:Int
 b:Int
deriving DecidableEq,Inhabited
def cY.enc(o:fE)(x:cY):List C:=[I x.X.a4,I x.X.a5,.s o (x.X.T.map (rI o)),I x.b0,I x.b]
def cY.enc_fz(x:cY):eJ (cY.enc .own x)=cY.enc .S x:=by simp[eJ,cY.enc,rI,<-cj,SB]
theorem cY.enc_fr(x:cY):iN (cY.enc .own x):=⟨tV1,tV1,⟨.inl ψ,bm _ _ λy _=>rR y⟩,tV1,tV1,tV1⟩
def cY.wf(x:cY):Prop:=cL.wf x.X/\rx x.b0/\rx x.b
def cY.sml(x:cY):Prop:=cL.sml x.X
structure ac where
 G:ah
 o:List aG
 K:List aB
 H:List aC
 J:List bg
 R:List aE
 w:aP
 a7:bv
 c0:Int
 b1:Int
 c1:Int
 b:Int
 q:Bool
 a:cY
deriving DecidableEq,Inhabited
def ac.enc(o:fE)(x:ac):List C:=[.s o (x.G.F.V.T.map (aF o)),.s o (x.G.F.V.a6.map (rB o)),.s o (x.G.F.O.M.map (bo.enc o)),I x.G.Calls,.s o (x.G.a3.map (rI o)),.s o (x.o.map (aG.enc o)),.s o (x.K.map (aB.enc o)),.s o (x.H.map (aC.enc o)),.s o (x.J.map (bg.enc o)),.s o (x.R.map (aE.enc o)),.s o (x.w.U.map (bP o)),.s o (x.w.a0.map (aF o)),I x.a7.b7,.s o (x.a7.y.map (aV.enc o)),I x.c0,I x.b1,I x.c1,I x.b,B x.q,I x.a.X.a4,I x.a.X.a5,.s o (x.a.X.T.map (rI o)),I x.a.b0,I x.a.b]
def ac.enc_fz(x:ac):eJ (ac.enc .own x)=ac.enc .S x:=by simp[eJ,ac.enc,Cm,bo.enc_fz,aC.enc_fz,bg.enc_fz,aG.enc_fz,aB.enc_fz,aV.enc_fz,rB,oc,rI,cR,<-cj,SB]
theorem ac.enc_fr(x:ac):iN (ac.enc .own x):=⟨⟨.inl ψ,bm _ _ λy _=>bC y⟩,⟨.inl ψ,bm _ _ λy _=>Fd y⟩,⟨.inl ψ,bm _ _ λy _=>bo.enc_fr y⟩,tV1,⟨.inl ψ,bm _ _ λy _=>rR y⟩,⟨.inl ψ,bm _ _ λy _=>aG.enc_fr y⟩,⟨.inl ψ,bm _ _ λy _=>aB.enc_fr y⟩,⟨.inl ψ,bm _ _ λy _=>aC.enc_fr y⟩,⟨.inl ψ,bm _ _ λy _=>bg.enc_fr y⟩,⟨.inl ψ,bm _ _ λy _=>Cv y⟩,⟨.inl ψ,bm _ _ λy _=>uC y⟩,⟨.inl ψ,bm _ _ λy _=>bC y⟩,tV1,⟨.inl ψ,bm _ _ λy _=>aV.enc_fr y⟩,tV1,tV1,tV1,tV1,tV1,tV1,tV1,⟨.inl ψ,bm _ _ λy _=>rR y⟩,tV1,tV1,tV1⟩
def ac.wf(x:ac):Prop:=ah.wf x.G/\RE x.o/\Ud x.K/\RW x.H/\Xr x.J/\QO x.R/\aP.wf x.w/\bv.wf x.a7/\rx x.c0/\rx x.b1/\rx x.c1/\rx x.b/\Z7 x.q/\cY.wf x.a
def ac.sml(x:ac):Prop:=ah.sml x.G/\iy x.o/\eN x.K/\eU x.H/\Tz x.J/\Ni x.R/\aP.sml x.w/\bv.sml x.a7/\cY.sml x.a
structure lG where
 b2:Int
 c3:Int
 d1:Int
 c8:Int
deriving DecidableEq,Inhabited
def lG.enc(o:fE)(x:lG):List C:=[I x.b2,I x.c3,I x.d1,I x.c8]
def lG.enc_fr(x:lG):iN (lG.enc .own x):=⟨tV1,tV1,tV1,tV1,tV1⟩
structure Qv where
 Id:Int
 k:Int
 Sum:Int
deriving DecidableEq,Inhabited
structure aS where
 Id:Int
 T:List Int
deriving DecidableEq,Inhabited
def aS.enc(o:fE)(x:aS):List C:=[I x.Id,.s o (x.T.map (rI o))]
theorem aS.enc_fz(x:aS):eJ (aS.enc .own x)=aS.enc .S x:=by simp[eJ,aS.enc,rI,<-cj,SB]
theorem aS.enc_fr(x:aS):iN (aS.enc .own x):=⟨tV1,⟨.inl ψ,bm _ _ λy _=>rR y⟩,tV1⟩
def aS.sml(x:aS):Prop:=wv x.T
def RP(o:fE)(x:List aS):List C:=[.s o (x.map (aS.enc o))]
def Kr(x:List aS):Prop:=x.length<=1048576/\∀y∈x,aS.sml y
structure aA where
 b:Int
 J:List aS
deriving DecidableEq,Inhabited
def aA.enc(o:fE)(x:aA):List C:=[I x.b,.s o (x.J.map (aS.enc o))]
def aA.enc_fz(x:aA):eJ (aA.enc .own x)=aA.enc .S x:=by simp[eJ,aA.enc,aS.enc_fz,<-cj,SB]
def Cn:type_of% @aA.enc_fz:=@aA.enc_fz
theorem aA.enc_fr(x:aA):iN (aA.enc .own x):=⟨tV1,⟨.inl ψ,bm _ _ λy _=>aS.enc_fr y⟩,tV1⟩
def aA.sml(x:aA):Prop:=Kr x.J
structure bh where
 W:ac
 b3:aA
deriving DecidableEq,Inhabited
def bh.enc(o:fE)(x:bh):List C:=[.s o (x.W.G.F.V.T.map (aF o)),.s o (x.W.G.F.V.a6.map (rB o)),.s o (x.W.G.F.O.M.map (bo.enc o)),I x.W.G.Calls,.s o (x.W.G.a3.map (rI o)),.s o (x.W.o.map (aG.enc o)),.s o (x.W.K.map (aB.enc o)),.s o (x.W.H.map (aC.enc o)),.s o (x.W.J.map (bg.enc o)),.s o (x.W.R.map (aE.enc o)),.s o (x.W.w.U.map (bP o)),.s o (x.W.w.a0.map (aF o)),I x.W.a7.b7,.s o (x.W.a7.y.map (aV.enc o)),I x.W.c0,I x.W.b1,I x.W.c1,I x.W.b,B x.W.q,I x.W.a.X.a4,I x.W.a.X.a5,.s o (x.W.a.X.T.map (rI o)),I x.W.a.b0,I x.W.a.b,I x.b3.b,.s o (x.b3.J.map (aS.enc o))]
def bh.enc_fz(x:bh):eJ (bh.enc .own x)=bh.enc .S x:=by simp[eJ,bh.enc,Cm,bo.enc_fz,aC.enc_fz,bg.enc_fz,aG.enc_fz,aS.enc_fz,aB.enc_fz,aV.enc_fz,rB,oc,rI,cR,<-cj,SB]
theorem bh.enc_fr(x:bh):iN (bh.enc .own x):=⟨⟨.inl ψ,bm _ _ λy _=>bC y⟩,⟨.inl ψ,bm _ _ λy _=>Fd y⟩,⟨.inl ψ,bm _ _ λy _=>bo.enc_fr y⟩,tV1,⟨.inl ψ,bm _ _ λy _=>rR y⟩,⟨.inl ψ,bm _ _ λy _=>aG.enc_fr y⟩,⟨.inl ψ,bm _ _ λy _=>aB.enc_fr y⟩,⟨.inl ψ,bm _ _ λy _=>aC.enc_fr y⟩,⟨.inl ψ,bm _ _ λy _=>bg.enc_fr y⟩,⟨.inl ψ,bm _ _ λy _=>Cv y⟩,⟨.inl ψ,bm _ _ λy _=>uC y⟩,⟨.inl ψ,bm _ _ λy _=>bC y⟩,tV1,⟨.inl ψ,bm _ _ λy _=>aV.enc_fr y⟩,tV1,tV1,tV1,tV1,tV1,tV1,tV1,⟨.inl ψ,bm _ _ λy _=>rR y⟩,tV1,tV1,tV1,⟨.inl ψ,bm _ _ λy _=>aS.enc_fr y⟩,tV1⟩
def bh.sml(x:bh):Prop:=ac.sml x.W/\aA.sml x.b3
structure fW where
 a1:Int
 c6:Int
 V:Int
 c9:Int
 d0:Int
 c5:Int
 b6:Int
 c7:Int
deriving DecidableEq,Inhabited
def fW.enc(o:fE)(x:fW):List C:=[I x.a1,I x.c6,I x.V,I x.c9,I x.d0,I x.c5,I x.b6,I x.c7]
def fW.enc_fr(x:fW):iN (fW.enc .own x):=⟨tV1,tV1,tV1,tV1,tV1,tV1,tV1,tV1,tV1⟩
def Lm{β:Type}{f:α->β}{l:List α}{K:Nat->Prop}(h:K l.length):Ln (l.map f).length K:=Ln.mk (I2 ..) h
def Wm{z:Int}{K:Int->Prop}(h : -9223372036854775808<=z/\z<=9223372036854775807)(a:K z):Wr .i64 z K:=CS (gf h.1 h.2) a
variable{p:Prop}
def dT[Decidable p](h:p)(a:p->X):Bf (decide p) X Y:=.D a λe=>absurd h e
def dF[Decidable p](h:¬p)(a:¬p->Y):Bf (decide p) X Y:=.D (λe=>absurd e h) a
variable{b:Int}
def nT{a:Int}(h:a≠b)(c:a≠b->X):Bf (a != b) X Y:=.N c λe=>absurd e h
def nF{a:Int}(h:a=b)(c:a=b->Y):Bf (a != b) X Y:=.N (λe=>absurd h e) c
def eT{a:Int}(h:a=b)(c:a=b->X):Bf (a == b) X Y:=.E c λe=>absurd h e
def eF{a:Int}(h:a≠b)(c:a≠b->Y):Bf (a == b) X Y:=.E (λe=>absurd e h) c
def Bn{b:Bool}(h:Bf b Y X):Bf (!b) X Y:=.not h
def Bt(h:X):Bf true X Y:=.t rfl h
def Bu(h:Y):Bf false X Y:=.f rfl h
def Fm{b:Kd}(h1:k=b)(h:cs=a):j8 k b cs a:=.mk h1 h
def dV[Decidable p](h:p)(a:X):Bf (decide p) X Y:=.D (λ_=>a) λe=>absurd h e
def dW[Decidable p](h:¬p)(a:Y):Bf (decide p) X Y:=.D (λe=>absurd e h) λ_=>a
def nV{a:Int}(h:a≠b)(c:X):Bf (a != b) X Y:=.N (λ_=>c) λe=>absurd e h
def nW{a:Int}(h:a=b)(c:Y):Bf (a != b) X Y:=.N (λe=>absurd h e) λ_=>c
def eV{a:Int}(h:a=b)(c:X):Bf (a == b) X Y:=.E (λ_=>c) λe=>absurd h e
def eW{a:Int}(h:a≠b)(c:Y):Bf (a == b) X Y:=.E (λe=>absurd e h) λ_=>c
structure Q8(Y:Prop):Prop where
 out:Y
structure σF(X Y:Prop):Prop where
def σF.rf{X:Prop}:σF X X:=⟨⟩
def gO(y:Y)(h:Q8 Y->X:=by intro y;(conv=>whnf);(first|with_reducible (first|refine Lm ?_|refine Wm ω ?_|refine Bn ?_|refine Fm rfl ?_)|refine Bt ?_|refine Bu ?_|skip);exact y.out)(_:σF X Y:=by (fail_if_success with_reducible exact σF.rf);exact ⟨⟩):X:=h ⟨y⟩
def gP(y:Y)(h:Q8 Y->X:=by intro y;(conv=>whnf);(first|with_reducible (first|refine Lm ?_|refine Wm ω ?_|refine Bn ?_|refine Fm rfl ?_)|refine Bt ?_|refine Bu ?_|refine CG (by assumption) ?_|refine CK (aa (by assumption)) ?_|refine CM rfl (aa (by assumption)) rfl ?_|refine CH ?_|refine CO (by assumption) (.inl rfl) ?_|skip);exact y.out)(_:σF X Y:=by (fail_if_success with_reducible exact σF.rf);exact ⟨⟩):X:=h ⟨y⟩
def gD(y:Y)(h:Q8 Y->X:=by intro y;(conv=>whnf);(first|with_reducible (first|refine Lm ?_|refine Wm ω ?_|refine dV ω ?_|refine dW ω ?_|refine Bn ?_|refine Fm rfl ?_)|refine Bt ?_|refine Bu ?_|skip);exact y.out)(_:σF X Y:=by (fail_if_success with_reducible exact σF.rf);exact ⟨⟩):X:=h ⟨y⟩
def gE(y:Y)(h:Q8 Y->X:=by intro y;(conv=>whnf);(first|with_reducible (first|refine Lm ?_|refine Wm ω ?_|refine dV ω ?_|refine dW ω ?_|refine Bn ?_|refine Fm rfl ?_)|refine Bt ?_|refine Bu ?_|refine CG (by assumption) ?_|refine CK (aa (by assumption)) ?_|refine CM rfl (aa (by assumption)) rfl ?_|refine CH ?_|refine CO (by assumption) (.inl rfl) ?_|skip);exact y.out)(_:σF X Y:=by (fail_if_success with_reducible exact σF.rf);exact ⟨⟩):X:=h ⟨y⟩
def gA(y:Y)(h:Q8 Y->X:=by intro y;(conv=>whnf);(first|with_reducible (first|refine Lm ?_|refine Wm ω ?_|refine dV ω ?_|refine dW ω ?_|refine nV ω ?_|refine nW ω ?_|refine eV ω ?_|refine eW ω ?_|refine Bn ?_|refine Fm rfl ?_)|refine Bt ?_|refine Bu ?_|skip);exact y.out)(_:σF X Y:=by (fail_if_success with_reducible exact σF.rf);exact ⟨⟩):X:=h ⟨y⟩
def gB(y:Y)(h:Q8 Y->X:=by intro y;(conv=>whnf);(first|with_reducible (first|refine Lm ?_|refine Wm ω ?_|refine dV ω ?_|refine dW ω ?_|refine nV ω ?_|refine nW ω ?_|refine eV ω ?_|refine eW ω ?_|refine Bn ?_|refine Fm rfl ?_)|refine Bt ?_|refine Bu ?_|refine CG (by assumption) ?_|refine CK (aa (by assumption)) ?_|refine CM rfl (aa (by assumption)) rfl ?_|refine CH ?_|refine CO (by assumption) (.inl rfl) ?_|skip);exact y.out)(_:σF X Y:=by (fail_if_success with_reducible exact σF.rf);exact ⟨⟩):X:=h ⟨y⟩
def σO(y:Y)(h:Q8 Y->X:=by intro y;(repeat' first|refine gO ?_|fail);exact y.out):X:=h ⟨y⟩
def σP(y:Y)(h:Q8 Y->X:=by intro y;(repeat' first|refine gP ?_|fail);exact y.out):X:=h ⟨y⟩
def σD(y:Y)(h:Q8 Y->X:=by intro y;(repeat' first|refine gD ?_|fail);exact y.out):X:=h ⟨y⟩
def σE(y:Y)(h:Q8 Y->X:=by intro y;(repeat' first|refine gE ?_|fail);exact y.out):X:=h ⟨y⟩
def σA(y:Y)(h:Q8 Y->X:=by intro y;(repeat' first|refine gA ?_|fail);exact y.out):X:=h ⟨y⟩
def σB(y:Y)(h:Q8 Y->X:=by intro y;(repeat' first|refine gB ?_|fail);exact y.out):X:=h ⟨y⟩
def XO{z1 z2:Int}(h:z1=z2):VF (I z1) (I z2):=by subst h;rfl
def Yk(c:C):VF c c:=(m9 [c]).1
def wA(h:X:=by repeat'(first|exact tV1|rfl|refine CV ?_ ?_)):X:=h
def wB(h:X:=by repeat'(first|exact tV1|rfl|refine CV ?_ ?_|(exact XO (by first|omega|(simp only;omega)|(simp;omega))))):X:=h
def kc(h:X:=by refine CP rfl rfl ?_;exact wB):X:=h
def wC(h:X:=by repeat'(first|exact tV1|rfl|exact Yk _|refine CV ?_ ?_|(exact XO (by first|omega|(simp only;omega)|(simp;omega))))):X:=h
def ka(h:X:=by refine CP rfl rfl ?_;exact wC):X:=h
def fO(n : Nat){a : Func}(tb : List (Nat × Nat × List Nat))(d : Tryz.prog.funcs[f]? = some a)(e : a.body = some c)(g : aw Tryz.prog TE ⟨n, [], []⟩ (DF Tryz.prog TE ⟨n, [], []⟩ tb) c (WS TE a.results.toList k rcs) (lay (zf 0 A)))(b : sh = true \/ iN rcs := by exact .inr ⟨tV1, trivial⟩)(h : (a.name == "runtime.NumGoroutine") = false := by kernel_rfl)(i : iG (rh tb) c = true := by kernel_rfl)(j : A.length + (a.ntmps - A.length) = n := by rfl) : zzA f sh A k rcs := YD d h e i j b g
def fP(n : Nat){a : Func}(mo : List (Nat × List Nat))(tb : List (Nat × Nat × List Nat))(d : Tryz.prog.funcs[f]? = some a)(e : a.body = some c)(g : aw Tryz.prog TE ⟨n, [], mo⟩ (DF Tryz.prog TE ⟨n, [], mo⟩ tb) c (WS TE a.results.toList k rcs) (lay (zf 0 A)))(b : sh = true \/ iN rcs := by exact .inr ⟨tV1, trivial⟩)(h : (a.name == "runtime.NumGoroutine") = false := by kernel_rfl)(i : iG (rh tb) c = true := by kernel_rfl)(j : A.length + (a.ntmps - A.length) = n := by rfl) : zzA f sh A k rcs := YD d h e i j b g
def fM(n : Nat){a : Func}{A B : List MA}(mo : List (Nat × List Nat))(tb : List (Nat × Nat × List Nat))(b : List (Nat × Nat))(g : Tryz.prog.funcs[f]? = some a)(h : a.body = some c)(i : ∀(u : Nat -> Nat -> Value)(p : Nat -> Value), aw Tryz.prog TE ⟨n, P0 p 0 A, mo⟩ (DF Tryz.prog TE ⟨n, P0 p 0 A, mo⟩ tb) c (Ys TE a.results.toList k rcs u A B b) (lay (Bl u 0 A)))(d : sh = true \/ iN rcs := by exact .inr ⟨tV1, trivial⟩)(j : (a.name == "runtime.NumGoroutine") = false := by kernel_rfl)(l : iG (rh tb) c = true := by kernel_rfl)(o : A.length + (a.ntmps - A.length) = n := by rfl)(e : NX (Mj 0 A b) = true := by rfl) : zzB f sh A B k rcs := YK b g j h l o e d i
abbrev fI(z:Int):AV:=.Z .one [I z]
abbrev fN(n:Nat):AV:=.Z .one [I n]
abbrev fB(b:Bool):AV:=.Z .one [B b]
abbrev bJ(cs:List C):AV:=.Z .one cs
abbrev bB(cs:List C):AV:=.Z .box cs
abbrev RA.vI(z:Int):RA:=.val none [I z]
abbrev MA.vI(z:Int):MA:=.val none [I z]
def bZ{a b:Bool}(h:a=b):[B a]=[B b]:=h ▸ rfl
def nO{a:Int}(h:a=b):[I a]=[I b]:=h ▸ rfl
class Sp (b:Bool) (p q:outParam Prop):Prop where
 f:(b=true->p)/\(b=false->q)
instance {p:Prop} [Decidable p]:Sp (decide p) p (¬p):=⟨of_decide_eq_true,of_decide_eq_false⟩
instance {a b:Int}:Sp (a==b) (a=b) (a≠b):=⟨by simp,by simp⟩
instance {a b:Int}:Sp (a != b) (a≠b) (a=b):=⟨by simp,by simp⟩
instance {a b:Bool}:Sp (a != b) (a≠b) (a=b):=⟨by simp,by simp⟩
def gS{b:Bool}{q:Prop}[s:Sp b p q](h1:p->X)(h2:q->Y):Bf b X Y:=.P (λh=>h1 (s.f.1 h)) (λh=>h2 (s.f.2 h))
theorem cV{ι : Type}{L : ι -> List (Nat × AV)}{inv : ι -> Prop}{μ : ι -> Nat}{i : ι}{F : Nat -> AV}(a : ι)(h1 : inv a)(h2 : μ a < μ i := by first|omega|(simp only;omega)|(simp;omega)|grind)(b : Wk F (L a) := by exact wC) : Nx ι L inv μ i F := .mk a h1 h2 b
section
variable{body : (Exit -> (Nat -> AV) -> Prop) -> (Nat -> AV) -> Prop}{Q : Exit -> (Nat -> AV) -> Prop}{F : Nat -> AV}
def mD{ι : Type}(L : ι -> List (Nat × AV))(inv : ι -> Prop)(μ : ι -> Nat)(a : ι)(h1 : inv a)(h2 : ∀i, inv i -> body (Xt (Nx ι L inv μ i) Q) (lay (L i)))(b : Wk F (L a) := by exact wC) : Lp body Q F := .mk L inv μ a b h1 h2
def lp0(n : Nat)(L : Nat -> List (Nat × AV))(h2 : ∀i, i <= n -> body (Xt (Nx Nat L (λi => i <= n) (λi => n - i) i) Q) (lay (L i)))(a : Wk F (L 0) := by exact wC) : Lp body Q F := .mk L (λi => i <= n) (λi => n - i) 0 a (I1 _) h2
def gK(n : Nat)(L : Nat -> List (Nat × AV))(I : Nat -> Prop)(h1 : I 0)(h2 : ∀i, i <= n /\ I i -> body (Xt (Nx Nat L (λi => i <= n /\ I i) (λi => n - i) i) Q) (lay (L i)))(a : Wk F (L 0) := by exact wC) : Lp body Q F := .mk L (λi => i <= n /\ I i) (λi => n - i) 0 a ⟨I1 _, h1⟩ h2
end
def wD(h:X:=by repeat'(first|exact tV1|rfl|exact CV rfl (CV (O1 (Ab.C.s fE.own) (by simp[rI])) tV1)|refine CV ?_ ?_)):X:=h
def wR(h:X:=by repeat'(first|exact tV1|rfl|exact CV rfl (CV (O1 (Ab.C.s fE.own) (by simp[aG.enc])) tV1)|refine CV ?_ ?_)):X:=h
def Zs{c a:C}(h:a=c):VF c a:=h ▸ Yk _
def wE(h:X:=by repeat'(first|exact tV1|rfl|exact Zs (by assumption)|exact Yk _|refine CV ?_ ?_|(exact XO (by first|omega|(simp only;omega)|(simp;omega))))):X:=h
end Go.Proofs.YtiopgblagimpmaaGreat.Ab
