/- A region that draws its order may be run in the text's order, where its operations are apart. No condition. -/
import Derived.Test.YtiopgblagimpmaaGreatKrb
import Derived.Orders
import Derived.Test.YtiopgblagimpmaaGreatKra
import Derived.KernelRfl
import Derived.Test.YtiopgblagimpmaaGreatProg
set_option linter.unusedVariables false
set_option linter.defProp false
set_option linter.unusedSimpArgs false
set_option linter.constructorNameAsVariable false
namespace Go.Proofs.YtiopgblagimpmaaGreat.Ab
open Go.RowKit
def dl(o:Oper)(i:Nat):Bool:=o.after.toList.any λe=>Region.binds .any e&&Nat.beq e.on i
def d9(ops:Array Oper)(i:Nat):Oper:=ops.getD i default
def below(n:Nat)(p:Nat->Bool):Bool:=(List.range n).all p
def vq(ops:Array Oper)(i j:Nat):Bool:=match(d9 ops i).dst with|some d=>((d9 ops j).looksAt ops).any (Nat.beq d)|none=>false
def Hh:List Nat->Nat
 | []=>0
 | k::a=>2 ^ k ||| Hh a
def ons(o:Oper):List Nat:=(o.after.toList.filter λe=>Region.binds .any e).map (·.on)
variable{α:Type}
def frc(n:Nat)(K:Nat->α):α:=match n with|0=>K 0|n+1=>K (n+1)
def Pi(n:Nat)(K:Nat->α):frc n K=K n:=by cases n<;>rfl
def clo(ops:Array Oper):Nat->Nat->Nat
 | 0,S=>S
 | k+1,S=>bif S.testBit k then frc (S ||| Hh (ons (d9 ops k))) (clo ops k) else clo ops k S
def Dw(ops:Array Oper)(m:Nat):Bool:=
 below ops.size λj=>((d9 ops j).after.toList.all λe=>!Region.binds .any e || Nat.blt e.on j) &&
  (bif Nat.blt j m then below m (λi=>Nat.beq i j || ((dl (d9 ops j) i || dl (d9 ops i) j || (d9 ops i).apart ops (d9 ops j))&&(!vq ops i j || dl (d9 ops j) i))) else frc (clo ops j (Hh (ons (d9 ops j)))) λS=>below j λi=>S.testBit i)
def yB:List (Nat × Nat × List Nat)->Nat->Option (Nat × List Nat)
 | [],_=>none
 | p::l,id=>bif Nat.beq id p.1 then some p.2 else yB l id
def ig(P:Program)(TE:Nat->Option TI)(N:fy)(ops:Array Oper)(o:Oper)(K:(Nat->AV)->Prop)(F:Nat->AV):Prop:=
 gc F ops o.guard (λF=>match o.dst with|some d=>dw P TE F o.op λa=>bR N F d a K|none=>False)
  (λF=>match o.dst with|some d=>bR N F d (.H (.tup []) []) K|none=>False)
def oy:Op->Option (Option Nat × Nat)
 | .buildSlice T 1 ps=>(match ps.toList with|[(0,.tmp s)]=>some (some T,s)|_=>none)
 | .move (.tmp s)=>some (none,s)
 | _=>none
def own1(T:Option Nat)(k:Kd)(cs:List C):Bool:=match T with
 | some _=>(match k with
   | .one=>(match cs with|[c]=>eG c|_=>false)
   | .agg=>(match cs with|[c]=>eG c|_=>false)
   | _=>false)
 | none=>(match k with|.tup _=>!bk cs|_=>false)
def TS(TE:Nat->Option TI)(N:fy)(F:Nat->AV)(d:Nat)(T:Option Nat)(s:Nat)(K:(Nat->AV)->Prop):Prop:=match T with
 | some T=>gz TE N F d T 1 [(0,.tmp s)] K
 | none=>jy N F d (.tmp s) K
def KI(F:Nat->AV)(o:Oper):Option (Option Nat × Nat):=
 match o.guard with
 | some _=>none
 | none=>match oy o.op with
  | none=>none
  | some p=>match F p.2 with
   | .H k cs=>bif own1 p.1 k cs then some p else none
   | .dead=>none
   | .ref ..=>none
   | .c1 ..=>none
   | .iref ..=>none
   | .fn ..=>none
   | .fv _=>none
def jF(ops:Array Oper)(o:Oper)(s:Nat):Bool:=
 ((List.range ops.size).any λk=>dl o k&&(match(d9 ops k).dst with|some a=>Nat.beq a s|none=>false))&&Nat.ble (ops.toList.filter λk=>(k.looksAt ops).any (Nat.beq s)).length 1
def qF(ds:List Nat)(o:Oper):Bool:=match o.dst with|some d=>ds.any (Nat.beq d)|none=>false
def twk:List Nat->List Nat
 | []=>[]
 | e::l=>bif Nat.ble 1000 e then(e - 1000)::twk l else []
def dec:List Nat->List (Nat × List Nat)
 | []=>[]
 | e::l=>bif Nat.ble 1000 e then dec l else(e,twk l)::dec l
def Tb:Op->Bool
 | .move (.tmp _)=>true
 | .assign _=>true
 | .extract ..=>true
 | .build ..=>true
 | .buildSlice ..=>true
 | .store ..=>true
 | .load ..=>true
 | .fieldAddr ..=>true
 | .field ..=>true
 | .binOp ..=>true
 | .unOp ..=>true
 | .call c=>(rj c).isSome
 | .slice _ _ none (some _) none=>true
 | _=>false
def p7:Op->Bool
 | .call c=>(match c.callee with|.value (.func _)=>true|_=>false)
 | _=>false
def xl(l:List (Nat × List Nat))(i:Nat):Bool:=l.any λp=>Nat.beq p.1 i
def wt(ops:Array Oper)(j i:Nat):Bool:=(clo ops j (Hh (ons (d9 ops j)))).testBit i
def Ub(o:Oper):Bool:=match o.guard with|none=>true|some _=>false
def UD(sch:List (Nat × List Nat))(i:Nat):Bool:=sch.any λp=>Nat.beq p.1 i&&!p.2.isEmpty
def U1(ops:Array Oper)(a b:Oper)(nm:Bool):Bool:=match b.dst with
 | none=>false
 | some c=>Ub a&&(Tb a.op || p7 a.op)&&!(match a.dst with|some d=>Nat.beq d c|none=>false)&&!(a.looksAt ops).any (Nat.beq c)&&Ub b&&!(b.looksAt ops).any (Nat.beq c)&&(nm || match oy b.op with|none=>true|some p=>!jF ops b p.2)
def B3(ops:Array Oper)(ds:List Nat)(nm:Nat->Bool)(i j:Nat):Bool:=
 bif qF ds (d9 ops j) then(bif qF ds (d9 ops i) then(dl (d9 ops j) i || dl (d9 ops i) j || (d9 ops i).apart ops (d9 ops j))&&(!vq ops i j || dl (d9 ops j) i)&&!(match(d9 ops i).dst with|some d=>(match(d9 ops j).dst with|some e=>Nat.beq d e|none=>false)|none=>false) else true)
 else(bif qF ds (d9 ops i) then(wt ops j i || wt ops i j || U1 ops (d9 ops j) (d9 ops i) (nm i))&&(!vq ops i j || dl (d9 ops j) i) else true)
def Fw(ops:Array Oper)(ds:List Nat):List (Nat × List Nat)->Bool
 | []=>true
 | k::l=>Nat.blt k.1 ops.size&&!xl l k.1&&((d9 ops k.1).after.toList.all λe=>!Region.binds .any e || !(Nat.beq k.1 e.on || xl l e.on)) &&
  (qF ds (d9 ops k.1) || ((l.all λj=>wt ops j.1 k.1)&&(below ops.size λp=>!qF ds (d9 ops p) || xl l p || wt ops k.1 p || k.2.any (Nat.beq p))&&(!(l.any λj=>qF ds (d9 ops j.1)) || (Ub (d9 ops k.1)&&(Tb (d9 ops k.1).op || p7 (d9 ops k.1).op)))))&&Fw ops ds l
def E7(ops:Array Oper)(ds:List Nat)(sch:List (Nat × List Nat)):Bool:=
 (below ops.size λj=>((d9 ops j).after.toList.all λe=>!Region.binds .any e || Nat.blt e.on j)&&xl sch j&&(!qF ds (d9 ops j) || (match oy (d9 ops j).op with|none=>true|some p=>!jF ops (d9 ops j) p.2 || ds.any (Nat.beq p.2)))&&below ops.size λi=>Nat.beq i j || B3 ops ds (UD sch) i j)&&Nat.beq sch.length ops.size&&Fw ops ds sch
def mR(tb:List (Nat × Nat × List Nat))(id:Nat)(ops:Array Oper):Bool:=
 match yB tb id with
 | some (m,ds)=>bif Nat.ble 65536 m then true else bif Nat.ble 256 m then E7 ops (ds.take (m - 256)) (dec (ds.drop (m - 256))) else(Nat.ble m ops.size&&below m λj=>match(d9 ops j).dst with|some d=>ds.any (Nat.beq d)|none=>true)&&Dw ops m
 | none=>false
def lV(P:Program)(TE:Nat->Option TI)(N:fy)(ops:Array Oper)(o:Oper)(K:(Nat->AV)->Prop)(F:Nat->AV):Prop:=
 match KI F o with
 | some p=>(match o.dst with|some d=>bif jF ops o p.2 then TS TE N F d p.1 p.2 K else False|none=>False)
 | none=>ig P TE N ops o K F
def NW(P:Program)(TE:Nat->Option TI)(N:fy)(ops:Array Oper):Nat->List Oper->((Nat->AV)->Prop)->(Nat->AV)->Prop
 | 0,l,K,F=>My P TE N ops l K F
 | _+1,[],K,F=>K F
 | m+1,o::l,K,F=>lV P TE N ops o (NW P TE N ops m l K) F
def RJ(ds:List Nat)(t:Nat):Bool:=ds.any (Nat.beq t)
def UI(ds:List Nat):AV->AV
 | .ref t off st=>bif RJ ds t then .dead else .ref t off st
 | .c1 t off st ag=>bif RJ ds t then .dead else .c1 t off st ag
 | .fn f caps=>bif caps.any (RJ ds) then .dead else .fn f caps
 | .H k cs=>.H k cs
 | .iref r off=>.iref r off
 | .fv Ok=>.fv Ok
 | .dead=>.dead
def clr(ds:List Nat)(F:Nat->AV):Nat->AV:=λt=>UI ds (F t)
theorem E8(ds:List Nat)(F:Nat->AV)(t:Nat):clr ds F t=bif ds.any (λd=>(F t).uses d) then .dead else F t:=by
 unfold clr;cases F t with
 | dead=>cases ds.any λd=>AV.uses d .dead<;>rfl
 | H k i=>
  have:ds.any (λd=>(AV.H k i).uses d)=false:=by
   rw[<-X6,X4]
   rintro⟨d,_,h⟩
   cases h
  rw[this];rfl
 | iref r a=>
  have:ds.any (λd=>(AV.iref r a).uses d)=false:=by
   rw[<-X6,X4]
   rintro⟨d,_,h⟩
   cases h
  rw[this];rfl
 | fv Ok=>
  have:ds.any (λd=>(AV.fv Ok).uses d)=false:=by
   rw[<-X6,X4]
   rintro⟨d,_,h⟩
   cases h
  rw[this];rfl
 | ref j a l=>rfl
 | c1 j a l n=>rfl
 | fn f caps=>
  have:ds.any (λd=>(AV.fn f caps).uses d)=caps.any (RJ ds):=by
   rw[Z5,X4,X4];constructor
   ·rintro⟨d,b,h⟩
    simp only[AV.uses,X4]at h;obtain⟨c,e,g⟩:=h;exact⟨c,e,X4.2 ⟨d,b,g⟩⟩
   rintro⟨c,e,h⟩
   obtain⟨d,b,g⟩:=X4.1 h
   grind [AV.uses]
  rw[this];rfl
inductive Sm(a b:AV)(K:Prop):Prop
 |mk_ (h:a=b/\K)
def Sm.rf{a:AV}{K:Prop}(h:K):Sm a a K:=.mk_ ⟨rfl,h⟩
def CC:type_of% @Sm.rf:=@Sm.rf
def Sm.out{a b:AV}{K:Prop}(h:Sm a b K):a=b/\K:=h.1
def Ul(P:Program)(TE:Nat->Option TI)(ops:Array Oper)(p:Nat)(K:Prop)(F:Nat->AV):Prop:=
 match(d9 ops p).dst with
 | none=>False
 | some d=>(match KI F (d9 ops p) with
   | some _=>False
   | none=>dw P TE F (d9 ops p).op λa=>Sm a (F d) K)
def Pf(P:Program)(TE:Nat->Option TI)(ops:Array Oper):List Nat->Prop->(Nat->AV)->Prop
 | [],K,_=>K
 | p::l,K,F=>Ul P TE ops p (Pf P TE ops l K F) F
def MK(P:Program)(TE:Nat->Option TI)(N:fy)(ops:Array Oper)(nm:Bool)(o:Oper)(K:(Nat->AV)->Prop)(F:Nat->AV):Prop:=
 match nm with
 | false=>lV P TE N ops o K F
 | true=>(match KI F o with
   | some _=>False
   | none=>ig P TE N ops o K F)
def Lk(P:Program)(TE:Nat->Option TI)(N:fy)(ops:Array Oper)(ds:List Nat)(nm:Nat->Bool):List (Nat × List Nat)->((Nat->AV)->Prop)->(Nat->AV)->Prop
 | [],K,F=>K F
 | k::l,K,F=>bif qF ds (d9 ops k.1) then MK P TE N ops (nm k.1) (d9 ops k.1) (Lk P TE N ops ds nm l K) F else jw P TE N ops (d9 ops k.1) (λa=>Pf P TE ops k.2 (Lk P TE N ops ds nm l K a) a) F
def Rv:List Nat->(List Nat->Prop)->Prop
 | [],K=>K []
 | a::l,K=>Rv l λb=>K (a::b)
def Kr:∀(l:List Nat)(K:List Nat->Prop),Rv l K=K l
 | [],_=>rfl
 | a::l,K=>by rw[Rv,Kr l]
def Ed(l:List Nat)(j:Nat):Bool:=l.any (Nat.beq j)
def N3(ops:Array Oper)(done:List Nat):List Nat:=(List.range ops.size).filter λj=>!Ed done j&&((d9 ops j).after.toList.all λe=>!Region.binds .any e || Ed done e.on)
def UQ(p:Nat->Prop):Nat->List Nat->Prop
 | i,[]=>p i
 | i,j::l=>p i/\UQ p j l
def UM(l:List Nat)(K:Prop)(p:Nat->Prop):Prop:=match l with
 | []=>K
 | i::l=>UQ p i l
def Te(P:Program)(TE:Nat->Option TI)(N:fy)(ops:Array Oper)(K:(Nat->AV)->Prop):Nat->List Nat->(Nat->AV)->Prop
 | 0,done,F=>UM (N3 ops done) (K F) λ_=>False
 | n+1,done,F=>UM (N3 ops done) (K F) λi=>jw P TE N ops (d9 ops i) (Te P TE N ops K n (i::done)) F
def DD(P:Program)(TE:Nat->Option TI)(N:fy)(tb:List (Nat × Nat × List Nat))(id:Nat)(ops:Array Oper)(K:(Nat->AV)->Prop)(F:Nat->AV):Prop:=
 match yB tb id with
 | some (m,ds)=>bif Nat.ble 65536 m then Te P TE N ops K ops.size [] F else bif Nat.ble 256 m then Rv (ds.take (m - 256)) λa=>Lk P TE N ops a (UD (dec (ds.drop (m - 256)))) (dec (ds.drop (m - 256))) K (clr a F) else NW P TE N ops m ops.toList K (clr ds F)
 | none=>False
variable{i n:Nat}
theorem gU{p:Nat->Bool}(h:below n p=true)(a:i<n):p i=true:=Y4.1 h i ψ
theorem cx{o:Oper} : dl o i=true↔∃e,e∈o.after/\Region.binds .any e=true/\e.on=i:=by grind [W2,Nat.beq_refl,dl]
theorem bx{ops:Array Oper}{o:Oper}(h:ops[i]? = some o):d9 ops i=o:=by simp[d9,Z7,h]
section
variable{P:Program}{w0 w w1:World}{M S0 S:ah}{N:fy}{φ:Nat->ah}{F:Nat->AV}{a:Act}{TE:Nat->Option TI}{ops:Array Oper}
variable{d:Nat}
theorem BT{b:Bool}(a:F d=.H .one [.v (.bool b)]):G1 F d b=F:=by grind [W2,G1]
theorem iV(o:Oper)(t:Nat)(h:t∈dE o.op):t∈o.looksAt ops:=by grind [Go.Oper.looksAt,dE,tm]
structure UN(P:Program)(TE:Nat->Option TI)(N:fy)(ops:Array Oper)(o:Oper)(F:Nat->AV)(d:Nat)(av:AV):Prop where
 dst:o.dst=some d
 lt:N.free d=true
 self:av.uses d=false
 from_:eI F (o.looksAt ops) av
 at_:∀F':Nat->AV,i6 F F' (o.looksAt ops)->∀K':(Nat->AV)->Prop,K' (put F' d av)->ig P TE N ops o K' F'
def i6.refl(F:Nat->AV)(ts:List Nat):i6 F F ts:=λ_ _=>⟨rfl,λ_ _ _ _ h=>h⟩
theorem Ce:type_of% @i6.refl:=@i6.refl
variable{K:(Nat->AV)->Prop}{o:Oper}
theorem xS(h:ig P TE N ops o K F):∃d av,UN P TE N ops o F d av/\K (put F d av):=by
 cases e:o.dst with
 | none=>
  exfalso;unfold ig at h;rw[e]at h;unfold gc at h
  grind [Bf.out]
 | some d=>
  have put1:∀{a:Nat->AV}{av:AV}{c:(Nat->AV)->Prop},N.free d=true->av.uses d=false->c (put a d av)->bR N a d av c:=λA B E=>by grind [bR]
  have put2:∀{a:Nat->AV}{av:AV}{c:(Nat->AV)->Prop},bR N a d av c->N.free d=true/\av.uses d=false/\c (put a d av):=fun {a av c} n=>by grind [bR]
  have pure1:dw P TE F o.op (λav=>bR N F d av K)->∃av,N.free d=true/\av.uses d=false/\K (put F d av)/\eI F (o.looksAt ops) av/\∀a:Nat->AV,i6 F a (o.looksAt ops)->∀c:(Nat->AV)->Prop,c (put a d av)->dw P TE a o.op (λav=>bR N a d av c):=λn=>by
   obtain⟨av,A,B,E⟩:=kr n
   grind [eI.mono,iV,i6.mono]
  unfold ig at h;rw[e]at h;unfold gc at h;cases r:o.guard with
  | none=>
   rw[r]at h;obtain⟨av,i,k,l,w,C⟩:=pure1 h;exact⟨d,av,⟨e,i,k,w,λa f c t=>by unfold ig gc;simp_all⟩,l⟩
  | some p=>
   obtain⟨j,want⟩:=p;rw[r]at h;simp only at h;cases y:(ops[j]?).bind (·.dst) with
   | none=>grind
   | some u=>
    rw[y]at h;simp only at h;have q:u∈o.looksAt ops:=by grind [Go.Oper.looksAt]
    split at h
    case h_3=>exact h.elim
    case h_2=>
     rename_i J L g;obtain⟨i,k,l⟩:=put2 h;refine⟨d,.H (.tup []) [],⟨e,i,k,(λd e=>by cases e),λa f c t=>?_⟩,l⟩;unfold ig gc;rw[r,e];simp only;rw[y];simp only;rw[(f u q).1.trans g];exact put1 i k t
    rename_i b g;have same:∀{a:Nat->AV},i6 F a (o.looksAt ops)->a u=.H .one [.v (.bool b)]:=λf=>(f u q).1.trans g
    have back:∀{a:Nat->AV}{c:(Nat->AV)->Prop},i6 F a (o.looksAt ops)->(b=want->dw P TE a o.op (λav=>bR N a d av c))->(b = !want->bR N a d (.H (.tup []) []) c)->ig P TE N ops o c a:=fun {a c} f A B=>by
     unfold ig gc;rw[r,e];simp only;rw[y];simp only;rw[same f];simp only;refine Bf.P (λG=>?_) (λG=>?_)
     all_goals grind [BT]
    have D:=BT g;replace h:=Bf.out h;by_cases H:b=want
    ·have n:dw P TE F o.op (λav=>bR N F d av K):=ψ
     obtain⟨av,i,k,l,w,C⟩:=pure1 n;exact⟨d,av,⟨e,i,k,w,λa f c t=>back f (λ_=>C a f c t) ψ⟩,l⟩
    have n:bR N F d (.H (.tup []) []) K:=ψ
    obtain⟨i,k,l⟩:=put2 n;exact⟨d,.H (.tup []) [],⟨e,i,k,(λd e=>by cases e),ψ⟩,l⟩
def aft:AV->AV
 | .H k a=>.H k (splice a 0 (List.replicate a.length .x))
 | _=>.H .one [.x]
theorem Nm(v:AV)(e:Nat):(aft v).uses e=false:=by unfold aft;split<;>rfl
def eff(a:Option Nat)(d:Nat)(av:AV)(F:Nat->AV):Nat->AV:=λt=>if t=d then av else if a=some t then aft (F t) else F t
theorem E0(av:AV)(a:∀t,(F t).uses d=false):put F d av=eff none d av F:=by grind [pJ,jb,BP,eff]
variable{s:Nat}
theorem TF{v:AV}(h:v.uses s=false):sM s v=v:=by
 cases v with
 | c1 t a b c=>grind [AV.uses,sM]
 | ref t a b=>simp only[AV.uses]at h;cases b<;>simp[sM,h]
 | _=>rfl
theorem MU{k:Kd}{cs:List C}(av:AV)(a:F s=.H k cs)(c:∀t,(F t).uses d=false)(e:∀t,(F t).uses s=false):put (updH F s k (splice cs 0 (List.replicate cs.length .x))) d av=eff (some s) d av F:=by
 funext t
 unfold eff;by_cases h:t=d
 ·grind [pJ]
 rw[jb _ _ h,CB h];by_cases b:t=s
 ·subst b;rw[iW,CD rfl,a];rfl
 grind [Nat.beq_eq,TF,BP,updH]
theorem HZ{T:Nat}{k:Kd}{c:C}(o:k=.one\/k=.agg)(p:F s=.H k [c])(q:eG c=true)(h:gz TE N F d T 1 [(0,.tmp s)] K) :
  ∃av,N.free d=true/\(∀e,av.uses e=false)/\K (put (updH F s k [.x]) d av)/\∀(F':Nat->AV)(b:(Nat->AV)->Prop),F' s=.H k [c]->b (put (updH F' s k [.x]) d av)->gz TE N F' d T 1 [(0,.tmp s)] b:=by
 have key:∀F':Nat->AV,F' s=.H k [c]->∀b:(Nat->AV)->Prop,gz TE N F' d T 1 [(0,.tmp s)] b=HO TE T λ_ a=>bif Nat.ble (1*a.size) 16777216 then(bif Nat.beq 1 a.size&&Nat.ble (0*a.size+a.size) (rep a.zero 1).length then bR N (updH F' s k [.x]) d (.H .one [.s .own (chunk a.size 1 (splice (rep a.zero 1) (0*a.size) [c]))]) b else False) else False:=by
  intro F' f b;unfold gz
  congr 1
  funext e a
  rcases o with rfl|rfl<;>simp only[dz,fillW,UL,vR,nz,f,iS,bk,q,cond_true,cond_false,ib,pk,List.length_singleton,List.replicate]
  all_goals rfl
 rw[key F p]at h;obtain⟨e,a,g,n⟩:=iN h;cases i:Nat.ble (1*a.size) 16777216 with
 | false=>grind
 | true=>
  cases j:(Nat.beq 1 a.size&&Nat.ble (0*a.size+a.size) (rep a.zero 1).length) with
  | false=>grind
  | true=>
   rw[i,j]at g;simp only[cond_true]at g;unfold bR at g;cases l:N.free d with
   | false=>grind
   | true=>
    rw[l]at g;refine⟨_,rfl,λ_=>rfl,g,λF' b f r=>?_⟩
    grind [bR]
variable{T:Option Nat}
theorem TP{k:Kd}{cs:List C}(j:F s=.H k cs)(l:own1 T k cs=true)(h:TS TE N F d T s K) :
  ∃av,N.free d=true/\(∀e,av.uses e=false)/\K (put (updH F s k (splice cs 0 (List.replicate cs.length .x))) d av)/\∀(F':Nat->AV)(a:(Nat->AV)->Prop),F' s=.H k cs->a (put (updH F' s k (splice cs 0 (List.replicate cs.length .x))) d av)->TS TE N F' d T s a:=by
 cases T with
 | some T=>
  have f:(k=.one\/k=.agg)/\∃c,cs=[c]/\eG c=true:=by
   unfold own1 at l
   grind
  obtain⟨n,c,rfl,o⟩:=f;exact HZ n j o h
 | none=>
  have f:∃b,k=.tup b/\bk cs=false:=by
   unfold own1 at l
   grind
  obtain⟨b,rfl,p⟩:=f;have key:∀F':Nat->AV,F' s=.H (.tup b) cs->∀a,TS TE N F' d none s a=bR N (updH F' s (.tup b) (splice cs 0 (List.replicate cs.length .x))) d (.H (.tup b) cs) a:=λF' g a=>by grind [TS,jy]
  rw[key F j]at h;unfold bR at h;cases i:N.free d with
  | false=>grind
  | true=>
   rw[i]at h;refine⟨_,rfl,λ_=>rfl,h,λF' a g q=>?_⟩
   grind [bR]
structure Yl(P:Program)(TE:Nat->Option TI)(N:fy)(ops:Array Oper)(o:Oper)(F:Nat->AV)(mv:Option Nat)(d:Nat)(av:AV):Prop where
 dst:o.dst=some d
 lt:N.free d=true
 self:av.uses d=false
 from_:eI F (o.looksAt ops) av
 mvl:∀s,mv=some s->o.guard=none/\(∃T,oy o.op=some (T,s))/\jF ops o s=true
 at_:∀F':Nat->AV,i6 F F' (o.looksAt ops)->(∀t,(F' t).uses d=false)->(∀s,mv=some s->∀t,(F' t).uses s=false)->∀K':(Nat->AV)->Prop,K' (eff mv d av F')->lV P TE N ops o K' F'
theorem JZ{o:Op}(h:oy o=some (T,s)):(∃a ps,T=some a/\o=.buildSlice a 1 ps/\ps.toList=[(0,.tmp s)])\/(T=none/\o=.move (.tmp s)):=by
 unfold oy at h
 grind
theorem df(h:oy o.op=some (T,s)):s∈o.looksAt ops:=by
 refine iV o s ?_;unfold dE;refine List.mem_flatMap.2 ⟨.tmp s,?_,by simp[tm]⟩
 grind [JZ,Go.Op.operands]
theorem G7{p:Option Nat × Nat}(h:KI F o=some p):o.guard=none/\oy o.op=some p/\∃k cs,F p.2=.H k cs/\own1 p.1 k cs=true:=by grind [KI]
theorem xa{F':Nat->AV}(a:i6 F F' (o.looksAt ops)):KI F' o=KI F o:=by
 unfold KI;cases c:o.guard with
 | some _=>rfl
 | none=>
  cases b:oy o.op with
  | none=>rfl
  | some p=>simp only;rw[(a p.2 (df b)).1]
theorem sw(c:KI F o=none)(h:ig P TE N ops o K F)(e:∀d,o.dst=some d->∀t,(F t).uses d=false):∃d av,Yl P TE N ops o F none d av/\K (eff none d av F):=by
 obtain⟨d,av,a,f⟩:=xS h;refine⟨d,av,⟨a.dst,a.lt,a.self,a.from_,ψ,λg i j _ k b=>?_⟩,by grind [E0,UN.dst]⟩
 grind [xa,UN.at_,E0,lV]
theorem qk(h:lV P TE N ops o K F)(E:∀d,o.dst=some d->∀t,(F t).uses d=false)(y:∀T s,o.guard=none->oy o.op=some (T,s)->jF ops o s=true->∀t,(F t).uses s=false) :
  ∃r d av,Yl P TE N ops o F r d av/\K (eff r d av F):=by
 unfold lV at h;cases f:KI F o with
 | none=>
  grind [sw]
 | some p=>
  rw[f]at h;obtain⟨G,a,k,H,g,b⟩:=G7 f;simp only at h;cases i:o.dst with
  | none=>grind
  | some d=>
   rw[i]at h;simp only at h;cases c:jF ops o p.2 with
   | false=>grind
   | true=>
    rw[c]at h;simp only[cond_true]at h;obtain⟨av,A,u,J,B⟩:=TP g b h;refine⟨some p.2,d,av,⟨i,A,u d,λe w=>(by rw[u e]at w;cases w),λs y=>?_,λC j l n D q=>?_⟩,?_⟩
    ·grind
    ·unfold lV
     rw[xa j,f];simp only;rw[i];simp only;rw[c];refine B C D ((j p.2 (df a)).1.trans g) ?_;rw[MU av ((j p.2 (df a)).1.trans g) l (n p.2 rfl)];exact q
    grind [MU]
theorem L8{nm:Bool}(h:MK P TE N ops nm o K F)(b:∀d,o.dst=some d->∀t,(F t).uses d=false)(c:∀T s,o.guard=none->oy o.op=some (T,s)->jF ops o s=true->∀t,(F t).uses s=false) :
  ∃a d av,Yl P TE N ops o F a d av/\K (eff a d av F)/\(nm=true->a=none):=by
 unfold MK at h
 grind [qk,sw]
end
section
variable{P:Program}{w0 w w1:World}{M S0 S:ah}{N:fy}{φ:Nat->ah}{F:Nat->AV}{a:Act}{TE:Nat->Option TI}{ops:Array Oper}
def xj(P:Program)(TE:Nat->Option TI)(N:fy)(ops:Array Oper)(m i:Nat)(K:(Nat->AV)->Prop)(F:Nat->AV):Prop:=
 match ops[i]? with
 | none=>K F
 | some o=>if i<m then lV P TE N ops o K F else jw P TE N ops o K F
def Jv(P:Program)(TE:Nat->Option TI)(N:fy)(ops:Array Oper)(m:Nat)(K:(Nat->AV)->Prop):Nat->Array Bool->(Nat->AV)->Prop
 | 0,listed,F=>Region.ready .any ops listed=[]/\K F
 | fuel+1,listed,F=>(Region.ready .any ops listed=[]->K F)/\∀i,i∈Region.ready .any ops listed->xj P TE N ops m i (Jv P TE N ops m K fuel (listed.setIfInBounds i true)) F
variable{Q:Exit->Act->World->Prop}{Kc:Act->World->Prop}{K:(Nat->AV)->Prop}{o:Oper}
theorem aZ.oneP0(h:aZ w0 M S0 N S φ F a w)(c:∀t i,TE t=some i->bP P t i)(b:ig P TE N ops o K F)(p:∀F' j e,K F'->St w0 M S0 N F' j e->Kc j e) :
  if Region.wanted o (yielded ops a.tmps) then o.wp P a w Kc Q else Kc (a.put o.dst undef) w:=by
 unfold ig at b;rcases y1 h b with⟨f,b⟩|⟨f,b⟩
 ·rw[f,CD rfl]
  cases g:o.dst with
  | none=>grind
  | some d=>
   rw[g]at b;obtain⟨av,k,l⟩:=h.pure_ c b;refine l Kc Q λv e q=>?_
   grind [aZ.putD_new]
 rw[f,CB (by simp)];cases g:o.dst with
 | none=>grind
 | some d=>
  rw[g]at b;obtain⟨F',k,n⟩:=h.putD_new (v:=undef) (me.same (av:=.H (.tup []) []) P1) b
  grind
variable{d:Nat}
def M8{p:Option Nat × Nat}(f:KI F o=some p)(c:o.dst=some d)(h:TS TE N F d p.1 p.2 K):jw P TE N ops o K F:=by
 obtain⟨e,a,-⟩:=G7 f;obtain⟨T,s⟩:=p;rcases JZ a with⟨i,j,rfl,b,g⟩|⟨rfl,b⟩
 ·unfold jw gc
  rw[e];simp only;rw[b];simp only[AZ];rw[c];simp only[kQ,g];exact h
 unfold jw gc;rw[e];simp only;rw[b];simp only[AZ];rw[c];simp only[kQ];exact h
theorem aZ.oneP(h:aZ w0 M S0 N S φ F a w)(c:∀t i,TE t=some i->bP P t i)(b:lV P TE N ops o K F)(g:∀F' j k,K F'->St w0 M S0 N F' j k->Kc j k) :
  if Region.wanted o (yielded ops a.tmps) then o.wp P a w Kc Q else Kc (a.put o.dst undef) w:=by
 unfold lV at b;cases e:KI F o with
 | none=>rw[e]at b;exact h.oneP0 c b g
 | some p=>
  rw[e]at b;simp only at b;cases l:o.dst with
  | none=>grind
  | some d=>
   rw[l]at b;simp only at b;cases f:jF ops o p.2 with
   | false=>grind
   | true=>
    rw[f]at b;have:=h.one c (M8 (P:=P) (ops:=ops) e l b) (Q:=Q) g
    grind
variable{m i:Nat}
theorem Jx(c:∀t i,TE t=some i->bP P t i)(b:xj P TE N ops m i K F)(g:St w0 M S0 N F a w)(d:∀F' e f,K F'->St w0 M S0 N F' e f->Kc e f):wpOp P ops Q i Kc a w:=by
 unfold xj at b;unfold wpOp;cases j:ops[i]? with
 | none=>grind
 | some o=>
  rw[j]at b;simp only at b |-;obtain⟨S,φ,h⟩:=g;have:if Region.wanted o (yielded ops a.tmps) then o.wp P a w Kc Q else Kc (a.put o.dst undef) w:=by
   split at b
   ·exact h.oneP c b d
   exact h.one c b d
  grind
def Dd(b:∀t i,TE t=some i->bP P t i){m:Nat}{K:(Nat->AV)->Prop}{Q:Exit->Act->World->Prop}(g:∀F' d e,K F'->St w0 M S0 N F' d e->Q .normal d e) :
  ∀(fuel:Nat)(listed:Array Bool)(F:Nat->AV)(a:Act)(w:World),Jv P TE N ops m K fuel listed F->St w0 M S0 N F a w->wpAny P .any ops Q fuel listed a w
 | 0,_,F,a,w,c,f=>⟨c.1,g F a w c.2 f⟩
 | fuel+1,_,F,a,w,c,f=>⟨λj=>g F a w (c.1 j) f,λi k=>Jx b (c.2 i k) f λF' d e l h=>Dd b g fuel _ F' d e l h⟩
structure B6(ops:Array Oper)(m:Nat)(F:Nat->AV)(listed:Array Bool):Prop where
 dst:∀j o d,j<m->ops[j]? = some o->listed.getD j true=false->o.dst=some d->∀t,(F t).uses d=false
 mv:∀j o T s,j<m->ops[j]? = some o->listed.getD j true=false->o.guard=none->oy o.op=some (T,s)->jF ops o s=true->∀t,(F t).uses s=false
def DC(ops:Array Oper)(listed:Array Bool):Prop:=∀j a,ops[j]? = some a->listed.getD j false=true->∀k,dl a k=true->listed.getD k false=true
variable{e:Nat}
theorem R1{v:AV}(h:(kl d v).uses e=true):v.uses e=true/\v.uses d=false:=by
 rw[BP]at h;cases a:v.uses d with
 | true=>rw[a]at h;cases h
 | false=>grind
theorem xN{α:Type}{p:α->Bool} : ∀{l:List α}{i j:Nat}{x y:α},(l.filter p).length<=1->l[i]? = some x->l[j]? = some y->p x=true->p y=true->i=j
 | [],_,_,_,_,_,h,_,_,_=>by simp at h
 | a::l,0,0,_,_,_,_,_,_,_=>rfl
 | a::l,i+1,j+1,x,y,h,b,c,d,e=>by
  rw[xN (l:=l) (C6 (List.Sublist.length_le ((List.sublist_cons_self a l).filter p)) h) b c d e]
 | a::l,0,j+1,x,y,h,b,c,d,e=>by
  simp only[List.getElem?_cons_zero,C1]at b;subst b;rw[List.filter_cons_of_pos d]at h;have:y∈l.filter p:=V5.2 ⟨O2 c,e⟩;have:=List.length_pos_of_mem this;rw[List.length_cons]at h;omega
 | a::l,i+1,0,x,y,h,b,c,d,e=>by
  simp only[List.getElem?_cons_zero,C1]at c;subst c;rw[List.filter_cons_of_pos e]at h;have:x∈l.filter p:=V5.2 ⟨O2 b,d⟩;have:=List.length_pos_of_mem this;rw[List.length_cons]at h;omega
variable{j:Nat}{listed:Array Bool}
theorem ja{a:Nat}(b:(listed.setIfInBounds j true).getD a true=false):a≠j:=λe=>by simp_all
variable{av:AV}{t:Nat}
theorem kE{a:Option Nat}(b:av.uses e=false)(c:(F t).uses e=false):(eff a d av F t).uses e=false:=by grind [Nm,eff]
theorem B6.put{o:Option Nat}(h:B6 ops m F listed)(p:∀a b g,a<m->a≠j->ops[a]? = some b->listed.getD a true=false->b.dst=some g->av.uses g=false)(q:∀a b T s,a<m->a≠j->ops[a]? = some b->listed.getD a true=false->b.guard=none->oy b.op=some (T,s)->jF ops b s=true->av.uses s=false) :
  B6 ops m (eff o d av F) (listed.setIfInBounds j true):=by
 refine⟨λa b g i c e k t=>?_,λa b T s i c e r l n t=>?_⟩
 ·have f:=ja e
  rw[getD_set_ne true (Ne.symm f)]at e;exact kE ψ (h.dst a b g i c e k t)
 have f:=ja e;rw[getD_set_ne true (Ne.symm f)]at e;exact kE ψ (h.mv a b T s i c e r l n t)
inductive oG(ops:Array Oper):Nat->Nat->Prop
 |one {j i:Nat} (h:dl (d9 ops j) i=true):oG ops j i
 |step {j k i:Nat} (h:dl (d9 ops j) k=true) (h2:oG ops k i):oG ops j i
def oG.trans{k:Nat}(h:oG ops j k)(a:oG ops k i):oG ops j i:=by
 induction h with
 | one h=>exact .step h a
 | step h _ b=>exact .step h (b a)
theorem GM{i:Nat} : ∀{a:List Nat},(Hh a).testBit i=true->i∈a
 | [],h=>by simp[Hh]at h
 | k::a,h=>by
  rw[Hh,Nat.testBit_or,W7]at h;rcases h with h|h
  ·grind
  exact W6 _ (GM h)
theorem yr(h:(Hh (ons o)).testBit i=true):dl o i=true:=by
 have:=GM h
 grind [cx,ons]
def sS{j:Nat} : ∀(k S:Nat),(∀i,S.testBit i=true->oG ops j i)->∀i,(clo ops k S).testBit i=true->oG ops j i
 | 0,_,h,i,a=>h i a
 | k+1,S,h,i,a=>by
  rw[clo,Pi]at a;cases c:S.testBit k with
  | false=>rw[c]at a;exact sS k S h i a
  | true=>
   rw[c]at a;refine sS k _ (λe b=>?_) i a;rw[Nat.testBit_or,W7]at b;rcases b with d|d
   ·exact h e d
   exact(h k c).trans (.one (yr d))
theorem nP(d:DC ops listed)(b:∀j n,ops[j]? = some n->∀e∈n.after,Region.binds .any e=true->e.on<j)(o:oG ops j i):j<ops.size->(∀k,dl (d9 ops j) k=true->listed.getD k false=true)->listed.getD i false=true:=by
 induction o with
 | one h=>grind
 | @step j k i h h2 ih=>
  intro f p;have r:k<j:=by
   have c:=(show ops[j]? = some ops[j] from X7 f)
   rw[bx c]at h;obtain⟨e,g,l,rfl⟩:=cx.1 h;exact b j _ c e g l
  have a:k<ops.size:=ω
  have c:=(show ops[k]? = some ops[k] from X7 a)
  exact ih a λq a=>d k _ c (p k h) q (by rw[bx c]at a;exact a)
theorem DC.put(h:DC ops listed)(d:j∈Region.ready .any ops listed):DC ops (listed.setIfInBounds j true):=by
 obtain⟨l,n,f,b⟩:=mem_ready.1 d;intro k ok g c e i;by_cases a:k=j
 ·grind [cx,Go.getD_set_true]
 rw[getD_set_ne false (Ne.symm a)]at c;exact getD_set_true (h k ok g c e i)
theorem gF{s:Nat}(h:jF ops o s=true):(∃k ok,dl o k=true/\ops[k]? = some ok/\ok.dst=some s)/\∀(i j:Nat)(a b:Oper),ops[i]? = some a->ops[j]? = some b->s∈a.looksAt ops->s∈b.looksAt ops->i=j:=by
 unfold jF at h;rw[I0]at h;obtain⟨q,c⟩:=h;constructor
 ·grind [bx,W2]
 intro i j a b d e f g;have l:=O1 c;have n:ops.toList[i]? = some a:=by simpa using d
 have p:ops.toList[j]? = some b:=by simpa using e
 grind [Nat.beq_refl,xN]
structure Tg(ops:Array Oper)(m:Nat):Prop where
 back:∀j oj,ops[j]? = some oj->∀e∈oj.after,Region.binds .any e=true->e.on<j
 tail:∀j,m<=j->j<ops.size->∀i,i<j->oG ops j i
 apart:∀i j oi oj,i<m->j<m->i≠j->ops[i]? = some oi->ops[j]? = some oj->dl oj i=true\/dl oi j=true\/oi.apart ops oj=true
 look:∀i j oi oj d,i<m->j<m->i≠j->ops[i]? = some oi->ops[j]? = some oj->oi.dst=some d->d∈oj.looksAt ops->dl oj i=true
theorem Fr(h:Dw ops m=true):Tg ops m:=by
 have o:∀j b,ops[j]? = some b->_:=λj b a=>gU h (I4.1 a).1
 refine⟨λj b a e t p=>?_,λj u a i f=>?_,λi j q b f a g r k=>?_,λi j q b d f a g r k w y=>?_⟩
 ·grind [bx,Nat.blt_eq]
 ·have l:=(show ops[j]? = some ops[j] from X7 a)
  have:=o j _ l;simp only[I0]at this;have c:=this.2;rw[show Nat.blt j m=false by rw[<-X6,Nat.blt_eq];omega]at c;simp only[cond_false,Pi]at c;exact sS j _ (λA n=>.one (yr n)) i (gU c f)
 ·grind [bx,Nat.blt_eq,gU,Nat.beq_eq]
 have:=o j b k;rw[bx k]at this;simp only[I0]at this;have c:=this.2;rw[show Nat.blt j m=true by simpa[Nat.blt_eq] using a]at c
 grind [gU,bx,Nat.beq_eq,vq]
theorem LQ(V:Tg ops m){c:Oper}{u:Option Nat}(R:ops[i]? = some c)(w:i<m) :
  ∀(fuel:Nat)(listed:Array Bool)(F:Nat->AV),i∈Region.ready .any ops listed->B6 ops m F listed->DC ops listed->Yl P TE N ops c F u d av->Jv P TE N ops m K fuel (listed.setIfInBounds i true) (eff u d av F)->Jv P TE N ops m K (fuel+1) listed F:=by
 have self:∀(listed:Array Bool)(F:Nat->AV),i∈Region.ready .any ops listed->B6 ops m F listed->Yl P TE N ops c F u d av->∀S:(Nat->AV)->Prop,S (eff u d av F)->lV P TE N ops c S F:=λlisted F W a g S hK=>by
  have b:=(mem_ready.1 W).1;refine g.at_ F (Ce _ _) (a.dst i c d w R b g.dst) (λs X=>?_) S hK;obtain⟨A,⟨T,h2⟩,h3⟩:=g.mvl s X;exact a.mv i c T s w R b A h2 h3
 intro fuel
 induction fuel with
 | zero=>
  intro listed F W a E g H;refine⟨ψ,λj Y=>?_⟩;by_cases n:j=i
  ·grind [xj]
  have:=ready_mono Y n;rw[H.1]at this;cases this
 | succ fuel ih=>
  intro listed F W a E g H;refine⟨ψ,λj Y=>?_⟩;by_cases n:j=i
  ·grind [xj]
  have A:=H.2 j (ready_mono Y n);obtain⟨B,f,o,hall⟩:=mem_ready.1 Y;have b:=(mem_ready.1 W).1;have unl:∀k,listed.getD k true=false->listed.getD k false=true->False:=ψ
  have noedge:∀k ok,ops[k]? = some ok->listed.getD k true=false->dl f k=false:=λk ok hk Z=>by grind [cx]
  have noedge':∀k ok,ops[k]? = some ok->listed.getD k true=false->dl c k=false:=λk ok hk Z=>by grind [cx,Go.mem_ready]
  have G:j<m:=by
   rcases Nat.lt_or_ge j m with h|h
   ·exact h
   have C:=(I4.1 o).1;refine(unl i b (nP E V.back (V.tail j h C i ω) C λk hk=>?_)).elim
   grind [bx,cx]
  have hap:c.apart ops f=true:=by grind [Tg.apart]
  obtain⟨ap1,ap2,ap3⟩:=Oper.apart_spec hap;unfold xj at A |-;rw[o]at A |-;simp only[CD G]at A |-;have hdl:d∉f.looksAt ops:=ap1 d g.dst;have cd:∀t,(F t).uses d=false:=a.dst i c d w R b g.dst
  have cdj':∀l,f.dst=some l->∀t,(F t).uses l=false:=λl J=>a.dst j f l G o B J
  have cmv:∀s,u=some s->(∀t,(F t).uses s=false)/\s∉f.looksAt ops/\s∈c.looksAt ops:=λs X=>by
   obtain⟨L,⟨T,q⟩,r⟩:=g.mvl s X;exact⟨a.mv i c T s w R b L q r,λhl=>n ((gF r).2 i j c f R o (df q) hl).symm,df q⟩
  have cmvj:∀T s,f.guard=none->oy f.op=some (T,s)->jF ops f s=true->(∀t,(F t).uses s=false)/\s∉c.looksAt ops/\s∈f.looksAt ops:=λT s L q r=>
   ⟨a.mv j f T s G o B L q r,λhl=>n ((gF r).2 i j c f R o hl (df q)).symm,df q⟩
  have avno:∀e,e∉c.looksAt ops->(∀t,(F t).uses e=false)->av.uses e=false:=λe A h2=>by
   cases hu:av.uses e with
   | false=>rfl
   | true=>
    rcases g.from_ e hu with h|⟨t,_,h⟩
    all_goals grind
  obtain⟨mvj,l,avj,p,hKj⟩:=qk A (λl J t=>kE ψ (cdj' l J t)) (λT s L q r t=>by grind [kE]);have hdne:d≠l:=λe=>ap2 d g.dst (by rw[p.dst,e])
  have hdjl:l∉c.looksAt ops:=ap3 l p.dst;have cdj:∀t,(F t).uses l=false:=cdj' l p.dst
  have cmj:∀s,mvj=some s->(∀t,(F t).uses s=false)/\s∉c.looksAt ops/\s∈f.looksAt ops:=λs X=>by
   obtain⟨L,⟨T,q⟩,r⟩:=p.mvl s X
   grind
  have lookj:∀t,t∈f.looksAt ops->eff u d av F t=F t:=λt U=>by grind [eff]
  have looki:∀t,t∈c.looksAt ops->eff mvj l avj F t=F t:=λt U=>by grind [eff]
  have avjno:∀e,e∉f.looksAt ops->(∀t,(F t).uses e=false)->avj.uses e=false:=λe A h2=>by
   cases hu:avj.uses e with
   | false=>rfl
   | true=>
    rcases p.from_ e hu with h|⟨t,U,h⟩
    all_goals grind
  have agrj:i6 (eff u d av F) F (f.looksAt ops):=λt U=>by grind [eff]
  refine p.at_ F agrj cdj ψ _ (ih (listed.setIfInBounds j true) (eff mvj l avj F) (ready_mono W (Ne.symm n)) (a.put (λj' o' d' M D y O Q=>?_) (λj' o' T s M D y O L q r=>?_)) (E.put Y) ?_ ?_)
  ·refine avjno d' (λh=>?_) (a.dst j' o' d' M y O Q)
   grind [Tg.look]
  ·exact avjno s (λh=>D ((gF r).2 j' j o' f y o (df q) h)) (a.mv j' o' T s M y O L q r)
  ·refine⟨g.dst,g.lt,g.self,λe he=>?_,g.mvl,λF' hA Q hs' S hK=>g.at_ F' (λt U=>?_) Q hs' S hK⟩
   ·rcases g.from_ e he with h|⟨t,U,h⟩
    all_goals grind
   obtain⟨a1,a2⟩:=hA t U
   grind [eff]
  rw[Array.setIfInBounds_comm _ _ n];have:eff u d av (eff mvj l avj F)=eff mvj l avj (eff u d av F):=by grind [eff]
  grind
theorem jN{o:Op}{K a:AV->Prop}(h:dw P TE F o K)(b:∀av,K av->a av):dw P TE F o a:=by
 obtain⟨av,c,-,d⟩:=kr h
 grind [Ce]
theorem bq{a:(Nat->AV)->Prop}(h:bR N F d av K)(b:∀F',K F'->a F'):bR N F d av a:=by grind [bR]
variable{y:Operand}
theorem fA{K b:(Nat->AV)->Option Nat->List C->Prop}(h:ib F y K)(g:∀F' ag cs,K F' ag cs->b F' ag cs):ib F y b:=by
 cases y with
 | tmp t=>
  simp only[ib]at h |-;cases d:F t with
  | H k cs=>
   grind
  | c1 e f c ag=>
   rw[d]at h;cases c with
   | cons s c=>
    simp only at h |-;cases a:F e with
    | H k cs=>
     rw[a]at h;obtain⟨r,j,i,l,n,o⟩:=Lq.out h;exact .mk_ ψ
    | _=>grind
   | nil=>
    grind
  | _=>grind
 | _=>exact h.elim
variable{x:Operand}
theorem Br{K a:AV->Prop}(h:bB F x K)(b:∀av,K av->a av):bB F x a:=by
 obtain⟨av,c,-,d⟩:=kD h
 grind [Ce]
theorem GJ{a:(Nat->AV)->Prop}(h:lw N F d x K)(j:∀F',K F'->a F'):lw N F d x a:=by
 have i:∀y,bB F y (λb=>bR N F d b K)->bB F y (λb=>bR N F d b a):=λy h=>Br h λb h=>bq h j
 have k:∀y,ib F y (λF' c e=>bR N F' d (.H (kA c) e) K)->ib F y (λF' c e=>bR N F' d (.H (kA c) e) a):=λy h=>fA h λF' c e h=>bq h j
 cases x with
 | tmp t=>
  grind [lw]
 | const v=>exact i (.const v) h
 | global g=>exact i (.global g) h
 | func f=>exact i (.func f) h
theorem Nc{a:(Nat->AV)->Prop}(h:DK N F d x K)(b:∀F',K F'->a F'):DK N F d x a:=by grind [bq,GJ,DK,KU]
variable{b:(Nat->AV)->Prop}
theorem AN{cs:List C}(h:qO F x cs K)(d:∀F',K F'->b F'):qO F x cs b:=by
 cases x with
 | tmp t=>
  simp only[qO]at h |-;cases e:F t with
  | H k f=>
   grind [dz]
  | ref g i c=>
   rw[e]at h;cases c with
   | cons s c=>
    simp only at h |-;cases a:F g with
    | H k f=>
     rw[a]at h;obtain⟨r,j,l,n,o,p⟩:=Pu.out h;exact Pu.mk l n o rfl (d _ p)
    | _=>grind
   | nil=>
    grind [dz]
  | _=>grind
 | _=>exact h.elim
variable{T:Nat}
theorem xF{a:(Nat->AV)->Prop}(h:mB TE F T x y K)(b:∀F',K F'->a F'):mB TE F T x y a:=by
 unfold mB at h |-;split at h
 all_goals grind [cB,Ce,AN,fA]
theorem Jg{g:Option (Nat × Bool)}{a K1' K0':(Nat->AV)->Prop}(h:gc F ops g a b)(h1:∀F,a F->K1' F)(c:∀F,b F->K0' F):gc F ops g K1' K0':=by
 unfold gc at h |-;split at h
 ·exact h1 _ h
 rename_i j want;split at h
 all_goals grind [Bf.out,Bf.in_]
theorem uM{K a:(Nat->AV)->Option Nat->List C->Prop}(h:vR F x K)(c:∀F' ag cs,K F' ag cs->a F' ag cs):vR F x a:=by
 obtain⟨ag,cs,d,b⟩:=cB h;refine b F (Ce _ _) _ ?_
 grind [fA]
theorem jR{c:Nat->Option (Nat × Nat)} : ∀{parts:List (Nat × Operand)}{cs:List C}{K a:(Nat->AV)->List C->Prop}{F:Nat->AV},fillW c parts cs K F->(∀F' cs,K F' cs->a F' cs)->fillW c parts cs a F
 | [],cs,K,a,F,h,b=>b _ _ h
 | p::rest,cs,K,a,F,h,b=>by
  simp only[fillW]at h |-;split at h
  case h_2=>exact h.elim
  rename_i q e;refine uM h λF' f xs h=>?_
  cases d:(Nat.beq xs.length q.2&&Nat.ble (q.1+q.2) cs.length) with
  | false=>grind
  | true=>
   rw[d]at h;simp only[cond_true,dz]at h |-;exact jR h b
variable{parts:List (Nat × Operand)}
theorem Fz{a:(Nat->AV)->Prop}(h:kY TE N F d T parts K)(b:∀F',K F'->a F'):kY TE N F d T parts a:=by grind [jR,bq,kY]
theorem Eg{n:Nat}{a:(Nat->AV)->Prop}(h:gz TE N F d T n parts K)(c:∀F',K F'->a F'):gz TE N F d T n parts a:=by
 obtain⟨e,f,h,b⟩:=iN h;refine b _ ?_
 grind [bq,dz,jR,pk]
theorem GD{K a:Bool->(Nat->AV)->List (List C)->Prop}(h:Dr F y K)(c:∀b F' xr,K b F' xr->a b F' xr):Dr F y a:=by
 unfold Dr at h |-;split at h
 all_goals grind [fA,cB,Ce]
theorem BQ{K a:(Nat->AV)->List (List C)->Prop}(h:Bi F x K)(c:∀F' xr,K F' xr->a F' xr):Bi F x a:=by
 obtain⟨d,e,f,b⟩:=cB h;refine b F (Ce _ _) _ ?_
 grind [fA]
theorem LL{a:(Nat->AV)->Prop}(h:BN TE N F d T x y K)(f:∀F',K F'->a F'):BN TE N F d T x y a:=by
 obtain⟨e,p,h,g⟩:=iN h;refine g _ (GD h λb F' q h=>BQ h λF'' c h=>?_);obtain⟨i,j,k,l,n,o⟩:=h.out;exact CU i j k l n rfl (bq o f)
theorem Fd{a:(Nat->AV)->Prop}(h:qe TE N F d T x K)(b:∀F',K F'->a F'):qe TE N F d T x a:=by
 unfold qe at h |-;split at h
 all_goals grind [fA,bq]
theorem J6(h:jy N F d x K)(c:∀F',K F'->b F'):jy N F d x b:=by
 have std:∀{y:Operand},bB F y (λa=>bR N F d a K)->bB F y (λa=>bR N F d a b):=λh=>Br h λa h=>bq h c
 cases x with
 | tmp t=>
  simp only[jy]at h |-
  grind [bq]
 | const v=>grind [jy]
 | global g=>grind [jy]
 | func f=>grind [jy]
theorem J5{a:(Nat->AV)->Prop}(h:vn N F d x K)(b:∀F',K F'->a F'):vn N F d x a:=by
 unfold vn at h |-;split at h
 case h_2=>exact h.elim
 split at h
 all_goals grind [Nt.out,Nt.mk,bq]
theorem FP{a:(Nat->AV)->Prop}(h:q9 N F d x K)(b:∀F',K F'->a F'):q9 N F d x a:=by
 unfold q9 at h |-
 grind [bq]
variable{c:(Nat->AV)->Prop}
theorem NI{b:Operand}(h:Gd TE N F d T x b K)(f:∀F',K F'->c F'):Gd TE N F d T x b c:=by
 unfold Gd at h |-;obtain⟨e,q,h,a⟩:=iN h;refine a _ ?_;obtain⟨n,g,i⟩:=nD h;refine i F (Ce _ _) _ (fA g λF' r t h=>?_);split at h
 case h_2=>exact h.elim
 obtain⟨m,y,j,k,l,o,p,h⟩:=h.out;exact .mk_ ⟨m,y,j,k,l,o,p,_,rfl,bq h f⟩
theorem Fi{b:Op}{e:(Nat->AV)->Prop}(h:kQ P TE N d b K F)(a:∀F',K F'->e F'):kQ P TE N d b e F:=by
 cases b with
 | assign x=>exact Nc h a
 | box T x=>grind [uM,bq,kQ,Pc]
 | build T g=>exact Fz h a
 | buildSlice T n g=>exact Eg h a
 | range T x=>exact Fd h a
 | move x=>exact J6 h a
 | next x str=>
  cases str with
  | true=>exact h.elim
  | false=>exact J5 h a
 | entry x=>exact FP h a
 | call c=>
  grind [jN,bq,LL,kQ]
 | slice T x i f j=>
  cases i with
  | some _=>grind [jN,bq,kQ]
  | none=>
   cases f with
   | none=>grind [jN,bq,kQ]
   | some f=>
    cases j with
    | some _=>grind [jN,bq,kQ]
    | none=>
     grind [jN,bq,NI,kQ]
 | _=>grind [jN,bq,kQ]
theorem fC{off n:Nat}{st:cH}{K a:(Nat->AV)->List C->Prop}(h:lendAt F t off st n K)(b:∀F' cs,K F' cs->a F' cs):lendAt F t off st n a:=by
 unfold lendAt at h |-;split at h
 case h_2=>exact h.elim
 split at h
 ·grind [dz]
 obtain⟨r,j,c,d,e,f⟩:=Lq.out h;refine .mk_ ?_
 grind
theorem cw:∀{xs:List (Operand × Nat)}{K a:(Nat->AV)->List (MA × ru)->Prop}{F:Nat->AV},lendP xs K F->(∀F' l,K F' l->a F' l)->lendP xs a F
 | [],K,a,F,h,b=>b _ _ h
 | (x,0)::xs,K,a,F,h,b=>cw (xs:=xs) h ψ
 | (x,1)::xs,K,a,F,h,b=>by
  simp only[lendP]at h |-;split at h
  case h_2=>exact h.elim
  split at h
  ·exact fC h λF' c h=>cw h ψ
  ·exact fC h λF' c h=>cw h ψ
  ·exact fC h λF' c h=>cw h ψ
  exact h.elim
 | (x,n+2)::xs,K,a,F,h,b=>by
  simp only[lendP]at h |-;split at h
  case h_2=>exact h.elim
  split at h
  ·split at h
   ·exact cw h ψ
   exact h.elim
  ·exact cw h ψ
  exact h.elim
theorem jK:∀{l:List (MA × ru)}{xs:List Operand}{K a:Bool->List MA->Prop},valsP F l xs K->(∀b A,K b A->a b A)->valsP F l xs a
 | [],[],K,a,h,c=>c _ _ h
 | (m,.no)::l,x::xs,K,a,h,c=>by
  obtain⟨f,g,d,e⟩:=cB h;refine e F (Ce _ _) _ (jK d λb A h=>?_)
  grind
 | (m,.at_ t off st)::l,x::xs,K,a,h,c=>jK (l:=l) (xs:=xs) h ψ
 | (m,.box t)::l,x::xs,K,a,h,c=>jK (l:=l) (xs:=xs) h ψ
 | [],_::_,K,a,h,c=>h.elim
 | (m,.no)::l,[],K,a,h,c=>h.elim
 | (m,.at_ t off st)::l,[],K,a,h,c=>h.elim
 | (m,.box t)::l,[],K,a,h,c=>h.elim
theorem dA{K b:(Nat->AV)->Prop}(a:∀F',K F'->b F'):∀{l:List (MA × ru)}{B:List MA}{F:Nat->AV},iz l B K F->iz l B b F
 | [],[],F,h=>a _ h
 | [],_::_,F,h=>h.elim
 | (m,.no)::l,[],F,h=>h.elim
 | (m,.at_ t off st)::l,[],F,h=>h.elim
 | (m,.box t)::l,[],F,h=>h.elim
 | (m,.no)::l,.val _ _::B,F,h=>dA a (l:=l) (B:=B) h
 | (m,.no)::l,.mut _ _::B,F,h=>dA a (l:=l) (B:=B) h
 | (m,.no)::l,.ptr _::B,F,h=>dA a (l:=l) (B:=B) h
 | (m,.at_ t off st)::l,.val _ _::B,F,h=>h.elim
 | (m,.at_ t off st)::l,.ptr _::B,F,h=>h.elim
 | (m,.box t)::l,.val _ _::B,F,h=>h.elim
 | (m,.box t)::l,.mut _ _::B,F,h=>h.elim
 | (m,.at_ t off st)::l,.mut ag out::B,F,h=>by
  simp only[iz]at h |-;split at h
  case h_2=>exact h.elim
  split at h
  ·rename_i k c _ _
   cases d:Nat.ble (off+out.length) c.length with
   | false=>grind
   | true=>
    rw[d]at h;simp only[cond_true,dz]at h |-;exact dA a h
  obtain⟨r,j,e,f,g,i⟩:=Pu.out h;exact Pu.mk e f g rfl (dA a i)
 | (m,.box t)::l,.ptr out::B,F,h=>by
  simp only[iz]at h |-;split at h
  ·exact dA a h
  exact h.elim
variable{modes:List Nat}{args:List Operand}{f:Nat}
theorem J8{d:Option Nat}{a:(Nat->AV)->Prop}(h:mb P N F d f args modes K)(j:∀F',K F'->a F'):mb P N F d f args modes a:=by
 unfold mb at h |-;refine cw h λF' l h=>?_
 cases c:(vH l&&Nat.beq args.length modes.length) with
 | false=>grind
 | true=>
  rw[c]at h;refine jK h λb A h=>?_
  obtain⟨n,B,k,rcs,e,g,i⟩:=cy.out h;refine CL e g (dA (λF'' h=>?_) i)
  grind [bq]
theorem l9{F:Nat->AV}{K a:Nat->Nat->Prop}(h:Az F x K)(b:∀t o,K t o->a t o):Az F x a:=by grind [t6,Az]
theorem LO{d:Option Nat}{cs:List C}{c a b:Nat}{f:(Nat->AV)->Prop}{k:Kd}{rcs:List C}{B:List MA}(h:xg N F d t cs c a e b K k rcs B)(l:∀F',K F'->f F'):xg N F d t cs c a e b f k rcs B:=by
 unfold xg at h |-;split at h
 case h_2=>exact h.elim
 rename_i g i;cases j:(Nat.beq g.length a&&Nat.beq i.length b) with
 | false=>grind
 | true=>
  rw[j]at h;simp only[cond_true,dz]at h |-
  grind [bq]
theorem J1{d:Option Nat}{a b:Nat}(h:kK P N F d f args a b K)(e:∀F',K F'->c F'):kK P N F d f args a b c:=by
 unfold kK at h |-;split at h
 case h_2=>exact h.elim
 refine l9 h λt g h=>l9 h λi j h=>?_
 split at h
 all_goals grind [dz,cy.out,CL,LO]
theorem r6{d:Option Nat}{a:(Nat->AV)->Prop}(h:kJ P N F d f args modes K)(b:∀F',K F'->a F'):kJ P N F d f args modes a:=by grind [J1,J8,kJ]
theorem Fn{off:Nat}{z:Int}{v:Value}{a:(Nat->AV)->Prop}(h:putMap F t off z v K)(f:∀F',K F'->a F'):putMap F t off z v a:=by
 unfold putMap at h |-;cases b:F t with
 | H k d=>
  rw[b]at h;simp only at h |-;cases e:d[off]? with
  | none=>grind
  | some c=>
   rw[e]at h;cases c with
   | m g=>
    simp only at h |-;have:=h.out;refine Mu.mk rfl ?_
    grind [dz]
   | _=>exact h.elim
 | _=>grind
theorem v7{v:Operand}(h:om TE F T x y v K)(f:∀F',K F'->b F'):om TE F T x y v b:=by
 unfold om at h |-;split at h
 case h_2=>exact h.elim
 obtain⟨z,c,d⟩:=jt h;refine d F (Ce F _) _ ?_;obtain⟨g,a,e⟩:=jt c;refine e F (Ce F _) _ ?_;split at a
 case h_2=>exact a.elim
 split at a
 all_goals grind [Fn]
theorem kB{a:(Nat->AV)->Prop}(h:jw P TE N ops o K F)(c:∀F',K F'->a F'):jw P TE N ops o a F:=by
 unfold jw at h |-;refine Jg h (λF h=>?_) (λF h=>?_)
 ·split at h
  ·rename_i p _
   have lt:tI P N F o.dst p.1 p.2.1 p.2.2 K->tI P N F o.dst p.1 p.2.1 p.2.2 a:=λh=>r6 h λF' h=>by grind [nA]
   cases b:Ns N o.op with
   | false=>grind
   | true=>
    rw[b]at h;rcases h with h|h
    ·refine .pl ?_
     grind [xF,v7,Fi,kO]
    exact .lt (lt h)
  grind [xF,v7,Fi]
 grind [bq]
theorem DQ{m:Nat}(a:Tg ops m){K:(Nat->AV)->Prop}(hm:m<=ops.size):∀(l:List Oper)(k:Nat)(listed:Array Bool)(F:Nat->AV),(∀j,l[j]? = ops[k+j]?)->listed.size=ops.size->(∀j,j<ops.size->listed.getD j true=decide (j<k))->B6 ops m F listed->DC ops listed->
  NW P TE N ops (m - k) l K F->Jv P TE N ops m K l.length listed F
 | [],k,listed,F,C,L,b,_,_,i=>by
  have D:ops.size<=k:=by
   rcases Nat.lt_or_ge k ops.size with h|h
   ·have:=C 0;simp[h]at this
   exact h
  refine⟨?_,?_⟩
  ·apply List.eq_nil_iff_forall_not_mem.2
   grind [Go.mem_ready]
  cases M:m - k with
  | zero=>rw[M]at i;exact i
  | succ x=>omega
 | o::l,k,listed,F,C,L,b,c,n,i=>by
  have w:ops[k]? = some o:=by simpa using (C 0).symm
  have D:=(I4.1 w).1;have hready:k∈Region.ready .any ops listed:=mem_ready.2 ⟨by rw[b k D];simp,o,w,λe he hb=>by grind [Tg.back]⟩;have A:∀j,l[j]? = ops[k+1+j]?:=λj=>by have:=C (j+1);grind
  have r:∀j,j<ops.size->(listed.setIfInBounds k true).getD j true=decide (j<k+1):=λj O=>by
   by_cases y:j=k
   ·simp_all
   rw[getD_set_ne true (Ne.symm y),b j O]
   grind
  show Jv P TE N ops m K (l.length+1) listed F;by_cases f:k<m
  ·have e1:m - k=(m - (k+1))+1:=ω
   rw[e1]at i;obtain⟨mv,d,av,Q,i⟩:=qk (show lV P TE N ops o (NW P TE N ops (m - (k+1)) l K) F from i) (λd hd=>c.dst k o d f w (by rw[b k D];simp) hd) (λT s R S U=>c.mv k o T s f w (by rw[b k D];simp) R S U);refine LQ a w f l.length listed F hready c n Q (DQ a hm l (k+1) _ _ A (by simpa using L) r (c.put (λE G H p u q hl'' B=>?_) (λE G T s p u q hl'' R S U=>?_)) (n.put hready) i)
   ·cases V:av.uses H with
    | false=>rfl
    | true=>
     rcases Q.from_ H V with h|⟨t,_,h⟩
     ·have:=a.look E k G o H p f u q w B h
      grind [cx,Tg.back]
     rw[c.dst E G H p q hl'' B t]at h;cases h
   cases V:av.uses s with
   | false=>rfl
   | true=>
    rcases Q.from_ s V with h|⟨t,_,h⟩
    ·grind [gF,df]
    rw[c.mv E G T s p q hl'' R S U t]at h;cases h
  refine⟨ψ,λj O=>?_⟩;have y:j=k:=by
   obtain⟨h1,oj,W,hall⟩:=mem_ready.1 O;have g:=(I4.1 W).1;rw[b j g]at h1;simp at h1;rcases Nat.lt_or_ge k j with X|hge
   ·exfalso
    have h2:=nP n a.back (a.tail j ω g k X) g λk' hk'=>by grind [bx,cx]
    grind
   omega
  subst y;unfold xj;rw[w];simp only[CB f];have e0:m - j=0:=ω
  rw[e0]at i;have hp':jw P TE N ops o (My P TE N ops l K) F:=i;have Y:∀J,My P TE N ops l K J->Jv P TE N ops m K l.length (listed.setIfInBounds j true) J:=λJ Z=>
   DQ a hm l (j+1) _ J A (by simpa using L) r ⟨ψ,ψ⟩ (n.put hready) (by rw[show m - (j+1)=0 by omega];cases l<;>exact Z)
  grind [kB]
theorem St.clr(h:St w0 M S0 N F a w)(ds:List Nat):St w0 M S0 N (Ab.clr ds F) a w:=by
 obtain⟨S,φ,h⟩:=h;refine⟨S,φ,λt=>?_,h.dis,h.disS,h.ex,h.sub,h.sup,h.old,h.size,h.defers,h.par⟩;rw[E8];cases b:ds.any (λd=>(F t).uses d) with
 | true=>trivial
 | false=>
  simp only[cond_false];refine(h.slot t).keep (φ:=φ) (λt _ _ _=>h.slot t) (λc _=>⟨λk e f=>?_,rfl,λ_ _ _=>⟨rfl,rfl⟩⟩) (λ_ _ _=>⟨rfl,rfl⟩) (λ_ _ _=>⟨rfl,rfl⟩) (λ_ _ h=>h) (λ_ _ h=>h)
  grind [E8,AV.uses]
theorem Dz(g:∀t i,TE t=some i->bP P t i)(E:P.follows .mixedOrders=true){id:Nat}{ds:List Nat}(b:((Nat.ble m ops.size&&below m λj=>match(d9 ops j).dst with|some d=>ds.any (Nat.beq d)|none=>true)&&Dw ops m)=true)(G:NW P TE N ops m ops.toList K (Ab.clr ds F))(H:St w0 M S0 N F a w)(J:∀F' u y,K F'->St w0 M S0 N F' u y->Q .normal u y):(Code.region id ops true).wp P Q a w:=by
 simp only[I0]at b;obtain⟨⟨A,L⟩,b⟩:=b;have c:m<=ops.size:=by simp_all
 refine wp_region_any E ?_;have l:St w0 M S0 N (Ab.clr ds F) a {w with drawn:=w.drawn+1}:=by
  have O:=H.clr ds;obtain⟨S,φ,h⟩:=O;exact⟨S,φ,h.more (w1:={w with drawn:=w.drawn+1}) (λ_ _ h=>h) ψ ⟨rfl,rfl,rfl,X3 _,λ_ _ _=>rfl,λ_ _ _ _=>rfl,λ_ _ _ _=>rfl⟩⟩
 refine Dd g (m:=m) J ops.size (Array.replicate ops.size false) _ a _ ?_ l;have R:∀d,ds.any (Nat.beq d)=true->∀t,(Ab.clr ds F t).uses d=false:=λd U t=>by
  rw[E8];cases Z:ds.any (λd=>(F t).uses d) with
  | true=>rfl
  | false=>
   simp_all
 have B:∀j o d,j<m->ops[j]? = some o->o.dst=some d->ds.any (Nat.beq d)=true:=λj o d f C U=>by grind [gU,bx]
 have D:=Fr b;have:=DQ (P:=P) (TE:=TE) (N:=N) D (K:=K) c ops.toList 0 (Array.replicate ops.size false) (Ab.clr ds F) (by simp) (by simp) (λj f=>by simp[f]) ⟨ψ,λj o T s f C _ _ _ V t=>by
   obtain⟨k,ok,n,W,X⟩:=(gF V).1;obtain⟨e,p,q,rfl⟩:=cx.1 n;have:=D.back j o C e p q
   grind⟩ (λj oj f Y=>by
   have r:=(I4.1 f).1;simp[r]at Y) G
 simpa using this
end
section
variable{P:Program}{w0 w w1:World}{M S0 S:ah}{N:fy}{φ:Nat->ah}{F:Nat->AV}{a:Act}{TE:Nat->Option TI}{ops:Array Oper}{ds:List Nat}{nm:Nat->Bool}
def TA(P:Program)(TE:Nat->Option TI)(ops:Array Oper)(p:Nat)(F:Nat->AV):Prop:=∃d,(d9 ops p).dst=some d/\KI F (d9 ops p)=none/\dw P TE F (d9 ops p).op λa=>a=F d
def vF(P:Program)(TE:Nat->Option TI)(N:fy)(ops:Array Oper)(ds:List Nat)(listed:Array Bool)(i:Nat)(K:(Nat->AV)->Prop)(F:Nat->AV):Prop:=
 match ops[i]? with
 | none=>K F
 | some o=>if qF ds o=true then lV P TE N ops o K F else jw P TE N ops o (λa=>(∀p,listed.getD p false=true->qF ds (d9 ops p)=true->wt ops i p=false->TA P TE ops p a)/\K a) F
def GW(P:Program)(TE:Nat->Option TI)(N:fy)(ops:Array Oper)(ds:List Nat)(K:(Nat->AV)->Prop):Nat->Array Bool->(Nat->AV)->Prop
 | 0,listed,F=>Region.ready .any ops listed=[]/\K F
 | fuel+1,listed,F=>(Region.ready .any ops listed=[]->K F)/\∀i,i∈Region.ready .any ops listed->vF P TE N ops ds listed i (GW P TE N ops ds K fuel (listed.setIfInBounds i true)) F
variable{Q:Exit->Act->World->Prop}{K:(Nat->AV)->Prop}{i:Nat}{listed:Array Bool}
theorem Ga(c:∀t i,TE t=some i->bP P t i)(b:vF P TE N ops ds listed i K F)(g:St w0 M S0 N F a w){Kc:Act->World->Prop}(d:∀F' e f,K F'->St w0 M S0 N F' e f->Kc e f):wpOp P ops Q i Kc a w:=by
 unfold vF at b;unfold wpOp;cases j:ops[i]? with
 | none=>grind
 | some o=>
  rw[j]at b;simp only at b |-;obtain⟨S,φ,h⟩:=g;have:if Region.wanted o (yielded ops a.tmps) then o.wp P a w Kc Q else Kc (a.put o.dst undef) w:=by
   split at b
   ·exact h.oneP c b d
   exact h.one c (kB b λF' h=>h.2) d
  grind
def rO(b:∀t i,TE t=some i->bP P t i){K:(Nat->AV)->Prop}{Q:Exit->Act->World->Prop}(g:∀F' d e,K F'->St w0 M S0 N F' d e->Q .normal d e) :
  ∀(fuel:Nat)(listed:Array Bool)(F:Nat->AV)(a:Act)(w:World),GW P TE N ops ds K fuel listed F->St w0 M S0 N F a w->wpAny P .any ops Q fuel listed a w
 | 0,_,F,a,w,c,f=>⟨c.1,g F a w c.2 f⟩
 | fuel+1,_,F,a,w,c,f=>⟨λj=>g F a w (c.1 j) f,λi k=>Ga b (c.2 i k) f λF' d e l h=>rO b g fuel _ F' d e l h⟩
def bW(ts:List Nat)(F F1:Nat->AV):Prop:=∀t e,(F1 t).uses e=true->e∈ts\/∃a,(F a).uses e=true
theorem bW.refl(ts:List Nat)(F:Nat->AV):bW ts F F:=λt _ h=>.inr ⟨t,h⟩
variable{F1:Nat->AV}{ts:List Nat}
theorem bW.trans{F a:Nat->AV}(h1:bW ts F F1)(b:bW ts F1 a):bW ts F a:=λt e h=>by
 rcases b t e h with h|⟨c,h⟩
 ·exact .inl h
 exact h1 c e h
variable{d:Nat}
theorem bW.clean(h:bW ts F F1)(b:d∉ts)(c:∀t,(F t).uses d=false):∀t,(F1 t).uses d=false:=λt=>by
 cases a:(F1 t).uses d with
 | false=>rfl
 | true=>
  rcases h t d a with h|⟨e,h⟩
  all_goals grind
theorem bW.put{ts:List Nat}{dj:Nat}{av:AV}(h:∀e,av.uses e=true->e∈ts\/∃b,(F b).uses e=true):bW ts F (put F dj av):=λt e a=>by
 by_cases c:t=dj
 ·grind [pJ]
 rw[jb _ _ c]at a;exact .inr ⟨t,(R1 a).1⟩
variable{v:AV}{t e:Nat}
theorem P7(h:(sM t v).uses e=true):v.uses e=true:=by
 cases v with
 | c1 a b d f=>simp only[sM]at h;cases c:Nat.beq a t<;>rw[c]at h<;>first|exact h|cases h
 | ref a b d=>cases d<;>simp only[sM]at h<;>first|exact h|(cases c:Nat.beq a t<;>rw[c]at h<;>first|exact h|cases h)
 | _=>exact h
theorem bW.updH{ts:List Nat}{t:Nat}{k:Kd}{cs:List C} : bW ts F (updH F t k cs):=λs e a=>by
 unfold Ab.updH at a;cases b:Nat.beq s t with
 | true=>rw[b]at a;cases a
 | false=>grind [P7]
theorem Pk(h:(Qx t v).uses e=true):v.uses e=true:=by
 cases v with
 | c1 a b d f=>simp only[Qx]at h;cases c:Nat.beq a t<;>rw[c]at h<;>first|exact h|cases h
 | ref a b d=>simp only[Qx]at h;cases c:Nat.beq a t<;>rw[c]at h<;>first|exact h|cases h
 | _=>exact h
theorem bW.kill{ts:List Nat}{t:Nat} : bW ts F (kill F t):=λs e a=>by
 unfold Ab.kill at a;cases b:Nat.beq s t with
 | true=>rw[b]at a;cases a
 | false=>grind [Pk]
variable{av:AV}
theorem cj(h:t≠d):eff none d av F t=F t:=by grind [eff]
theorem mP{a:Option Nat} : eff a d av F d=av:=by grind [eff]
theorem NP : eff none d (F d) F=F:=by grind [mP,cj]
theorem mK(a:d∉ts)(b:∀t,(F t).uses d=false):i6 (eff none d av F) F ts:=λt c=>by grind [cj]
variable{dj:Nat}
theorem T0(a:dj≠d):put (eff none d v F) dj av=eff none d (kl dj v) (put F dj av):=by grind [pJ,cj,jb,mP]
variable{k':Kd}
theorem ox{a:List C}(b:t≠d):updH (eff none d v F) t k' a=eff none d (sM t v) (updH F t k' a):=by grind [mP,Nat.beq_eq,cj,updH]
theorem yg{a:List C}(b:t≠d):updH F t k' a d=sM t (F d):=by grind [Nat.beq_eq,updH]
theorem Kt{a:List C}(b:t≠d):updN (eff none d v F) t k' a=eff none d (Qw t v) (updN F t k' a):=by grind [mP,Nat.beq_eq,cj,updN]
theorem FL{a:List C}(b:t≠d):updN F t k' a d=Qw t (F d):=by grind [Nat.beq_eq,updN]
theorem MW(h:(Qw t v).uses e=true):v.uses e=true:=by
 cases v with
 | c1 b c a f=>
  cases a with
  | nil=>exact h
  | cons s a=>simp only[Qw]at h;cases d:Nat.beq b t<;>rw[d]at h<;>first|exact h|cases h
 | ref b c a=>
  cases a with
  | nil=>exact h
  | cons s a=>simp only[Qw]at h;cases d:Nat.beq b t<;>rw[d]at h<;>first|exact h|cases h
 | _=>exact h
theorem bW.updN{ts:List Nat}{t:Nat}{k:Kd}{cs:List C} : bW ts F (updN F t k cs):=λs e a=>by
 unfold Ab.updN at a;cases b:Nat.beq s t with
 | true=>rw[b]at a;cases a
 | false=>grind [MW]
def Fq(d:Nat)(ts:List Nat)(v:AV)(F:Nat->AV)(K:(Nat->AV)->Prop)(F1:Nat->AV):Prop:=∃a,(v=F d->a=F1 d)/\K (eff none d a F1)/\bW ts F F1
def UF(d:Nat)(ts:List Nat)(v:AV)(F:Nat->AV)(K:(Nat->AV)->Option Nat->List C->Prop)(F1:Nat->AV)(ag:Option Nat)(cs:List C):Prop:=∃a,(v=F d->a=F1 d)/\K (eff none d a F1) ag cs/\bW ts F F1
def Fq.trans{v1:AV}{a:Nat->AV}(h1:v=F d->v1=F1 d)(b:bW ts F F1)(h:Fq d ts v1 F1 K a):Fq d ts v F K a:=by
 obtain⟨c,f,g,i⟩:=h;exact⟨c,λe=>f (h1 e),g,b.trans i⟩
theorem ir(h:bR N (eff none d v F) dj av K)(a:dj≠d)(b:∀e,av.uses e=true->e∈ts\/∃c,(F c).uses e=true):bR N F dj av (Fq d ts v F K):=by
 unfold bR at h |-;cases f:(N.free dj&&!av.uses dj) with
 | false=>grind
 | true=>
  rw[f]at h;simp only[cond_true]at h |-;rw[T0 a]at h;exact⟨kl dj v,λe=>by grind [jb],h,bW.put b⟩
variable{cs:List C}{k:Kd}
def jg : ∀e,(AV.H k cs).uses e=true->e∈ts\/∃a,(F a).uses e=true:=λe h=>by cases h
theorem D4{p:(Nat->AV)->(AV->Prop)->Prop}{ts0:List Nat}(h:oQ p (eff none d v F) ts0 λav=>bR N (eff none d v F) dj av K)(a:dj≠d)(j:∀t,t∈ts0->t∈ts)(k:d∉ts)(b:∀t,(F t).uses d=false) :
  p F λav=>bR N F dj av (Fq d ts v F K):=by
 obtain⟨av,c,f,g⟩:=h;refine g F (mK ψ b) _ (ir c a λe i=>?_);rcases f e i with h|⟨t,l,h⟩
 all_goals grind [cj]
variable{y:Operand}
theorem qA{K:(Nat->AV)->Option Nat->List C->Prop}(h:ib (eff none d v F) y K)(n:d∉tm y)(o:∀t,(F t).uses d=false):ib F y (UF d ts v F K):=by
 have fin:∀{t:Nat}{k:Kd}{b:List C}{a:Option Nat}{xs:List C},t≠d->K (updH (eff none d v F) t k b) a xs->UF d ts v F K (updH F t k b) a xs:=fun {t k b a xs} c h=>by
  rw[ox c]at h;exact⟨_,λe=>by rw[yg c,e],h,bW.updH⟩
 have fo:∀{t:Nat}{k:Kd}{b:List C}{a:Option Nat}{xs:List C},t≠d->K (updN (eff none d v F) t k b) a xs->UF d ts v F K (updN F t k b) a xs:=fun {t k b a xs} c h=>by
  rw[Kt c]at h;exact⟨_,λe=>by rw[FL c,e],h,bW.updN⟩
 cases y with
 | tmp t=>
  have c:t≠d:=λe=>n (by simp[tm,e])
  simp only[ib]at h |-;rw[cj c]at h;cases g:F t with
  | H p q=>
   grind
  | c1 i u l a=>
   rw[g]at h;have w:i≠d:=λe=>by have:=o t;rw[g,e]at this;simp[AV.uses]at this
   cases l with
   | cons s l=>
    simp only at h |-;rw[cj w]at h;cases f:F i with
    | H p q=>
     rw[f]at h;obtain⟨r,j,A,B,D,E⟩:=Lq.out h;exact .mk_ ψ
    | _=>grind
   | nil=>
    grind [cj]
  | _=>grind
 | _=>exact h.elim
theorem Rs{K:(Nat->AV)->Option Nat->List C->Prop}(h:vR (eff none d v F) y K)(b:d∉tm y)(c:∀t,(F t).uses d=false):vR F y (UF d ts v F K):=by
 obtain⟨i,xs,a,f⟩:=cB h;refine f F (mK b c) _ ?_;cases g:bk xs with
 | true=>rw[g]at a;exact⟨v,λe=>e,a,bW.refl _ _⟩
 | false=>grind [qA]
def Vh(d:Nat)(ts:List Nat)(v:AV)(F:Nat->AV)(K:(Nat->AV)->List C->Prop)(F1:Nat->AV)(cs:List C):Prop:=∃a,(v=F d->a=F1 d)/\K (eff none d a F1) cs/\bW ts F F1
theorem ye{d:Nat}{ts:List Nat}{c:Nat->Option (Nat × Nat)}(a:d∉ts):∀{parts:List (Nat × Operand)}{cs:List C}{K:(Nat->AV)->List C->Prop}{F:Nat->AV}{v:AV},fillW c parts cs K (eff none d v F)->(∀p,p∈parts->d∉tm p.2)->(∀t,(F t).uses d=false)->
  fillW c parts cs (Vh d ts v F K) F
 | [],cs,K,F,v,h,_,b=>⟨v,λe=>e,h,bW.refl _ _⟩
 | p::rest,cs,K,F,v,h,r,b=>by
  simp only[fillW]at h |-;split at h
  case h_2=>exact h.elim
  rename_i q u;refine uM (Rs (ts:=ts) h ψ b) λw y xs h=>?_
  obtain⟨A,g,h,f⟩:=h;cases i:(Nat.beq xs.length q.2&&Nat.ble (q.1+q.2) cs.length) with
  | false=>grind
  | true=>
   rw[i]at h;simp only[cond_true,dz]at h |-;refine jR (ye a h ψ (f.clean a b)) λB cs2 j=>?_
   obtain⟨k,l,n,o⟩:=j;exact⟨k,λe=>l (g e),n,f.trans o⟩
variable{parts:List (Nat × Operand)}{T:Nat}
theorem Ly(h:kY TE N (eff none d v F) dj T parts K)(a:dj≠d)(b:d∉ts)(c:∀p,p∈parts->d∉tm p.2)(e:∀t,(F t).uses d=false) :
  kY TE N F dj T parts (Fq d ts v F K):=by
 unfold kY at h |-;split at h
 case h_2=>exact h.elim
 rename_i size bytes zero flds k;cases f:Ej TE flds with
 | false=>grind
 | true=>
  rw[f]at h;refine jR (ye b h c e) λl n h=>?_
  obtain⟨o,g,h,i⟩:=h;exact bq (ir (ts:=ts) h a jg) λq j=>Fq.trans g i j
variable{n:Nat}
theorem Hr(h:gz TE N (eff none d v F) dj T n parts K)(a:dj≠d)(c:d∉ts)(f:∀p,p∈parts->d∉tm p.2)(g:∀t,(F t).uses d=false) :
  gz TE N F dj T n parts (Fq d ts v F K):=by
 unfold gz at h |-;obtain⟨e,i,h,b⟩:=iN h;refine b _ ?_;cases j:Nat.ble (n*i.size) 16777216 with
 | false=>grind
 | true=>
  rw[j]at h;simp only[cond_true]at h |-;cases n with
  | zero=>
   cases parts with
   | nil=>exact ir h a jg
   | cons=>exact h.elim
  | succ n=>
   simp only[dz]at h |-;refine jR (ye c h f g) λq r h=>?_
   obtain⟨u,k,h,l⟩:=h;rw[pk]at h |-;exact bq (ir (ts:=ts) h a jg) λw o=>Fq.trans k l o
theorem Qe(h:jy N (eff none d v F) dj (.tmp t) K)(a:dj≠d)(c:d∉ts)(l:t∈ts)(g:∀t,(F t).uses d=false):jy N F dj (.tmp t) (Fq d ts v F K):=by
 have b:t≠d:=ψ
 have std:bB (eff none d v F) (.tmp t) (λf=>bR N (eff none d v F) dj f K)->bB F (.tmp t) (λf=>bR N F dj f (Fq d ts v F K)):=λh=>
  D4 (p:=λF K=>bB F (.tmp t) K) (kD h) a (λn o=>by grind [tm]) c g
 simp only[jy]at h |-;rw[cj b]at h;split at h
 ·rename_i i xs q
  cases j:bk xs with
  | true=>grind [ir]
  | false=>
   rw[j]at h;simp only[cond_false]at h |-;rw[ox b]at h;exact bq (ir (ts:=ts) h a jg) λr k=>Fq.trans (F1:=updH F t (.tup i) _) (λe=>by grind [yg]) bW.updH k
 all_goals exact std h
variable{x:Operand}
theorem Ti{b:Operand}(h:Gd TE N (eff none d v F) dj T x b K)(c:dj≠d)(f:d∉tm x)(g:d∉tm b)(j:∀t,(F t).uses d=false):Gd TE N F dj T x b (Fq d ts v F K):=by
 unfold Gd at h |-;obtain⟨e,A,h,a⟩:=iN h;refine a _ ?_;obtain⟨n,k,i⟩:=nD h;refine i F (mK g j) _ ?_;refine fA (qA (ts:=ts) k f j) λB C D h=>?_
 obtain⟨E,l,h,o⟩:=h;split at h
 case h_2=>exact h.elim
 obtain⟨m,y,p,q,r,u,w,h⟩:=h.out;exact .mk_ ⟨m,y,p,q,r,u,w,_,rfl,bq (ir (ts:=ts) h c jg) λG i=>Fq.trans l o i⟩
theorem Ls(h:lw N (eff none d v F) dj x K)(a:dj≠d)(j:d∉ts)(k:∀t,t∈tm x->t∈ts)(o:∀t,(F t).uses d=false):lw N F dj x (Fq d ts v F K):=by
 have l:∀y,(∀t,t∈tm y->t∈ts)->bB (eff none d v F) y (λn=>bR N (eff none d v F) dj n K)->bB F y (λn=>bR N F dj n (Fq d ts v F K)):=λy q h=>D4 (p:=λF K=>bB F y K) (kD h) a q j o
 have A:∀y,(∀t,t∈tm y->t∈ts)->ib (eff none d v F) y (λb e i=>bR N b dj (.H (kA e) i) K)->ib F y (λb e i=>bR N b dj (.H (kA e) i) (Fq d ts v F K)):=λy q h=>
  fA (qA (ts:=ts) h ψ o) λb e i h=>by
   obtain⟨B,r,h,u⟩:=h;exact bq (ir (ts:=ts) h a jg) λC w=>Fq.trans r u w
 cases x with
 | tmp t=>
  grind [cj,tm,lw]
 | const c=>exact l (.const c) k h
 | global g=>exact l (.global g) k h
 | func f=>exact l (.func f) k h
theorem E9(a:t≠d):kill (eff none d v F) t=eff none d (Qx t v) (kill F t):=by grind [mP,lL,cj,qu]
theorem TJ(h:DK N (eff none d v F) dj x K)(a:dj≠d)(c:d∉ts)(j:∀t,t∈tm x->t∈ts)(l:∀t,(F t).uses d=false):DK N F dj x (Fq d ts v F K):=by
 have f:Gt N (eff none d v F) dj x=Gt N F dj x:=by
  cases x with
  | tmp t=>
   grind [cj,tm,Gt]
  | _=>rfl
 unfold DK at h |-;cases b:NL N dj x with
 | true=>
  rw[b]at h;simp only[cond_true]at h |-;exact ir (ts:=ts) h a jg
 | false=>
 rw[b]at h;simp only[cond_false]at h |-;unfold KU at h |-;rw[f]at h;cases i:Gt N F dj x with
 | none=>grind [Ls]
 | some p=>
  rw[i]at h;simp only at h |-;obtain⟨rfl,n⟩:=Bk i;have g:p.1≠d:=λe=>c (e ▸ j p.1 (by simp[tm]))
  rw[E9 g]at h;exact bq (ir (ts:=ts) h a jg) λo k=>Fq.trans (F1:=kill F p.1) (λe=>by grind [lL]) bW.kill k
theorem JV(h:qO (eff none d v F) x cs K)(l:d∉tm x)(n:∀t,(F t).uses d=false):qO F x cs (Fq d ts v F K):=by
 have fin:∀{t:Nat}{k:Kd}{cs:List C},t≠d->K (updH (eff none d v F) t k cs)->Fq d ts v F K (updH F t k cs):=fun {t k cs} a h=>by
  rw[ox a]at h;exact⟨_,λe=>by rw[yg a,e],h,bW.updH⟩
 have fo:∀{t:Nat}{k:Kd}{cs:List C},t≠d->K (updN (eff none d v F) t k cs)->Fq d ts v F K (updN F t k cs):=fun {t k cs} a h=>by
  rw[Kt a]at h;exact⟨_,λe=>by rw[FL a,e],h,bW.updN⟩
 have finP:∀{t:Nat}{k:Kd}{cs:List C},t≠d->K (Ru (eff none d v F) t k cs)->Fq d ts v F K (Ru F t k cs):=fun {t k cs} a h=>by
  cases k with
  | box=>exact fin a h
  | _=>exact fo a h
 cases x with
 | tmp t=>
  have a:t≠d:=λe=>l (by simp[tm,e])
  simp only[qO]at h |-;rw[cj a]at h;cases c:F t with
  | H k o=>
   grind [dz]
  | ref f p g=>
   rw[c]at h;have i:f≠d:=λe=>by have:=n t;rw[c,e]at this;simp[AV.uses]at this
   cases g with
   | cons s g=>
    simp only at h |-;rw[cj i]at h;cases b:F f with
    | H k o=>
     rw[b]at h;obtain⟨r,j,q,u,w,y⟩:=Pu.out h;exact Pu.mk q u w rfl (finP i y)
    | _=>grind
   | nil=>
    grind [cj,dz]
  | _=>grind
 | _=>exact h.elim
theorem Qr(h:mB TE (eff none d v F) T x y K)(b:d∉ts)(n:d∉tm x)(j:d∉tm y)(c:∀t,(F t).uses d=false):mB TE F T x y (Fq d ts v F K):=by
 unfold mB at h |-;split at h
 ·rename_i i r
  obtain⟨u,k,a,e⟩:=cB h;refine e F (mK j c) _ ?_;cases o:Nat.beq k.length i.size with
  | false=>grind
  | true=>
   rw[o]at a;simp only[cond_true]at a |-;cases p:bk k with
   | true=>grind [JV]
   | false=>
    rw[p]at a;simp only[cond_false]at a |-;refine fA (qA (ts:=ts) a j c) λw q f h=>?_
    obtain⟨A,a,h,l⟩:=h;cases g:Nat.beq f.length i.size with
    | false=>grind
    | true=>rw[g]at h;exact AN (JV (ts:=ts) h n (l.clean b c)) λB e=>Fq.trans a l e
 exact h.elim
def TO(a:d∉tm y):nz (eff none d v F) y=nz F y:=by
 cases y with
 | tmp t=>exact cj λe=>a (by simp[tm,e])
 | _=>rfl
theorem T4{K:Bool->(Nat->AV)->List (List C)->Prop}(h:Dr (eff none d v F) y K)(b:d∉tm y)(c:∀t,(F t).uses d=false):Dr F y λe F1 rows=>∃v1,(v=F d->v1=F1 d)/\K e (eff none d v1 F1) rows/\bW ts F F1:=by
 have a:=TO (F:=F) (v:=v) b;unfold Dr at h |-;rw[a]at h;split at h
 ·refine fA (qA (ts:=ts) h b c) λF1 f g h=>?_
  obtain⟨v1,i,h,j⟩:=h
  grind
 grind [cB,mK,bW.refl]
theorem QO{K:(Nat->AV)->List (List C)->Prop}(h:Bi (eff none d v F) y K)(b:d∉tm y)(c:∀t,(F t).uses d=false):Bi F y λF1 rows=>∃v1,(v=F d->v1=F1 d)/\K (eff none d v1 F1) rows/\bW ts F F1:=by
 obtain⟨e,xs,a,f⟩:=cB h;refine f F (mK b c) _ ?_;split at a
 ·grind [bW.refl]
 ·refine fA (qA (ts:=ts) a b c) λF1 e g h=>?_
  obtain⟨v1,a,h,i⟩:=h
  grind
 exact a.elim
theorem Rf(h:BN TE N (eff none d v F) dj T x y K)(b:dj≠d)(c:d∉ts)(j:d∉tm x)(k:d∉tm y)(f:∀t,(F t).uses d=false):BN TE N F dj T x y (Fq d ts v F K):=by
 obtain⟨e,B,h,a⟩:=iN h;refine a _ (GD (T4 (ts:=ts) h k f) λC D E h=>?_);obtain⟨G,l,h,g⟩:=h;refine BQ (QO (ts:=ts) h j (g.clean c f)) λH i h=>?_
 obtain⟨J,n,h,o⟩:=h;obtain⟨p,q,r,u,w,h⟩:=Ap.out h;refine CU p q r u w rfl (bq (ir (ts:=ts) h b jg) λL A=>?_);exact Fq.trans l g (Fq.trans n o A)
theorem Qo{f:Oper}(B:f.guard=none)(g:Tb f.op=true)(k:f.dst≠some d)(u:d∉f.looksAt ops)(w:∀t,(F t).uses d=false)(h:jw P TE N ops f K (eff none d v F)) :
  jw P TE N ops f (Fq d (f.looksAt ops) v F K) F:=by
 unfold jw gc at h |-;rw[B]at h |-;simp only at h |-;have j:∀t,t∈dE f.op->t∈f.looksAt ops:=λt l=>iV f t l
 have pur:∀b,b≠d->dw P TE (eff none d v F) f.op (λq=>bR N (eff none d v F) b q K)->dw P TE F f.op λq=>bR N F b q (Fq d (f.looksAt ops) v F K):=λb k h=>
  D4 (p:=λF K=>dw P TE F f.op K) (kr h) k j u w
 have dne:∀b,f.dst=some b->b≠d:=ψ
 have tmI:∀x,x∈f.op.operands.toList->∀t,t∈tm x->t∈f.looksAt ops:=λx C t l=>j t (List.mem_flatMap.2 ⟨x,C,l⟩)
 cases e:f.op with
 | store T x y=>
  rw[e]at h tmI;simp only[AZ]at h |-;cases a:f.dst with
  | some b=>rw[a]at h;simp only[kQ]at h;exact h.elim
  | none=>
   grind [Qr,Go.Op.operands]
 | move x=>
  rw[e]at h tmI;cases a:f.dst with
  | none=>rw[a]at h;exact h.elim
  | some b=>
   rw[a]at h;cases x with
   | tmp t=>
    simp only[AZ,kQ]at h |-;exact Qe h (dne b a) u (tmI (.tmp t) (by simp[Op.operands]) t (by simp[tm])) w
   | _=>rw[e]at g;cases g
 | assign x=>
  rw[e]at h tmI
  grind [TJ,AZ,kQ,Go.Op.operands]
 | build T D=>
  rw[e]at h tmI
  grind [Ly,AZ,kQ,Go.Op.operands]
 | buildSlice T n D=>
  rw[e]at h tmI
  grind [Hr,AZ,kQ,Go.Op.operands]
 | extract x i=>rw[e]at h pur;cases a:f.dst with|none=>rw[a]at h;exact h.elim|some b=>rw[a]at h;exact pur b (dne b a) h
 | load T x=>rw[e]at h pur;cases a:f.dst with|none=>rw[a]at h;exact h.elim|some b=>rw[a]at h;exact pur b (dne b a) h
 | fieldAddr T x i=>rw[e]at h pur;cases a:f.dst with|none=>rw[a]at h;exact h.elim|some b=>rw[a]at h;exact pur b (dne b a) h
 | field T x i=>rw[e]at h pur;cases a:f.dst with|none=>rw[a]at h;exact h.elim|some b=>rw[a]at h;exact pur b (dne b a) h
 | binOp o T x y L=>rw[e]at h pur;cases a:f.dst with|none=>rw[a]at h;exact h.elim|some b=>rw[a]at h;exact pur b (dne b a) h
 | unOp o T x=>rw[e]at h pur;cases a:f.dst with|none=>rw[a]at h;exact h.elim|some b=>rw[a]at h;exact pur b (dne b a) h
 | call c=>
  rw[e]at g h tmI;cases E:rj c with
  | none=>grind [Tb]
  | some p=>
   have r:=xv E;subst r;cases a:f.dst with
   | none=>rw[a]at h;exact h.elim
   | some b=>
    grind [Rf,AZ,kQ,Go.Op.operands,Go.Call.operands]
 | slice T x G A H=>
  rw[e]at g h tmI pur;cases G with
  | some _=>cases g
  | none=>
   cases A with
   | none=>cases g
   | some A=>
    cases H with
    | some _=>cases g
    | none=>
     cases a:f.dst with
     | none=>rw[a]at h;exact h.elim
     | some b=>
      rw[a]at h;simp only[AZ,kQ]at h |-;cases J:UO N b with
      | false=>simp_all
      | true=>
       grind [Ti,Go.Op.operands]
 | _=>rw[e]at g;cases g
theorem Tl{a:Oper}(c:a.guard=none)(f:Tb a.op=true)(b:a.dst≠some d)(g:d∉a.looksAt ops)(i:∀t,(F t).uses d=false)(h:jw P TE N ops a K F) :
  jw P TE N ops a (λF1=>K F1/\bW (a.looksAt ops) F F1) F:=by
 refine kB (Qo (d:=d) (v:=F d) c f b g i (by rw[NP];exact h)) λF1 j=>?_
 obtain⟨k,e,l,u⟩:=j
 grind [NP]
theorem bW.setH{ts:List Nat}{t:Nat}{k:Kd}{cs:List C} : bW ts F (setH F t (.H k cs)):=λs e a=>by
 unfold Ab.setH at a;cases b:Nat.beq s t with
 | true=>rw[b]at a;cases a
 | false=>grind
variable{rcs:List C}
theorem JW(h:bR N F d (.H k rcs) K):bR N F d (.H k rcs) λF1=>K F1/\bW ts F F1:=by
 unfold bR at h |-;cases a:(N.free d&&!(AV.H k rcs).uses d) with
 | false=>grind
 | true=>rw[a]at h;exact⟨h,bW.put λe b=>by cases b⟩
theorem uO{off:Nat}{st:cH}{K:(Nat->AV)->List C->Prop}(h:lendAt F t off st n K):lendAt F t off st n λF1 cs=>K F1 cs/\bW ts F F1:=by
 unfold lendAt at h |-;split at h
 all_goals grind [dz,bW.updH]
def lE{ts:List Nat} : ∀{xs:List (Operand × Nat)}{K:(Nat->AV)->List (MA × ru)->Prop}{F:Nat->AV},lendP xs K F->lendP xs (λF1 l=>K F1 l/\bW ts F F1) F
 | [],K,F,h=>⟨h,bW.refl _ _⟩
 | (x,0)::xs,K,F,h=>lE (xs:=xs) h
 | (x,1)::xs,K,F,h=>by
  simp only[lendP]at h |-;split at h
  case h_2=>exact h.elim
  split at h
  ·exact fC (uO (ts:=ts) h) λF1 c h=>cw (lE (ts:=ts) h.1) λb l a=>⟨a.1,h.2.trans a.2⟩
  ·exact fC (uO (ts:=ts) h) λF1 c h=>cw (lE (ts:=ts) h.1) λb l a=>⟨a.1,h.2.trans a.2⟩
  ·exact fC (uO (ts:=ts) h) λF1 c h=>cw (lE (ts:=ts) h.1) λb l a=>⟨a.1,h.2.trans a.2⟩
  exact h.elim
 | (x,n+2)::xs,K,F,h=>by
  simp only[lendP]at h |-;split at h
  case h_2=>exact h.elim
  split at h
  ·split at h
   ·exact cw (lE (ts:=ts) h) λb l a=>⟨a.1,bW.kill.trans a.2⟩
   exact h.elim
  ·exact cw (lE (ts:=ts) h) λb l a=>⟨a.1,bW.kill.trans a.2⟩
  exact h.elim
theorem lI{ts:List Nat}{K:(Nat->AV)->Prop} : ∀{l:List (MA × ru)}{B:List MA}{F:Nat->AV},iz l B K F->iz l B (λF1=>K F1/\bW ts F F1) F
 | [],[],F,h=>⟨h,bW.refl _ _⟩
 | [],_::_,F,h=>h.elim
 | (m,.no)::l,[],F,h=>h.elim
 | (m,.at_ t off st)::l,[],F,h=>h.elim
 | (m,.box t)::l,[],F,h=>h.elim
 | (m,.no)::l,.val _ _::B,F,h=>lI (l:=l) (B:=B) h
 | (m,.no)::l,.mut _ _::B,F,h=>lI (l:=l) (B:=B) h
 | (m,.no)::l,.ptr _::B,F,h=>lI (l:=l) (B:=B) h
 | (m,.at_ t off st)::l,.val _ _::B,F,h=>h.elim
 | (m,.at_ t off st)::l,.ptr _::B,F,h=>h.elim
 | (m,.box t)::l,.val _ _::B,F,h=>h.elim
 | (m,.box t)::l,.mut _ _::B,F,h=>h.elim
 | (m,.at_ t off st)::l,.mut ag out::B,F,h=>by
  simp only[iz]at h |-;split at h
  case h_2=>exact h.elim
  split at h
  ·rename_i k c _ _
   cases d:Nat.ble (off+out.length) c.length with
   | false=>grind
   | true=>
    rw[d]at h;simp only[cond_true,dz]at h |-;exact dA (λb a=>⟨a.1,bW.updH.trans a.2⟩) (lI (ts:=ts) h)
  obtain⟨r,j,e,f,g,i⟩:=Pu.out h;exact Pu.mk e f g rfl (dA (λb a=>⟨a.1,bW.updH.trans a.2⟩) (lI (ts:=ts) i))
 | (m,.box t)::l,.ptr out::B,F,h=>by
  simp only[iz]at h |-;split at h
  ·exact dA (λb a=>⟨a.1,bW.setH.trans a.2⟩) (lI (ts:=ts) h)
  exact h.elim
variable{modes:List Nat}{args:List Operand}{f:Nat}
theorem N2{d:Option Nat}(h:mb P N F d f args modes K):mb P N F d f args modes λF1=>K F1/\bW ts F F1:=by
 unfold mb at h |-;refine cw (lE (ts:=ts) h) λn l h=>?_
 obtain⟨h,c⟩:=h;cases e:(vH l&&Nat.beq args.length modes.length) with
 | false=>grind
 | true=>
  rw[e]at h;refine jK h λb A h=>?_
  obtain⟨o,B,k,rcs,g,a,i⟩:=cy.out h;refine CL g a (dA (λF'' h=>?_) (lI (ts:=ts) i));obtain⟨h,j⟩:=h;cases d with
  | none=>grind [bW.trans]
  | some d=>exact bq (JW (ts:=ts) h) λp a=>⟨a.1,(c.trans j).trans a.2⟩
variable{b:Nat}
theorem RG{d:Option Nat}{c a:Nat}{B:List MA}(h:xg N F d t cs c a e b K k rcs B):xg N F d t cs c a e b (λF1=>K F1/\bW ts F F1) k rcs B:=by
 unfold xg at h |-;split at h
 case h_2=>exact h.elim
 rename_i g i;cases j:(Nat.beq g.length a&&Nat.beq i.length b) with
 | false=>grind
 | true=>
  rw[j]at h;simp only[cond_true,dz]at h |-;cases d with
  | none=>exact⟨h,bW.kill.trans bW.setH⟩
  | some d=>exact bq (JW (ts:=ts) h) λl f=>⟨f.1,(bW.kill.trans bW.setH).trans f.2⟩
theorem P8{d:Option Nat}{a:Nat}(h:kK P N F d f args a b K):kK P N F d f args a b λF1=>K F1/\bW ts F F1:=by
 unfold kK at h |-;split at h
 case h_2=>exact h.elim
 refine l9 h λt e h=>l9 h λg c h=>?_
 split at h
 case h_2=>exact h.elim
 rename_i i p;cases j:(Nat.beq g t&&Nat.ble (e+a) c&&Nat.ble (c+b) i.length) with
 | false=>grind
 | true=>
  rw[j]at h;simp only[cond_true,dz]at h |-;obtain⟨q,B,k,rcs,l,n,o⟩:=cy.out h;exact CL l n (RG o)
def Pp{d:Option Nat}(h:kJ P N F d f args modes K):kJ P N F d f args modes λF1=>K F1/\bW ts F F1:=by
 unfold kJ at h |-;split
 ·rename_i p a;rw[a]at h;exact P8 h
 rename_i a;rw[a]at h;exact N2 h
variable{s:Nat}
theorem TN{dj:Option Nat}{a:Nat->AV}(u:bW ts F a):bW ts F (rv1 F dj s a):=by
 unfold rv1;split
 case h_2=>exact u
 rename_i t c f;cases g:(dne dj s&&dne dj t) with
 | false=>exact u
 | true=>
  simp only[cond_true];split
  case h_2=>exact u
  split
  case h_2=>exact u
  intro q e b;by_cases d:q=s
  ·grind [qn]
  rw[fK _ _ d]at b;exact u q e b
theorem HI{ts:List Nat}{dj:Option Nat} : ∀{l:List Nat}{a:Nat->AV},bW ts F a->bW ts F (rvE F dj l a)
 | [],_,u=>u
 | _::l,_,u=>HI (l:=l) (TN u)
theorem Rk{a:Oper}(k:a.guard=none)(i:p7 a.op=true)(h:jw P TE N ops a K F):jw P TE N ops a (λF1=>K F1/\bW (a.looksAt ops) F F1) F:=by
 have pur:∀d,a.dst=some d->dw P TE F a.op (λg=>bR N F d g K)->dw P TE F a.op λg=>bR N F d g λF1=>K F1/\bW (a.looksAt ops) F F1:=λd l h=>by
  have n:ig P TE N ops a K F:=by grind [ig,gc]
  obtain⟨y,g,j,o⟩:=xS n;have b:=j.dst;rw[l]at b;simp only[C1]at b;subst b;have A:=j.at_ F (Ce _ _) (λF1=>K F1/\bW (a.looksAt ops) F F1) ⟨o,bW.put λe q=>(j.from_ e q).imp id ψ⟩
  grind [ig,gc]
 unfold jw gc at h |-;rw[k]at h |-;simp only at h |-;cases f:a.op with
 | call c=>
  rw[f]at h i;have r:rj c=none:=by grind [p7,rj]
  have pl:kO P TE N a K F->kO P TE N a (λF1=>K F1/\bW (a.looksAt ops) F F1) F:=λh=>by grind [kO,kQ]
  cases t:AZ N F (.call c) with
  | some p=>
   rw[t]at h;simp only at h |-;have lt:tI P N F a.dst p.1 p.2.1 p.2.2 K->tI P N F a.dst p.1 p.2.1 p.2.2 λF1=>K F1/\bW (a.looksAt ops) F F1:=λh=>r6 (Pp (ts:=a.looksAt ops) h) λF1 ⟨h,u⟩=>by grind [nA,HI]
   cases w:Ns N (.call c) with
   | false=>grind
   | true=>
    rw[w]at h;rcases h with h|h
    ·exact .pl (pl h)
    exact .lt (lt h)
  | none=>
   grind [kO]
 | _=>rw[f]at i;cases i
theorem QB{a:Oper}(c:a.guard=none)(e:(Tb a.op || p7 a.op)=true)(b:a.dst≠some d)(f:d∉a.looksAt ops)(g:∀t,(F t).uses d=false)(h:jw P TE N ops a K F) :
  jw P TE N ops a (λF1=>K F1/\bW (a.looksAt ops) F F1) F:=by grind [Tl,Rk]
def Gq(d:Nat)(ts:List Nat)(F:Nat->AV)(K:(Nat->AV)->Prop)(F1:Nat->AV):Prop:=∃a,K (eff none d a F1)/\bW ts F F1
def Gq.trans{a:Nat->AV}(b:bW ts F F1)(h:Gq d ts F1 K a):Gq d ts F K a:=by
 obtain⟨c,e,f⟩:=h;exact⟨c,e,b.trans f⟩
theorem EK(a:t≠d):setH (eff none d v F) t av=eff none d v (setH F t av):=by grind [mP,fK,cj,setH]
theorem ve{off:Nat}{st:cH}{K:(Nat->AV)->List C->Prop}(h:lendAt (eff none d v F) t off st n K)(a:t≠d):lendAt F t off st n λF1 cs=>∃v1,K (eff none d v1 F1) cs/\bW ts F F1:=by
 unfold lendAt at h |-;rw[cj a]at h;split at h
 case h_2=>exact h.elim
 split at h
 ·grind [dz,ox,bW.updH]
 obtain⟨r,j,b,c,e,f⟩:=Lq.out h;refine .mk_ ?_
 grind [ox,bW.updH]
theorem ns{ts:List Nat}{d:Nat}(a:d∉ts):∀{xs:List (Operand × Nat)}{K:(Nat->AV)->List (MA × ru)->Prop}{F:Nat->AV}{v:AV},lendP xs K (eff none d v F)->(∀x,x∈xs->d∉tm x.1)->(∀t,(F t).uses d=false)->
  lendP xs (λF1 l=>(∃v1,K (eff none d v1 F1) l/\bW ts F F1)/\∀q,q∈l->d∉q.2.slot) F
 | [],K,F,v,h,_,_=>⟨⟨v,h,bW.refl _ _⟩,ψ⟩
 | (x,0)::xs,K,F,v,h,w,c=>by
  simp only[lendP]at h |-;refine cw (ns a h ψ c) λF1 l h=>⟨h.1,λq b=>?_⟩
  rcases List.mem_cons.1 b with rfl|b
  ·exact λu=>by cases u
  exact h.2 q b
 | (x,1)::xs,K,F,v,h,w,c=>by
  simp only[lendP]at h |-;split at h
  case h_2=>exact h.elim
  rename_i s;have j:s≠d:=λe=>w _ I2 (by simp[tm,e])
  rw[cj j]at h;have y:∀{t:Nat}{F1:Nat->AV}{l:List (MA × ru)}{m:MA}{f:Nat}{A:cH}{K2:(Nat->AV)->List (MA × ru)->Prop},t≠d->((∃v1,K2 (eff none d v1 F1) ((m,.at_ t f A)::l)/\bW ts F F1)/\∀q,q∈l->d∉q.2.slot)->(∃v1,K2 (eff none d v1 F1) ((m,.at_ t f A)::l)/\bW ts F F1)/\∀q,q∈(m,ru.at_ t f A)::l->d∉q.2.slot:=λg h=>⟨h.1,λq b=>by
    rcases List.mem_cons.1 b with rfl|b
    · exact λu=>g (V1.1 u).symm
    exact h.2 q b⟩
  split at h
  ·exact fC (ve (ts:=ts) h j) λF1 k h=>by
    obtain⟨v1,h,i⟩:=h;exact cw (ns a h ψ (i.clean a c)) λB l h=>by
     obtain⟨⟨o,h,p⟩,r⟩:=h;exact y (K2:=K) j ⟨⟨o,h,i.trans p⟩,r⟩
  ·exact fC (ve (ts:=ts) h j) λF1 k h=>by
    obtain⟨v1,h,i⟩:=h;exact cw (ns a h ψ (i.clean a c)) λB l h=>by
     obtain⟨⟨o,h,p⟩,r⟩:=h;exact y (K2:=K) j ⟨⟨o,h,i.trans p⟩,r⟩
  ·rename_i t f A G D
   have g:t≠d:=λe=>by have:=c s;rw[D,e]at this;simp[AV.uses]at this
   exact fC (ve (ts:=ts) h g) λF1 k h=>by
    obtain⟨v1,h,i⟩:=h;exact cw (ns a h ψ (i.clean a c)) λB l h=>by
     obtain⟨⟨o,h,p⟩,r⟩:=h;exact y (K2:=K) g ⟨⟨o,h,i.trans p⟩,r⟩
  exact h.elim
 | (x,n+2)::xs,K,F,v,h,w,c=>by
  simp only[lendP]at h |-;split at h
  case h_2=>exact h.elim
  rename_i s;have j:s≠d:=λe=>w _ I2 (by simp[tm,e])
  rw[cj j]at h;have y:∀{t:Nat}{k:List C},t≠d->lendP xs (λE l=>K E ((.ptr k,.box t)::l)) (kill (eff none d v F) t)->lendP xs (λF1 l=>(∃v1,K (eff none d v1 F1) ((.ptr k,.box t)::l)/\bW ts F F1)/\∀q,q∈(MA.ptr k,ru.box t)::l->d∉q.2.slot) (kill F t):=fun {t k} g h=>by
   rw[E9 g]at h;refine cw (ns a h ψ ((bW.kill (ts:=ts)).clean a c)) λB l h=>?_
   obtain⟨⟨o,h,p⟩,r⟩:=h;refine⟨⟨o,h,bW.kill.trans p⟩,λq b=>?_⟩;rcases List.mem_cons.1 b with rfl|b
   ·exact λu=>g (V1.1 u).symm
   exact r q b
  split at h
  ·rename_i t D
   have g:t≠d:=λe=>by have:=c s;rw[D,e]at this;simp[AV.uses]at this
   rw[cj g]at h;split at h
   all_goals simp_all
  all_goals simp_all
theorem tq{d:Nat}{v:AV}(a:∀t,(F t).uses d=false):∀{l:List (MA × ru)}{xs:List Operand}{K:Bool->List MA->Prop},valsP (eff none d v F) l xs K->(∀x,x∈xs->d∉tm x)->valsP F l xs K
 | [],[],K,h,_=>h
 | (m,.no)::l,x::xs,K,h,b=>by
  obtain⟨f,g,c,e⟩:=cB h;exact e F (mK ψ a) _ (tq a c ψ)
 | (m,.at_ t off st)::l,x::xs,K,h,b=>tq (l:=l) (xs:=xs) a h ψ
 | (m,.box t)::l,x::xs,K,h,b=>tq (l:=l) (xs:=xs) a h ψ
 | [],_::_,K,h,_=>h.elim
 | (m,.no)::l,[],K,h,_=>h.elim
 | (m,.at_ t off st)::l,[],K,h,_=>h.elim
 | (m,.box t)::l,[],K,h,_=>h.elim
theorem lG{ts:List Nat}{d:Nat}{K:(Nat->AV)->Prop} : ∀{l:List (MA × ru)}{B:List MA}{F:Nat->AV}{v:AV},iz l B K (eff none d v F)->(∀q,q∈l->d∉q.2.slot)->iz l B (Gq d ts F K) F
 | [],[],F,v,h,_=>⟨v,h,bW.refl _ _⟩
 | [],_::_,F,v,h,_=>h.elim
 | (m,.no)::l,[],F,v,h,_=>h.elim
 | (m,.at_ t off st)::l,[],F,v,h,_=>h.elim
 | (m,.box t)::l,[],F,v,h,_=>h.elim
 | (m,.no)::l,.val _ _::B,F,v,h,b=>lG (l:=l) (B:=B) h ψ
 | (m,.no)::l,.mut _ _::B,F,v,h,b=>lG (l:=l) (B:=B) h ψ
 | (m,.no)::l,.ptr _::B,F,v,h,b=>lG (l:=l) (B:=B) h ψ
 | (m,.at_ t off st)::l,.val _ _::B,F,v,h,_=>h.elim
 | (m,.at_ t off st)::l,.ptr _::B,F,v,h,_=>h.elim
 | (m,.box t)::l,.val _ _::B,F,v,h,_=>h.elim
 | (m,.box t)::l,.mut _ _::B,F,v,h,_=>h.elim
 | (m,.at_ t off st)::l,.mut ag out::B,F,v,h,b=>by
  have c:t≠d:=λe=>b _ I2 (by simp[ru.slot,e])
  have a:∀q,q∈l->d∉q.2.slot:=ψ
  simp only[iz]at h |-;rw[cj c]at h;split at h
  case h_2=>exact h.elim
  split at h
  ·rename_i k n _ _
   cases o:Nat.ble (off+out.length) n.length with
   | false=>grind
   | true=>
    rw[o]at h;simp only[cond_true,dz]at h |-;rw[ox c]at h;exact dA (λg f=>Gq.trans bW.updH f) (lG (ts:=ts) h a)
  obtain⟨r,j,p,u,w,i⟩:=Pu.out h;rw[ox c]at i;exact Pu.mk p u w rfl (dA (λg f=>Gq.trans bW.updH f) (lG (ts:=ts) i a))
 | (m,.box t)::l,.ptr out::B,F,v,h,b=>by
  have c:t≠d:=λe=>b _ I2 (by simp[ru.slot,e])
  have a:∀q,q∈l->d∉q.2.slot:=ψ
  simp only[iz]at h |-;rw[cj c]at h;split at h
  ·rw[EK c]at h
   exact dA (λg f=>Gq.trans bW.setH f) (lG (ts:=ts) h a)
  exact h.elim
theorem PA{dj:Option Nat}(h:mb P N (eff none d v F) dj f args modes K)(n:dj≠some d)(a:d∉ts)(g:∀x,x∈args->d∉tm x)(i:∀t,(F t).uses d=false) :
  mb P N F dj f args modes (Gq d ts F K):=by
 unfold mb at h |-;refine cw (ns a h (λx o=>g _ (List.of_mem_zip o).1) i) λE l h=>?_
 obtain⟨⟨G,h,c⟩,p⟩:=h;cases q:(vH l&&Nat.beq args.length modes.length) with
 | false=>grind
 | true=>
  rw[q]at h;refine jK (tq (c.clean a i) h g) λb A h=>?_
  obtain⟨H,B,k,rcs,r,e,u⟩:=cy.out h;refine CL r e (dA (λF'' h=>?_) (lG (ts:=ts) u p));obtain⟨w,h,j⟩:=h;cases dj with
  | none=>exact⟨w,h,c.trans j⟩
  | some dj=>
   refine bq (ir (ts:=ts) h ψ jg) λJ e=>?_
   obtain⟨y,-,C,D⟩:=e;exact⟨y,C,(c.trans j).trans D⟩
theorem R5{dj:Option Nat}{c a:Nat}{B:List MA}(f:t≠d)(g:dj≠some d)(h:xg N (eff none d v F) dj t cs c a e b K k rcs B):xg N F dj t cs c a e b (Gq d ts F K) k rcs B:=by
 unfold xg at h |-;split at h
 case h_2=>exact h.elim
 rename_i i j;cases l:(Nat.beq i.length a&&Nat.beq j.length b) with
 | false=>grind
 | true=>
  rw[l]at h;simp only[cond_true,dz]at h |-;rw[E9 f,EK f]at h;cases dj with
  | none=>exact⟨_,h,bW.kill.trans bW.setH⟩
  | some dj=>
   refine bq (ir (ts:=ts) h ψ jg) λr n=>?_
   obtain⟨o,-,p,q⟩:=n;exact⟨o,p,(bW.kill.trans bW.setH).trans q⟩
theorem JH{K:Nat->Nat->Prop}(b:d∉tm x)(c:∀t,(F t).uses d=false)(h:Az (eff none d v F) x K):Az F x λt o=>t≠d/\K t o:=by
 obtain⟨s,t,f,rfl,a,i⟩:=t6 h;have g:s≠d:=λe=>b (by simp[tm,e])
 rw[cj g]at a;have j:t≠d:=λe=>by have:=c s;rw[a,e]at this;simp[AV.uses]at this
 grind [Az]
theorem Qc{dj:Option Nat}{a:Nat}(h:kK P N (eff none d v F) dj f args a b K)(g:dj≠some d)(c:∀x,x∈args->d∉tm x)(e:∀t,(F t).uses d=false) :
  kK P N F dj f args a b (Gq d ts F K):=by
 unfold kK at h |-;split at h
 case h_2=>exact h.elim
 refine l9 (JH (c _ (by simp)) e h) λt j h=>?_
 obtain⟨i,h⟩:=h;refine l9 (JH (c _ (by simp)) e h) λk l h=>?_
 replace h:=h.2;rw[cj i]at h;split at h
 all_goals grind [dz,cy.out,CL,R5]
theorem Nk{dj:Option Nat}(h:kJ P N (eff none d v F) dj f args modes K)(a:dj≠some d)(b:d∉ts)(c:∀x,x∈args->d∉tm x)(e:∀t,(F t).uses d=false) :
  kJ P N F dj f args modes (Gq d ts F K):=by grind [Qc,PA,kJ]
theorem QH{dj:Option Nat}{q:Nat}(c:q≠s):rv1 F dj s F1 q=F1 q:=by
 unfold rv1;cases F s with
 | ref t a b=>
  cases b with
  | cons=>rfl
  | nil=>
   simp only;cases(dne dj s&&dne dj t) with
   | false=>rfl
   | true=>
    simp only[cond_true];cases F1 t with
    | H k d=>
     cases k with
     | box=>
      simp only;cases F1 s with
      | dead=>grind [fK]
      | _=>rfl
     | _=>rfl
    | _=>rfl
 | _=>rfl
theorem Th{dj:Option Nat}{v1:AV}(c:∀t,(F t).uses d=false):∃a,rv1 (eff none d v F) dj s (eff none d v1 F1)=eff none d a (rv1 F dj s F1):=by
 by_cases b:s=d
 ·subst b
  have f:∃a,rv1 (eff none s v F) dj s (eff none s v1 F1)=eff none s a F1:=by
   unfold rv1;rw[mP];have set:∀x:AV,setH (eff none s v1 F1) s x=eff none s x F1:=λx=>by grind [qn,mP,fK,cj]
   grind
  obtain⟨a,g⟩:=f;refine⟨a,g.trans ?_⟩
  grind [mP,cj,QH]
 refine⟨v1,?_⟩;unfold rv1;rw[cj b];cases h:F s with
 | ref t i j=>
  cases j with
  | cons=>rfl
  | nil=>
   have k:t≠d:=λe=>by have:=c s;rw[h,e]at this;simp[AV.uses]at this
   grind [cj,EK]
 | _=>rfl
def NS{d:Nat}{dj:Option Nat}{v:AV}(a:∀t,(F t).uses d=false):∀{l:List Nat}{v1:AV}{F1:Nat->AV},∃b,rvE (eff none d v F) dj l (eff none d v1 F1)=eff none d b (rvE F dj l F1)
 | [],v1,_=>⟨v1,rfl⟩
 | s::l,v1,F1=>by
  simp only[rvE];obtain⟨b,e⟩:=Th (dj:=dj) (v:=v) (v1:=v1) (s:=s) (F1:=F1) a;rw[e];exact NS a
theorem Rc{a:Oper}(B:a.guard=none)(k:p7 a.op=true)(g:a.dst≠some d)(w:d∉a.looksAt ops)(n:∀t,(F t).uses d=false)(h:jw P TE N ops a K (eff none d v F)) :
  jw P TE N ops a (Gq d (a.looksAt ops) F K) F:=by
 have f:∀t,t∈dE a.op->t∈a.looksAt ops:=λt o=>iV a t o
 have tmI:∀x,x∈a.op.operands.toList->∀t,t∈tm x->t∈a.looksAt ops:=λx y t o=>f t (List.mem_flatMap.2 ⟨x,y,o⟩)
 have pur:∀dj,dj≠d->dw P TE (eff none d v F) a.op (λj=>bR N (eff none d v F) dj j K)->dw P TE F a.op λj=>bR N F dj j (Fq d (a.looksAt ops) v F K):=λdj g h=>
  D4 (p:=λF K=>dw P TE F a.op K) (kr h) g f w n
 unfold jw gc at h |-;rw[B]at h |-;simp only at h |-;cases b:a.op with
 | call c=>
  rw[b]at h k tmI;have q:rj c=none:=by grind [p7,rj]
  have r:AZ N (eff none d v F) (.call c)=AZ N F (.call c):=by grind [p7,AZ]
  rw[r]at h;have pl:kO P TE N a K (eff none d v F)->kO P TE N a (Gq d (a.looksAt ops) F K) F:=λh=>by
   unfold kO at h |-;rw[b]at h |-;cases C:a.dst with
   | none=>grind
   | some dj=>
    rw[C]at h;simp only[kQ,q]at h |-;have A:=pur dj ψ;rw[b]at A;obtain⟨j,D,-,E⟩:=kr (A h);exact E F (Ce _ _) _ (bq D λQ G=>by
      obtain⟨v1,-,H,u⟩:=G;exact⟨v1,H,u⟩)
  cases J:AZ N F (.call c) with
  | some p=>
   rw[J]at h;simp only at h |-;have i:∀x,x∈p.2.1->d∉tm x:=λx y L=>by grind [p7,AZ,Go.Op.operands,Go.Call.operands]
   have lt:tI P N (eff none d v F) a.dst p.1 p.2.1 p.2.2 K->tI P N F a.dst p.1 p.2.1 p.2.2 (Gq d (a.looksAt ops) F K):=λh=>r6 (Nk (ts:=a.looksAt ops) h g w i n) λF1 h=>by
    obtain⟨v1,h,u⟩:=h;rw[nA]at h |-;obtain⟨M,e⟩:=NS (dj:=a.dst) (v:=v) (l:=UA N.mo) (v1:=v1) (F1:=F1) n;rw[e]at h;exact⟨M,h,HI u⟩
   cases O:Ns N (.call c) with
   | false=>grind
   | true=>
    rw[O]at h;rcases h with h|h
    ·exact .pl (pl h)
    exact .lt (lt h)
  | none=>
   grind [kO]
 | _=>rw[b]at k;cases k
theorem QU{a:Oper}(e:a.guard=none)(b:(Tb a.op || p7 a.op)=true)(c:a.dst≠some d)(f:d∉a.looksAt ops)(g:∀t,(F t).uses d=false)(h:jw P TE N ops a K (eff none d v F)) :
  jw P TE N ops a (Gq d (a.looksAt ops) F K) F:=by
 rw[W7]at b;rcases b with b|b
 ·refine kB (Qo e b c f g h) λl i=>?_
  obtain⟨j,-,k,u⟩:=i;exact⟨j,k,u⟩
 grind [Rc]
structure mY(ops:Array Oper)(ds:List Nat)(F:Nat->AV)(listed:Array Bool):Prop where
 dst:∀(j:Nat)(o:Oper)(d:Nat),qF ds o=true->ops[j]? = some o->listed.getD j true=false->o.dst=some d->∀t,(F t).uses d=false
 mv:∀(j:Nat)(o:Oper)(T:Option Nat)(s:Nat),qF ds o=true->ops[j]? = some o->listed.getD j true=false->o.guard=none->oy o.op=some (T,s)->jF ops o s=true->∀t,(F t).uses s=false
variable{j:Nat}
theorem mY.put{o:Option Nat}(h:mY ops ds F listed)(p:∀b a g,qF ds a=true->b≠j->ops[b]? = some a->listed.getD b true=false->a.dst=some g->av.uses g=false)(q:∀b a T s,qF ds a=true->b≠j->ops[b]? = some a->listed.getD b true=false->a.guard=none->oy a.op=some (T,s)->jF ops a s=true->av.uses s=false) :
  mY ops ds (eff o d av F) (listed.setIfInBounds j true):=by
 refine⟨λb a g i c e k t=>?_,λb a T s i c e r l n t=>?_⟩
 ·have f:=ja e
  rw[getD_set_ne true (Ne.symm f)]at e;exact kE ψ (h.dst b a g i c e k t)
 have f:=ja e;rw[getD_set_ne true (Ne.symm f)]at e;exact kE ψ (h.mv b a T s i c e r l n t)
theorem xc{o:Oper}(h:Ub o=true):o.guard=none:=by grind [Ub]
theorem Qs(h:(!ts.any (Nat.beq d))=true):d∉ts:=λa=>by grind [Nat.beq_refl]
theorem PB{a b:Oper}{c:Bool}(h:U1 ops a b c=true)(f:b.dst=some d):a.guard=none/\(Tb a.op || p7 a.op)=true/\a.dst≠some d/\d∉a.looksAt ops/\b.guard=none/\d∉b.looksAt ops/\(c=true\/∀T s,oy b.op=some (T,s)->jF ops b s=false):=by
 unfold U1 at h;rw[f]at h;simp only[I0]at h;obtain⟨⟨⟨⟨⟨⟨g,i⟩,n⟩,j⟩,k⟩,l⟩,o⟩:=h;refine⟨xc g,i,λe=>?_,Qs j,xc k,Qs l,?_⟩
 ·simp_all
 grind
def PQ(h:wt ops j i=true):oG ops j i:=sS j _ (λ_ a=>.one (yr a)) i h
theorem KM{o:Oper}(h:qF ds o=true):∃d,o.dst=some d/\ds.any (Nat.beq d)=true:=by grind [qF]
structure RM(ops:Array Oper)(ds:List Nat)(nm:Nat->Bool):Prop where
 back:∀(j:Nat)(oj:Oper),ops[j]? = some oj->∀e∈oj.after,Region.binds .any e=true->e.on<j
 apart:∀(i j:Nat)(oi oj:Oper),qF ds oi=true->qF ds oj=true->i≠j->ops[i]? = some oi->ops[j]? = some oj->dl oj i=true\/dl oi j=true\/oi.apart ops oj=true
 look:∀(i j:Nat)(oi oj:Oper)(d:Nat),qF ds oi=true->i≠j->ops[i]? = some oi->ops[j]? = some oj->oi.dst=some d->d∈oj.looksAt ops->dl oj i=true
 differ:∀(i j:Nat)(oi oj:Oper)(d:Nat),qF ds oi=true->qF ds oj=true->i≠j->ops[i]? = some oi->ops[j]? = some oj->oi.dst=some d->oj.dst≠some d
 nf:∀(i j:Nat)(oi oj:Oper),qF ds oi=true->qF ds oj=false->i≠j->ops[i]? = some oi->ops[j]? = some oj->wt ops j i=true\/wt ops i j=true\/U1 ops oj oi (nm i)=true
 mvs:∀(j:Nat)(oj:Oper)(T:Option Nat)(s:Nat),qF ds oj=true->ops[j]? = some oj->oy oj.op=some (T,s)->jF ops oj s=true->ds.any (Nat.beq s)=true
theorem p6{d:Oper}(a:RM ops ds nm)(b:DC ops listed)(c:ops[j]? = some d)(f:∀e∈d.after,Region.binds .any e=true->listed.getD e.on false=true)(g:wt ops j i=true):listed.getD i false=true:=
 nP b a.back (PQ g) (I4.1 c).1 λk h=>by grind [bx,cx]
theorem unl{k:Nat}(h1:listed.getD k true=false)(a:listed.getD k false=true):False:=ψ
theorem i6.trans{a:Nat->AV}(h1:i6 F F1 ts)(c:i6 F1 a ts):i6 F a ts:=λt b=>by
 obtain⟨d,e⟩:=h1 t b;obtain⟨f,g⟩:=c t b
 grind
theorem mY.us{g:Oper}(n:RM ops ds nm)(h:mY ops ds F listed)(o:ops[j]? = some g)(r:∀e∈g.after,Region.binds .any e=true->listed.getD e.on false=true)(u:bW (g.looksAt ops) F F1):mY ops ds F1 (listed.setIfInBounds j true):=by
 refine⟨λi k t l b c d=>u.clean (λf=>?_) (h.dst i k t l b ?_ d),λi k T s l b c w p q=>u.clean (λf=>?_) (h.mv i k T s l b ?_ w p q)⟩
 ·have a:=ja c
  rw[getD_set_ne true (Ne.symm a)]at c;have:=n.look i j k g t l a b o d f
  grind [cx]
 ·have a:=ja c
  rwa [getD_set_ne true (Ne.symm a)]at c
 ·grind [ja,gF,df]
 have a:=ja c
 rwa [getD_set_ne true (Ne.symm a)]at c
theorem Tq{p:Nat}{b:Oper}(a:ops[p]? = some b)(j:d∉b.looksAt ops)(k:∀t,(F1 t).uses d=false)(e:b.dst≠some d)(h:TA P TE ops p (eff none d v F1)):TA P TE ops p F1:=by
 obtain⟨f,g,i,c⟩:=h;rw[bx a]at g i c;refine⟨f,by grind [bx],?_,?_⟩
 ·grind [bx,xa,mK]
 rw[bx a];obtain⟨l,n,-,o⟩:=kr c
 grind [cj,mK,iV]
theorem HJ(W:RM ops ds nm){b:Oper}(D:ops[i]? = some b)(w:qF ds b=true) :
  ∀(fuel:Nat)(listed:Array Bool)(F:Nat->AV)(l:Option Nat)(av:AV),i∈Region.ready .any ops listed->mY ops ds F listed->DC ops listed->Yl P TE N ops b F l d av->(nm i=true->l=none)->GW P TE N ops ds K fuel (listed.setIfInBounds i true) (eff l d av F)->GW P TE N ops ds K (fuel+1) listed F:=by
 have self:∀(listed:Array Bool)(F:Nat->AV)(l:Option Nat)(av:AV),i∈Region.ready .any ops listed->mY ops ds F listed->Yl P TE N ops b F l d av->∀X:(Nat->AV)->Prop,X (eff l d av F)->lV P TE N ops b X F:=λlisted F l av hr a c X hK=>by
  have f:=(mem_ready.1 hr).1;refine c.at_ F (Ce _ _) (a.dst i b d w D f c.dst) (λs hs=>?_) X hK;obtain⟨B,⟨T,h2⟩,h3⟩:=c.mvl s hs;exact a.mv i b T s w D f B h2 h3
 intro fuel
 induction fuel with
 | zero=>
  intro listed F l av hr a E c hnm H;refine⟨ψ,λj hj=>?_⟩;by_cases n:j=i
  ·grind [vF]
  have:=ready_mono hj n;rw[H.1]at this;cases this
 | succ fuel ih=>
  intro listed F l av hr a E c hnm H;refine⟨ψ,λj hj=>?_⟩;by_cases n:j=i
  ·grind [vF]
  have B:=H.2 j (ready_mono hj n);obtain⟨R,g,q,hall⟩:=mem_ready.1 hj;obtain⟨f,oi',C,halli⟩:=mem_ready.1 hr;rw[D]at C;simp only[C1]at C;subst C;have noedge:∀k ok,ops[k]? = some ok->listed.getD k true=false->dl g k=false:=λk ok hk hkun=>by grind [cx]
  have noedge':∀k ok,ops[k]? = some ok->listed.getD k true=false->dl b k=false:=λk ok hk hkun=>by grind [cx]
  have cd:∀t,(F t).uses d=false:=a.dst i b d w D f c.dst
  unfold vF at B |-;rw[q]at B |-;simp only at B |-;by_cases G:qF ds g=true
  case neg=>
   rw[CB G]at B |-;have hji1:wt ops j i=false:=by grind [p6]
   have hij1:wt ops i j=false:=by grind [p6]
   have hfb:U1 ops g b (nm i)=true:=by grind [RM.nf]
   obtain⟨J,r,A,g4,g5,g6,g7⟩:=PB hfb c.dst;have hmv:l=none:=by
    cases l with
    | none=>rfl
    | some s=>
     obtain⟨-,⟨T,q1⟩,q2⟩:=c.mvl s rfl
     grind
   subst hmv;refine kB (QU J r A g4 cd B) λF1 hF1=>?_
   obtain⟨v,⟨S,hrun⟩,u⟩:=hF1;have cd1:∀t,(F1 t).uses d=false:=u.clean g4 cd
   have hisz:i<listed.size:=ψ
   have hrd:TA P TE ops i (eff none d v F1):=S i (by simp[hisz]) (by grind [bx]) hji1;refine⟨λp hp1 L hp3=>?_,ih (listed.setIfInBounds j true) F1 none v (ready_mono hr (Ne.symm n)) (a.us W q hall u) (E.put hj) ?_ (λ_=>rfl) (by grind [Array.setIfInBounds_comm])⟩
   ·have hpi:p≠i:=ψ
    have hpl:p<ops.size:=by
     rcases Nat.lt_or_ge p ops.size with h|h
     ·exact h
     rw[show d9 ops p=default by simp[d9,Z7,Array.getElem?_eq_none h]]at L;cases L
    have h0:ops[p]? = some ops[p]:=ψ
    have U:=L;rw[bx h0]at U;refine Tq h0 (λhlk=>?_) cd1 (W.differ i p b _ d w U (Ne.symm hpi) D h0 c.dst) (S p (getD_set_true hp1) L hp3);have:=W.look i p b _ d w (Ne.symm hpi) D h0 c.dst hlk;exact unl f (E p _ h0 hp1 i this)
   obtain⟨dp,q1,q2,q3⟩:=hrd;rw[bx D]at q1 q2 q3;have hdp:dp=d:=by grind [Yl.dst]
   subst hdp;rw[mP]at q3;obtain⟨M,e1,e2,e3⟩:=kr q3;subst e1;have agr1:i6 (eff none dp M F1) F1 (b.looksAt ops):=mK g6 cd1;have fromv:eI F1 (b.looksAt ops) M:=λe he=>by
    rcases e2 e he with h|⟨t,Y,h⟩
    all_goals grind [iV,cj]
   have Z:M.uses dp=false:=by
    cases hu:M.uses dp with
    | false=>rfl
    | true=>
     rcases fromv dp hu with h|⟨t,_,h⟩
     all_goals grind
   refine⟨c.dst,c.lt,Z,fromv,ψ,λF' hA O _ X hK=>?_⟩;have agr2:=agr1.trans hA;unfold lV;rw[xa agr2,q2];simp only;unfold ig gc
   grind [i6.mono,iV,Yl.lt,E0,bR]
  rw[CD G]at B |-;have hap:b.apart ops g=true:=by grind [RM.apart]
  obtain⟨ap1,ap2,ap3⟩:=Oper.apart_spec hap;have hdl:d∉g.looksAt ops:=ap1 d c.dst;have cdj':∀o,g.dst=some o->∀t,(F t).uses o=false:=λo hdj=>a.dst j g o G q R hdj
  have cmv:∀s,l=some s->(∀t,(F t).uses s=false)/\s∉g.looksAt ops/\s∈b.looksAt ops:=λs hs=>by
   obtain⟨J,⟨T,r⟩,A⟩:=c.mvl s hs;exact⟨a.mv i b T s w D f J r A,λhl=>n ((gF A).2 i j b g D q (df r) hl).symm,df r⟩
  have cmvj:∀T s,g.guard=none->oy g.op=some (T,s)->jF ops g s=true->(∀t,(F t).uses s=false)/\s∉b.looksAt ops/\s∈g.looksAt ops:=λT s J r A=>
   ⟨a.mv j g T s G q R J r A,λhl=>n ((gF A).2 i j b g D q hl (df r)).symm,df r⟩
  have avno:∀e,e∉b.looksAt ops->(∀t,(F t).uses e=false)->av.uses e=false:=λe B h2=>by
   cases hu:av.uses e with
   | false=>rfl
   | true=>
    rcases c.from_ e hu with h|⟨t,_,h⟩
    all_goals grind
  obtain⟨mvj,o,avj,y,hKj⟩:=qk B (λo hdj t=>kE ψ (cdj' o hdj t)) (λT s J r A t=>by grind [kE]);have hdne:d≠o:=λe=>ap2 d c.dst (by rw[y.dst,e])
  have hdjl:o∉b.looksAt ops:=ap3 o y.dst;have cdj:∀t,(F t).uses o=false:=cdj' o y.dst
  have cmj:∀s,mvj=some s->(∀t,(F t).uses s=false)/\s∉b.looksAt ops/\s∈g.looksAt ops:=λs hs=>by
   obtain⟨J,⟨T,r⟩,A⟩:=y.mvl s hs
   grind
  have lookj:∀t,t∈g.looksAt ops->eff l d av F t=F t:=λt Y=>by grind [eff]
  have looki:∀t,t∈b.looksAt ops->eff mvj o avj F t=F t:=λt Y=>by grind [eff]
  have avjno:∀e,e∉g.looksAt ops->(∀t,(F t).uses e=false)->avj.uses e=false:=λe B h2=>by
   cases hu:avj.uses e with
   | false=>rfl
   | true=>
    rcases y.from_ e hu with h|⟨t,Y,h⟩
    all_goals grind
  have agrj:i6 (eff l d av F) F (g.looksAt ops):=λt Y=>by grind [eff]
  refine y.at_ F agrj cdj ψ _ (ih (listed.setIfInBounds j true) (eff mvj o avj F) l av (ready_mono hr (Ne.symm n)) (a.put (λj' o' d' hm' V Q hl' O=>?_) (λj' o' T s hm' V Q hl' J r A=>?_)) (E.put hj) ?_ hnm ?_)
  ·refine avjno d' (λh=>?_) (a.dst j' o' d' hm' Q hl' O)
   grind [RM.look]
  ·exact avjno s (λh=>V ((gF A).2 j' j o' g Q q (df r) h)) (a.mv j' o' T s hm' Q hl' J r A)
  ·refine⟨c.dst,c.lt,c.self,λe he=>?_,c.mvl,λF' hA O hs' X hK=>c.at_ F' (λt Y=>?_) O hs' X hK⟩
   ·rcases c.from_ e he with h|⟨t,Y,h⟩
    all_goals grind
   obtain⟨a1,a2⟩:=hA t Y
   grind [eff]
  rw[Array.setIfInBounds_comm _ _ n];have:eff l d av (eff mvj o avj F)=eff mvj o avj (eff l d av F):=by grind [eff]
  grind
theorem B9:∀{b:List Nat}{X:Prop}{F:Nat->AV},Pf P TE ops b X F->X/\∀p,p∈b->TA P TE ops p F
 | [],X,F,h=>⟨h,ψ⟩
 | p::l,X,F,h=>by
  simp only[Pf]at h;unfold Ul at h;cases c:(d9 ops p).dst with
  | none=>grind
  | some d=>
   rw[c]at h;simp only at h;cases f:KI F (d9 ops p) with
   | some q=>grind
   | none=>
    rw[f]at h;simp only at h;obtain⟨g,i,-,-⟩:=kr h;obtain⟨e,k,j⟩:=(show g=F d/\X/\∀p,p∈l->TA P TE ops p F from⟨i.out.1,B9 i.out.2⟩)
    refine⟨k,λn a=>?_⟩;rcases List.mem_cons.1 a with rfl|a
    ·exact⟨d,c,f,jN h λg h=>h.out.1⟩
    grind
variable{l:List (Nat × List Nat)}
theorem uC : xl l i=true↔∃p,p∈l/\p.1=i:=by grind [W2,Nat.beq_refl,xl]
theorem qD{k:Nat × List Nat} : xl (k::l) i=(Nat.beq k.1 i || xl l i):=rfl
theorem ER(b:RM ops ds nm){K:(Nat->AV)->Prop} : ∀(l:List (Nat × List Nat))(listed:Array Bool)(F:Nat->AV),Fw ops ds l=true->listed.size=ops.size->(∀j,j<ops.size->listed.getD j true = !xl l j)->mY ops ds F listed->DC ops listed->
  Lk P TE N ops ds nm l K F->GW P TE N ops ds K l.length listed F
 | [],listed,F,_,hs,E,_,_,c=>by
  refine⟨?_,c⟩;apply List.eq_nil_iff_forall_not_mem.2;intro j R;obtain⟨S,o,ho,-⟩:=mem_ready.1 R;have G:=(I4.1 ho).1;rw[E j G]at S;cases S
 | k::l,listed,F,A,hs,E,a,H,c=>by
  simp only[Fw,I0]at A;obtain⟨⟨⟨⟨q1,q2⟩,q3⟩,Z⟩,q5⟩:=A;have hk:k.1<ops.size:=by simp_all
  have r:ops[k.1]? = some ops[k.1]:=ψ
  have hrf:∀i,i<ops.size->listed.getD i true=true->listed.getD i false=true:=ψ
  have hready:k.1∈Region.ready .any ops listed:=mem_ready.2 ⟨by grind [qD,Nat.beq_refl],_,r,λe he hb=>by
    have G:=b.back k.1 _ r e he hb
    grind [bx,qD]⟩
  have B:∀j,j<ops.size->(listed.setIfInBounds k.1 true).getD j true = !xl l j:=λj R=>by
   by_cases w:j=k.1
   ·simp_all
   rw[getD_set_ne true (Ne.symm w),E j R,qD,show Nat.beq k.1 j=false by rw[<-X6,Nat.beq_eq];exact Ne.symm w];rfl
  show GW P TE N ops ds K (l.length+1) listed F;simp only[Lk]at c;rw[bx r]at c Z;have U:listed.getD k.1 true=false:=(mem_ready.1 hready).1;cases f:qF ds ops[k.1] with
  | true=>
   rw[f]at c;simp only[cond_true]at c;obtain⟨mv,d,av,hy,c,hnm⟩:=L8 c (λd hd=>a.dst k.1 _ d f r U hd) (λT s g1 g2 g3=>a.mv k.1 _ T s f r U g1 g2 g3);have C:∀e∈ops[k.1].after,Region.binds .any e=true->listed.getD e.on false=true:=by grind [Go.mem_ready]
   refine HJ b r f l.length listed F mv av hready a H hy hnm (ER b l _ _ q5 (by simpa using hs) B (a.put (λO Q V g D n hl'' J=>?_) (λO Q T s g D n hl'' g1 g2 g3=>?_)) (H.put hready) c)
   ·cases hu:av.uses V with
    | false=>rfl
    | true=>
     rcases hy.from_ V hu with h|⟨t,_,h⟩
     ·have:=b.look O k.1 Q _ V g D n r J h
      grind [cx]
     rw[a.dst O Q V g n hl'' J t]at h;cases h
   cases hu:av.uses s with
   | false=>rfl
   | true=>
    rcases hy.from_ s hu with h|⟨t,_,h⟩
    ·grind [gF,df]
    rw[a.mv O Q T s g n hl'' g1 g2 g3 t]at h;cases h
  | false=>
   rw[f]at c Z;simp only[cond_false]at c;simp only[Bool.false_or,I0]at Z;obtain⟨⟨r1,r2⟩,r3⟩:=Z;refine⟨ψ,λj R=>?_⟩;obtain⟨hjun,oj,y,C⟩:=mem_ready.1 R;have hjlt:=(I4.1 y).1;have w:j=k.1:=by grind [uC,p6]
   subst w;rw[r]at y;simp only[C1]at y;subst y;unfold vF;rw[r];simp only[f,CB (show ¬false=true by decide)];have post:∀u,Pf P TE ops k.2 (Lk P TE N ops ds nm l K u) u->mY ops ds u (listed.setIfInBounds k.1 true)->(∀p,listed.getD p false=true->qF ds (d9 ops p)=true->wt ops k.1 p=false->TA P TE ops p u)/\GW P TE N ops ds K l.length (listed.setIfInBounds k.1 true) u:=λu L W=>by
    obtain⟨X,hrd⟩:=B9 L;refine⟨λp hp1 hp2 hp3=>hrd p ?_,ER b l _ _ q5 (by simpa using hs) B W (H.put hready) X⟩;have hpl:p<ops.size:=ψ
    grind [gU,qD,W2]
   cases hlater:l.any (λj=>qF ds (d9 ops j.1)) with
   | false=>
    refine kB c λu L=>post u L ⟨λO Q V g n hl'' J=>?_,λO Q T s g n hl''=>?_⟩
    all_goals grind [uC,bx]
   | true=>
    rw[hlater]at r3;simp only[Bool.not_true,Bool.false_or,I0]at r3;obtain⟨x,hx1,q⟩:=X4.1 hlater;have Y:listed.getD x.1 true=false/\x.1<ops.size:=by
     have G:x.1<ops.size:=by
      rcases Nat.lt_or_ge x.1 ops.size with h|h
      ·exact h
      rw[show d9 ops x.1=default by simp[d9,Z7,Array.getElem?_eq_none h]]at q;cases q
     grind [uC]
    have M:ops[x.1]? = some ops[x.1]:=ψ
    rw[bx M]at q;obtain⟨d,hd,hdd⟩:=KM q;have hxk:x.1≠k.1:=ψ
    refine kB (QB (d:=d) (xc r3.1) r3.2 (λe=>?_) (λhlk=>?_) (a.dst x.1 _ d q M Y.1 hd) c) λu S=>post u S.1 (a.us b r C S.2)
    ·grind [qF]
    have:=b.look x.1 k.1 _ _ d q hxk M r hd hlk
    grind [cx]
theorem Do{sch:List (Nat × List Nat)}(h:E7 ops ds sch=true):RM ops ds (UD sch)/\Fw ops ds sch=true/\sch.length=ops.size/\∀j,j<ops.size->xl sch j=true:=by
 unfold E7 at h;simp only[I0]at h;obtain⟨⟨p,k⟩,l⟩:=h;have C:=λj (o:j<ops.size)=>gU p o
 have r:∀(i j:Nat)(c b:Oper),i≠j->ops[i]? = some c->ops[j]? = some b->B3 ops ds (UD sch) i j=true:=λi j c b a f g=>by grind [gU,Nat.beq_eq]
 refine⟨⟨λj b o e t u=>?_,λi j c b n q a f g=>?_,λi j c b d n a f g w D=>?_,λi j c b d n q a f g w t=>?_,λi j c b n q a f g=>?_,λj b T s n o y A=>?_⟩,l,W2 k,λj o=>?_⟩
 ·grind [bx,Nat.blt_eq]
 ·grind [bx,B3]
 ·have:=r i j c b a f g
  unfold B3 at this;rw[bx f,bx g,n]at this;have B:vq ops i j=true:=by grind [bx,Nat.beq_refl,vq]
  grind
 ·grind [bx,Nat.beq_refl,B3]
 all_goals grind [bx,B3]
theorem uK{l:List Nat} : Ed l j=true↔j∈l:=by grind [W2,Nat.beq_refl,Ed]
def FK{p:Nat->Prop} : ∀{l:List Nat}{i:Nat},UQ p i l->∀j,j∈i::l->p j
 | [],i,h,j,a=>by rw[V1.1 a];exact h
 | k::l,i,h,j,a=>by
  rcases List.mem_cons.1 a with rfl|a
  ·exact h.1
  exact FK h.2 j a
theorem EW{l:List Nat}{K:Prop}{p:Nat->Prop}(h:UM l K p):(l=[]->K)/\∀j∈l,p j:=by
 cases l with
 | nil=>exact⟨λ_=>h,ψ⟩
 | cons i l=>exact⟨ψ,FK h⟩
theorem rK{done:List Nat}(h:listed.size=ops.size)(b:∀j,j<ops.size->listed.getD j true=Ed done j)(l:∀k∈done,k<ops.size) : j∈Region.ready .any ops listed↔j∈N3 ops done:=by
 have c:∀i,listed.getD i false=Ed done i:=λi=>by grind [uK]
 rw[mem_ready];unfold N3;rw[V5,List.mem_range,I0];constructor
 ·grind [bx]
 rintro⟨a,n,d⟩
 refine⟨ψ,ops[j],X7 a,λe f g=>?_⟩;have:=Y4.1 d e (by rw[bx (X7 a)];simpa using f)
 grind
theorem RP{K:(Nat->AV)->Prop} : ∀(n:Nat)(done:List Nat)(listed:Array Bool)(F:Nat->AV),listed.size=ops.size->(∀j,j<ops.size->listed.getD j true=Ed done j)->(∀k∈done,k<ops.size)->Te P TE N ops K n done F->GW P TE N ops [] K n listed F
 | 0,done,listed,F,c,a,f,h=>by
  obtain⟨g,l⟩:=EW h;have o:N3 ops done=[]:=List.eq_nil_iff_forall_not_mem.2 λj b=>l j b
  exact⟨List.eq_nil_iff_forall_not_mem.2 λj b=>(by grind [rK]),g o⟩
 | n+1,done,listed,F,c,a,f,h=>by
  obtain⟨g,l⟩:=EW h;refine⟨λo=>g (List.eq_nil_iff_forall_not_mem.2 λj b=>(by rw[<-rK c a f,o]at b;cases b)),λi t=>?_⟩;have d:=(rK c a f).1 t;have q:=l i d;have u:i<ops.size:=List.mem_range.1 (V5.1 d).1;have r:ops[i]? = some ops[i]:=ψ
  unfold vF;rw[r];simp only;rw[bx r]at q;have w:qF [] ops[i]=false:=by grind [qF]
  rw[CB (by rw[w];decide)];refine kB q λy A=>⟨λp _ B=>?_,RP n (i::done) _ y (by simpa using c) (λj b=>?_) (λk C=>?_) A⟩
  ·grind [qF]
  ·by_cases e:j=i
   ·subst e
    rw[show Ed (j::done) j=true from uK.2 ψ];simp[c,b]
   rw[getD_set_ne true (Ne.symm e),a j b]
   grind [uK]
  grind
theorem xo(g:∀t i,TE t=some i->bP P t i)(y:P.follows .mixedOrders=true){id:Nat}{tb:List (Nat × Nat × List Nat)}(b:mR tb id ops=true)(c:DD P TE N tb id ops K F)(A:St w0 M S0 N F a w)(B:∀F' C D,K F'->St w0 M S0 N F' C D->Q .normal C D):(Code.region id ops true).wp P Q a w:=by
 unfold mR at b;unfold DD at c;cases q:yB tb id with
 | none=>grind
 | some p=>
  obtain⟨m,L⟩:=p;rw[q]at b c;simp only at b c;cases k:Nat.ble 65536 m with
  | true=>
   rw[k]at c;refine wp_region_any y ?_;have f:St w0 M S0 N F a {w with drawn:=w.drawn+1}:=by
    obtain⟨S,φ,h⟩:=A;exact⟨S,φ,h.more (w1:={w with drawn:=w.drawn+1}) (λ_ _ h=>h) ψ ⟨rfl,rfl,rfl,X3 _,λ_ _ _=>rfl,λ_ _ _ _=>rfl,λ_ _ _ _=>rfl⟩⟩
   refine rO g (ds:=[]) B ops.size (Array.replicate ops.size false) _ a _ ?_ f;exact RP ops.size [] _ F (by simp) (λj n=>by simp[n,Ed]) ψ c
  | false=>
  rw[k]at b c;simp only[cond_false]at b c;cases r:Nat.ble 256 m with
  | false=>
   grind [Dz]
  | true=>
   rw[r]at b c;simp only[cond_true,Kr]at b c;generalize L.take (m - 256)=ds at b c;generalize dec (L.drop (m - 256))=sch at b c;obtain⟨E,l,e,G⟩:=Do b;refine wp_region_any y ?_;have f:St w0 M S0 N (Ab.clr ds F) a {w with drawn:=w.drawn+1}:=by
    have O:=A.clr ds;obtain⟨S,φ,h⟩:=O;exact⟨S,φ,h.more (w1:={w with drawn:=w.drawn+1}) (λ_ _ h=>h) ψ ⟨rfl,rfl,rfl,X3 _,λ_ _ _=>rfl,λ_ _ _ _=>rfl,λ_ _ _ _=>rfl⟩⟩
   refine rO g (ds:=ds) B ops.size (Array.replicate ops.size false) _ a _ ?_ f;have u:∀d,ds.any (Nat.beq d)=true->∀t,(Ab.clr ds F t).uses d=false:=λd R t=>by
    rw[E8];cases X:ds.any (λd=>(F t).uses d) with
    | true=>rfl
    | false=>
     simp_all
   rw[<-e];refine ER E sch _ _ l (by simp[e]) (λj n=>by simp_all) ⟨λj o d H J _ R t=>?_,λj o T s H J _ _ U V t=>u s (E.mvs j o T s H J U V) t⟩ (λj Y n Z=>by
     have W:=(I4.1 n).1
     simp_all) c
   grind [KM]
end
def gL:List (Option Nat)->Kd
 | [ag]=>kA ag
 | a=>.tup a
def rF:ResultVar->Nat
 | .tmp t=>t
 | .cell t _=>t
def AY(tmps:Array Value):ResultVar->Sem Value
 | .tmp t=>pure (tmps.getD t undef)
 | .cell a t=>do loadVar t (<-asAddr (tmps.getD a undef))
def resOne(TE:Nat->Option TI)(F:Nat->AV)(r:ResultVar)(K:Option Nat->List C->Prop):Prop:=
 match r with
 | .tmp t=>(match F t with
   | .H .one cs=>K none cs
   | .H .agg cs=>K (some cs.length) cs
   | _=>False)
 | .cell t T=>match TE T with
  | some i=>bif i.agg || Nat.beq i.size 1 then(match F t with
    | .H .box cs=>bif Nat.beq cs.length i.size then K (qH i) cs else False
    | _=>False) else False
  | none=>False
def resA(TE:Nat->Option TI)(F:Nat->AV):List ResultVar->List Nat->(List (Option Nat)->List C->Prop)->Prop
 | [],_,K=>K [] []
 | r::rs,seen,K=>bif seen.any (Nat.beq (rF r)) then False else resOne TE F r λb c=>resA TE F rs (rF r::seen) λd a=>K (b::d) (c++a)
def UJ:RA->AV
 | .val a cs=>.H (kA a) cs
 | .ptr cs=>.iref cs 0
 | .fn Ok=>.fv Ok
def w9:Nat->List RA->List (Nat × AV)
 | _,[]=>[]
 | i,A::As=>(i,UJ A)::w9 (i+1) As
inductive MC:C->C->Prop
 |rfl_ (c:C):MC c c
 |z_:MC .z (.s .own [])
 |own_ (rows rows':List (List C)) (hl:rows.length=rows'.length) (hk:∀(i:Nat)(r r':List C),rows[i]? = some r->rows'[i]? = some r'->r.length=r'.length)
   (hr:∀(i j:Nat)(r r':List C)(c c':C),rows[i]? = some r->rows'[i]? = some r'->r[j]? = some c->r'[j]? = some c'->MC c c'):MC (.s .own rows) (.s .own rows')
def Pq(cs a:List C):Prop:=cs.length=a.length/\∀(j:Nat)(c b:C),cs[j]? = some c->a[j]? = some b->MC c b
def Pq.nil:Pq [] []:=⟨rfl,λj c a h=>by simp at h⟩
variable{cs a:List C}
theorem Pq.cons{c b:C}(h:MC c b)(d:Pq cs a):Pq (c::cs) (b::a):=by
 refine⟨by simp[d.1],λj y e f g=>?_⟩;cases j with
 | zero=>grind
 | succ j=>exact d.2 j y e (by simpa using f) (by simpa using g)
def MC.rep{r k:List C}(h:Pq r k):MC (.s .own (List.replicate n r)) (.s .own (List.replicate n k)):=by
 refine .own_ _ _ (by simp) (λi a b d e=>?_) (λi j a b c p d e l o=>?_)
 ·have f:=List.mem_replicate.1 (O2 d)
  have g:=List.mem_replicate.1 (O2 e);rw[f.2,g.2];exact h.1
 have f:=List.mem_replicate.1 (O2 d);have g:=List.mem_replicate.1 (O2 e);rw[f.2]at l;rw[g.2]at o;exact h.2 j c p l o
theorem Rm{w:World}{S Y:ah}{c:C}{v:Value}(h:dY w S Y c v):∀t,MC c t->dY w S Y t v:=by
 induction h with
 | z F a=>
  intro t j;cases j with
  | rfl_=>exact .z _ _
  | z_=>exact .nil _ _ _ trivial
 | nil F o a K=>
  intro t j;cases j with
  | rfl_=>exact .nil _ _ _ K
  | own_ d e E=>obtain rfl:e=[]:=X8 (by simpa using E.symm);exact .nil _ _ _ trivial
 | own F o g k n y d u f K J L p A D R T j G X=>
  intro t M;cases M with
  | rfl_=>exact .own _ o g k n y d u f K J L p A D R T j G
  | own_ d e E Z U=>
   have V:∀(i:Nat)(W:List C),e[i]? = some W->∃r,d[i]? = some r:=ψ
   refine .own _ .own g k n y e u f trivial (E.symm.trans J) (λW hr'=>?_) p A D R T j ψ
   all_goals grind [List.mem_iff_getElem?]
 | v F x N=>intro t j;cases j;exact .v _ _ N
 | x F u N=>intro t j;cases j;exact .x _ _ N
 | W F g O k n y d u J L p hS G X=>intro t j;cases j;exact .W _ g O k n y d u J L p hS G
 | m F b l es q D P he Q B=>intro t j;cases j;exact .m _ b l es q D P he Q B
 | it F r b since c0 l seen q cur left D U P B G Q E H=>intro t j;cases j;exact .it _ r b since c0 l seen q cur left D U P B G Q E H
def WK(cs a:List C):Prop:=NH cs a\/Pq cs a
inductive jm(k k':Kd)(cs cs':List C):Prop
 |mk_ (h:k=k'/\WK cs cs')
def nh:∀(cs:List C),NH cs cs
 | []=>trivial
 | c::cs=>by
  refine⟨?_,nh cs⟩;cases c with
  | s o a=>cases o<;>rfl
  | x=>trivial
  | _=>rfl
variable{k k':Kd}
def jm.mk(h1:k=k')(b:cs=a):jm k k' cs a:=by refine .mk_ ?_;exact⟨h1,.inl (b ▸ nh cs)⟩
def jm.wk(h1:k=k')(b:NH cs a):jm k k' cs a:=.mk_ ⟨h1,.inl b⟩
def jm.dk(h1:k=k')(b:Pq cs a):jm k k' cs a:=.mk_ ⟨h1,.inr b⟩
def jm.out(h:jm k k' cs a):k=k'/\WK cs a:=by obtain⟨h⟩:=h;exact h
theorem WK.len(h:WK cs a):cs.length=a.length:=h.elim (λh=>(sX h).1) (λh=>h.1)
theorem WK.row{w:World}{S Y:ah}{c:List C}{u:Nat->Value}(a:WK cs c)(h:cL w S Y cs u):cL w S Y c u:=by
 rcases a with a|a
 ·exact Ef a h
 obtain⟨f,k,l,n⟩:=h;refine⟨f,λj i b=>?_,λj b=>l j (by rw[a.1];exact b),λj o b e=>n j o (by rw[a.1];exact b) (by rw[a.1];exact e)⟩;have g:=(Z2.1 b).1;have d:cs[j]? = some (cs[j]'(by rw[a.1];exact g)):=ψ
 exact Rm (k j _ d) i (a.2 j _ i d b)
def Q2(TE:Nat->Option TI)(c:List ResultVar)(k:Kd)(rcs:List C):Exit->(Nat->AV)->Prop:=λe F=>
 match e with
 | .normal=>resA TE F c [] λa b=>jm (gL a) k b rcs
 | .ret=>resA TE F c [] λa b=>jm (gL a) k b rcs
 | _=>False
def Rl(F:Nat->AV)(t:Nat)(rcs:List C):Prop:=
 match F t with
 | .H .box cs=>jm .box .box cs rcs
 | .ref a 0 []=>(match F a with
   | .H .box cs=>jm .box .box cs rcs
   | _=>False)
 | _=>False
def U0(t:Nat)(rcs:List C):Exit->(Nat->AV)->Prop:=λe F=>
 match e with
 | .normal=>Rl F t rcs
 | .ret=>Rl F t rcs
 | _=>False
section
variable{P:Program}{w0 w w1:World}{M S0 S:ah}{N:fy}{φ:Nat->ah}{F:Nat->AV}{a:Act}{TE:Nat->Option TI}
theorem aZ.resOne(h:aZ w0 M S0 N S φ F a w)(n:∀t i,TE t=some i->bP P t i){r:ResultVar}{K:Option Nat->List C->Prop}(b:resOne TE F r K) :
  ∃ag cs v,K ag cs/\bv w S (φ (rF r)) ag cs v/\(AY a.tmps r).run P w=.ok v w:=by
 cases r with
 | tmp t=>
  have e:=h.slot t;simp only[Ab.resOne]at b;cases p:F t with
  | H k cs=>
   rw[p]at b e;obtain⟨E,Y,G,j,H,A,l⟩:=e;cases k with
   | one=>exact⟨none,cs,tvs a t,b,⟨A,_,rfl,l.mono (λ_ _ h=>h) j⟩,rfl⟩
   | agg=>
    obtain⟨arr,q,u⟩:=A;refine⟨some cs.length,cs,tvs a t,b,⟨rfl,ch w .agg (tvs a t),?_,l.mono (λ_ _ h=>h) j⟩,rfl⟩;rw[q];have:=qh arr;rw[u]at this;exact this
   | _=>exact b.elim
  | _=>grind
 | cell t T=>
  have e:=h.slot t;simp only[Ab.resOne]at b;split at b
  case h_2=>exact b.elim
  rename_i i J;have L:=n _ _ J;cases B:(i.agg || Nat.beq i.size 1) with
  | false=>grind
  | true=>
   rw[B]at b;simp only[cond_true]at b;cases p:F t with
   | H k cs=>
    rw[p]at b e;cases k with
    | box=>
     simp only at b;cases D:Nat.beq cs.length i.size with
     | false=>grind
     | true=>
      rw[D]at b;have O:=W2 D;obtain⟨E,Y,G,j,H,⟨g,o,q,Q⟩,l⟩:=e;have c:∀d,d<i.size->cel w g (o+d)=some (ch w .box (tvs a t) d):=λd R=>by grind [ch]
      have f:=y7 (w:=w) L B c;refine⟨_,cs,_,b,⟨by grind [po],_,rfl,l.mono (λ_ _ h=>h) j⟩,?_⟩;have y:a.tmps.getD t undef=.pointer (some ⟨g,o,none⟩):=q;simp only[AY,y,asAddr];exact f
    | _=>exact b.elim
   | _=>grind
def Jw{ag:Option Nat}{cs:List C}{v:Value}{Y:ah}(h:bv w S Y ag cs v):∃u,v.cells.toList=(List.range cs.length).map u/\cL w S Y cs u/\v=mkv ag u:=by
 obtain⟨a,u,rfl,b⟩:=h;refine⟨u,?_,b,rfl⟩;rw[qx (λe=>by subst e;exact b.one (by simp at a;omega)),a]
theorem HP{d e:ah}{cs a:List C}{u g:Nat->Value}(h:cL w S d cs u)(h':cL w S e a g)(p:∀b o,d b o->¬e b o) :
  cL w S (λb o=>d b o\/e b o) (cs++a) (λj=>if j<cs.length then u j else g (j - cs.length)):=by
 obtain⟨f,q,r,t⟩:=h;obtain⟨i,k,l,n⟩:=h';refine⟨λj=>if j<cs.length then f j else i (j - cs.length),λj c y=>?_,ψ,ψ⟩
 all_goals grind
theorem aZ.resA(h:aZ w0 M S0 N S φ F a w)(e:∀t i,TE t=some i->bP P t i):∀{p:List ResultVar}{seen:List Nat}{K:List (Option Nat)->List C->Prop},resA TE F p seen K->
  ∃sh cs vs u,K sh cs/\(p.mapM (AY a.tmps)).run P w=.ok vs w/\zg sh vs/\sh.length=p.length/\vw sh=cs.length/\
   (vs.flatMap λv=>v.cells.toList)=(List.range cs.length).map u/\(∀ag,sh=[ag]->∃v,vs=[v]/\bv w S (λb o=>∃t,t∉seen/\φ t b o) ag cs v)/\cL w S (λb o=>∃t,t∉seen/\φ t b o) cs u
 | [],seen,K,c=>⟨[],[],[],λ_=>undef,c,rfl,trivial,rfl,rfl,rfl,ψ,cL.nil _ _ _ _⟩
 | r::p,seen,K,c=>by
  simp only[Ab.resA]at c;cases d:seen.any (Nat.beq (rF r)) with
  | true=>grind
  | false=>
   rw[d]at c;simp only[cond_false]at c;have L:rF r∉seen:=λY=>by grind [Nat.beq_refl]
   obtain⟨ag,cs,v,c,q,G⟩:=h.resOne e c;obtain⟨sh,f,vs,O,Q,y,A,B,R,hcells,-,g⟩:=aZ.resA h e c;obtain⟨u,D,H,k⟩:=Jw q;have T:∀b o,φ (rF r) b o->¬∃t,t∉rF r::seen/\φ t b o:=λb o U ⟨t,Z,E⟩=>h.dis _ _ ψ b o U E
   refine⟨ag::sh,cs++f,v::vs,λj=>if j<cs.length then u j else O (j - cs.length),Q,?_,?_,by simp[B],?_,?_,?_,?_⟩
   ·simp_all
   ·obtain⟨V,-⟩:=q
    cases ag with
    | none=>
     refine⟨?_,A⟩;rw[k];have J:(u 0).oneCell'=true:=H.one (by simp at V;omega);show(u 0).cells = #[u 0];cases W:u 0<;>first|(rw[W]at J;cases J;done)|rfl
    | some n=>exact⟨⟨_,by rw[k];rfl,by simp⟩,A⟩
   ·rw[rH,Z3,R,q.1]
   ·simp only[C8,D,hcells,Z3]
    apply List.ext_getElem?
    grind
   ·intro X l
    simp only[List.cons.injEq]at l;obtain⟨rfl,rfl⟩:=l;cases vs with
    | cons _ _=>exact A.elim
    | nil=>
     have:f=[]:=X8 (by simp_all);subst this;exact⟨v,rfl,by rw[List.append_nil];exact q.mono (λ_ _ h=>h) ψ⟩
   exact(HP H g T).mono (λ_ _ h=>h) ψ
theorem uG:∀{A:List RA}{vs:List Value}(i:Nat),zF w S A vs->∀t,(lay (w9 i A) t=.dead)\/(∃a v,i<=t/\vs[t - i]? = some v/\lay (w9 i A) t=UJ a/\ov w S a v)
 | [],_,i,_,t=>.inl rfl
 | a::A,[],i,h,t=>h.elim
 | a::A,v::vs,i,h,t=>by
  simp only[w9,lay];cases b:Nat.beq t i with
  | true=>
   have:=W2 b;subst this;exact .inr ⟨a,v,X3 _,by simp,rfl,h.1⟩
  | false=>
   have c:t≠i:=λe=>by simp_all
   rcases uG (i+1) h.2 t with d|⟨f,g,d,j,k⟩
   all_goals grind
theorem ov.slot{A:RA}{v:Value}(h:ov w S A v){tv:Nat->Value} : cQ w S F tv NO (UJ A) v:=by
 cases A with
 | val f a=>exact bv.slot h
 | ptr a=>obtain⟨g,b,u,c,d,e⟩:=h;exact⟨g,b,u,by rw[c,Nat.add_zero],d,e⟩
 | fn Ok=>exact h
def Dq:∀{A:List RA}{vs:List Value},zF w S A vs->A.length=vs.length
 | [],[],_=>rfl
 | _::_,_::_,h=>by simp[Dq h.2]
 | [],_::_,h=>h.elim
 | _::_,[],h=>h.elim
variable{ck:Nat->Array Oper->Bool}{rcs: List C}{D: Nat -> Array Oper -> ((Nat -> AV) -> Prop) -> (Nat -> AV) -> Prop}
theorem M6{f : Nat}{d : Func}{c : Code}{sh : Bool}{A : List RA}{k : Kd}(K : ∀t i, TE t = some i -> bP P t i)(hf : P.funcs[f]? = some d)(hn : (d.name == "runtime.NumGoroutine") = false)(p:d.body=some c)(hD:vg P N ck D)(hc:ge ck c=true)(hN:A.length+(d.ntmps - A.length)=N.n)(hkp:N.kp=[])(U:sh=true\/hO rcs)(hp:aw P TE N D c (Q2 TE d.results.toList k rcs) (lay (w9 0 A))):ar P f sh A k rcs:=by
 refine⟨⟨d,hf,hn,by rw[p];rfl⟩,λw S r hS hA=>?_⟩;have hlen:=Dq hA;refine calls_of_wp hf p ?_;have V:St w NO S N (lay (w9 0 A)) {tmps:=r.toArray++Array.replicate (d.ntmps - r.toArray.size) undef,defers:=[]} w:=by
  refine⟨S,λ_=>NO,λt=>?_,λ_ _ _ _ _ h=>h.elim,λ_ _ _ h=>h.elim,λ_ _ _ h=>h.elim,λ_ _ h=>h,ψ,Ca _ _,by simp;omega,rfl,ψ⟩;rcases uG 0 hA t with y|⟨A0,v,-,B,G,h4⟩
  ·rw[y];trivial
  rw[G];have hv:tvs {tmps:=r.toArray++Array.replicate (d.ntmps - r.toArray.size) undef,defers:=[]} t=v:=by
   have hlt:=(Z2.1 B).1;simp only[tvs,Z7]
   grind
  grind [ov.slot]
 refine iC K hD c hc _ _ _ _ w hp V λe F' J g W Z=>?_
 obtain⟨S',φ',h⟩:=Z;have fin:resA TE F' d.results.toList [] (λsh L=>jm (gL sh) k L rcs)->J.defers=[]/\∃v,(results d J.tmps).run P g=.ok v g/\(∃v',Ending.returned v=.returned v'/\bA NO w g/\∃X S1:ah,(∀b o,X b o->b<g.heap.size/\w.heap.size<=b)/\
     (∀b o,S1 b o->(sh=true/\S b o)\/(b<g.heap.size/\w.heap.size<=b))/\(∀b o,X b o->¬S1 b o)/\fN g NO k rcs.length v'/\cL g S1 X rcs (ch g k v')):=by
  intro hr;obtain⟨shs,L,a,u,M,hrun,q,hln,R,hcells,l,O⟩:=h.resA K hr;obtain⟨rfl,hwk⟩:=M.out;refine⟨h.defers,?_⟩;have H:(results d J.tmps).run P g=.ok (if h:a.toArray.size=1 then a.toArray[0] else .tuple a.toArray) g:=by
   have e:results d J.tmps=(do let r <-d.results.mapM (AY J.tmps);pure (if h:r.size=1 then r[0] else .tuple r)):=by
    unfold results
    congr 1
   rw[e,<-Array.toArray_toList (xs:=d.results),List.mapM_toArray]
   simp_all
  refine⟨_,H,_,rfl,h.old,λb o=>∃t,φ' t b o,λb o=>(sh=true/\S' b o)\/(S' b o/\w.heap.size<=b),λb o ⟨t,p⟩=>⟨(h.ex t b o p).1,(h.ex t b o p).2.resolve_right (λh=>h)⟩,λb o p=>?_,λb o ⟨t,p⟩ hb'=>h.disS t b o p ψ,?_⟩
  ·rcases p with⟨y,B⟩|⟨y,B⟩
   ·rcases(h.sup b o B).2 with G|G|G
    ·grind
    ·exact .inr ⟨(h.sup b o B).1,G⟩
    exact G.elim
   exact .inr ⟨(h.sup b o y).1,B⟩
  have Q:fN g NO (gL shs) L.length (if h:a.toArray.size=1 then a.toArray[0] else .tuple a.toArray)/\cL g S' (λb o=>∃t,φ' t b o) L (ch g (gL shs) (if h:a.toArray.size=1 then a.toArray[0] else .tuple a.toArray)):=by
   have E:∀b o,(∃t,t∉([]:List Nat)/\φ' t b o)->∃t,φ' t b o:=ψ
   match shs,q,l,R with
   | [],q,_,R=>
    cases a with
    | cons _ _=>exact q.elim
    | nil=>
     have:L=[]:=ψ
     subst this;exact⟨⟨_,rfl,trivial,rfl⟩,cL.nil _ _ _ _⟩
   | [T],_,l,_=>
    obtain⟨v,rfl,hv⟩:=l T rfl;have:=(hv.mono (λ_ _ h=>h) E).slot (F:=F') (tv:=tvs J);obtain⟨X1,Y,y,B,G,h4,h5⟩:=this;refine⟨?_,h5.mono (λ_ _ h=>h) B⟩;cases T<;>exact h4
   | T::ag2::sh,q,_,R=>
    have hsz:¬a.toArray.size=1:=by
     match a,q with
     | [],q=>simp
     | [v],q=>cases T<;>cases ag2<;>exact q.2.elim
     | _::_::_,_=>simp
    rw[dif_neg hsz];refine⟨⟨_,rfl,q,R⟩,(O.mono (λ_ _ h=>h) E).congr λj hj=>?_⟩;simp only[ch,gL,lQ,hcells];simp[List.getD,hj]
  replace Q:=CM Q.1 (hwk.row Q.2);refine⟨by grind [WK.len],?_⟩;rcases U with y|y
  ·exact Q.2.mono ψ (λ_ _ h=>h)
  exact(Q.2.fresh y).mono (λ_ _ h=>h.elim) (λ_ _ h=>h)
 cases e with
 | normal=>exact fin W
 | ret=>exact fin W
 | _=>exact W.elim
theorem M7{f t : Nat}{j : Func}{c : Code}{A : List RA}(K : ∀t i, TE t = some i -> bP P t i)(hf : P.funcs[f]? = some j)(hn : (j.name == "runtime.NumGoroutine") = false)(a:j.body=some c)(hD:vg P N ck D)(hc:ge ck c=true)(hN:A.length+(j.ntmps - A.length)=N.n)(hkp:N.kp=[])(hr:j.results = #[.tmp t])(hp:aw P TE N D c (U0 t rcs) (lay (w9 0 A))):sr P f true A .box rcs:=by
 refine⟨⟨j,hf,hn,by rw[a];rfl⟩,λw S F hS hA=>?_⟩;have hlen:=Dq hA;refine calls_of_wp hf a ?_;have L:St w NO S N (lay (w9 0 A)) {tmps:=F.toArray++Array.replicate (j.ntmps - F.toArray.size) undef,defers:=[]} w:=by
  refine⟨S,λ_=>NO,λt=>?_,λ_ _ _ _ _ h=>h.elim,λ_ _ _ h=>h.elim,λ_ _ _ h=>h.elim,λ_ _ h=>h,ψ,Ca _ _,by simp;omega,rfl,ψ⟩;rcases uG 0 hA t with G|⟨A0,v,-,H,J,h4⟩
  ·rw[G];trivial
  rw[J];have hv:tvs {tmps:=F.toArray++Array.replicate (j.ntmps - F.toArray.size) undef,defers:=[]} t=v:=by
   have hlt:=(Z2.1 H).1;simp only[tvs,Z7]
   grind
  grind [ov.slot]
 refine iC K hD c hc _ _ _ _ w hp L λe F' q k M O=>?_
 obtain⟨S',φ',h⟩:=O;have fin:Rl F' t rcs->q.defers=[]/\∃v,(results j q.tmps).run P k=.ok v k/\(∃Q,Ending.returned v=.returned Q/\bA NO w k/\∃X R:ah,(∀b o,X b o->b<k.heap.size/\w.heap.size<=b)/\
     (∀b o,R b o->(true=true/\S b o)\/(b<k.heap.size/\w.heap.size<=b))/\(∀b o,X b o->¬R b o)/\∃r Y:ah,(∀b o,r b o->X b o)/\(∀b o,Y b o->X b o)/\(∀b o,r b o->¬Y b o)/\fN k r .box rcs.length Q/\cL k R Y rcs (ch k .box Q)):=by
  intro l;have core:∃(d:Nat)(u:List C),tvs q t=tvs q d/\F' d=.H .box u/\jm .box .box u rcs:=by
   unfold Rl at l;split at l
   ·grind
   ·rename_i d T
    split at l
    case h_2=>exact l.elim
    rename_i u y;refine⟨d,u,?_,y,l⟩;have B:=h.slot t;rw[T]at B;obtain⟨k0,cs0,r0,j0,g0,o0,U,-,e3,e4⟩:=B;have E:=h.slot d;rw[y]at E;rw[y]at U;simp only[AV.H.injEq]at U;obtain⟨rfl,rfl⟩:=U;obtain⟨r,Y,G,H,J,⟨g,o,hv,-⟩,h5⟩:=E
    grind [plc,oV]
   exact l.elim
  obtain⟨d,u,V,y,l⟩:=core;have W:=l.out.2;have E:=h.slot d;rw[y]at E;obtain⟨r,Y,G,H,J,h4,h5⟩:=E;refine⟨h.defers,tvs q d,?_,tvs q d,rfl,h.old,φ' d,λb o=>S' b o/\(S b o\/w.heap.size<=b),λb o a=>⟨(h.ex d b o a).1,(h.ex d b o a).2.resolve_right (λh=>h)⟩,λb o a=>?_,λb o a Z=>h.disS d b o a Z.1,r,Y,G,H,J,?_,?_⟩
  ·rw[<-V];simp[results,hr,tvs]
  ·rcases a.2 with p|p
   ·grind
   exact .inr ⟨(h.sup b o a.1).1,p⟩
  ·grind [WK.len]
  exact(W.row h5).mono (λb o a=>⟨a,by
    rcases(h.sup b o a).2 with p|p|p
    · exact .inl p
    · exact .inr p
    exact p.elim⟩) (λ_ _ h=>h)
 cases e with
 | normal=>exact fin M
 | ret=>exact fin M
 | _=>exact M.elim
end
def DF(P:Program)(TE:Nat->Option TI)(N:fy)(tb:List (Nat × Nat × List Nat))(id:Nat)(ops:Array Oper)(K:(Nat->AV)->Prop)(F:Nat->AV):Prop:=
 match yB tb (id+1048576) with
 | some (t,offs)=>sK t offs (DD P TE N tb id ops K) F
 | none=>DD P TE N tb id ops K F
def oc{P:Program}{TE:Nat->Option TI}(a:∀t i,TE t=some i->bP P t i)(e:P.follows .mixedOrders=true)(N:fy)(tb:List (Nat × Nat × List Nat)):vg P N (mR tb) (DF P TE N tb):=
 λ_ _ b _ _ _ _ _ _ _ _ c f g=>by
  unfold DF at c;split at c
  ·obtain⟨j,h,d⟩:=yq c f
   exact xo a e b h d g
  exact xo a e b c f g
def KB:List (Nat × TI)->Nat->Option TI
 | [],_=>none
 | p::l,t=>bif Nat.beq t p.1 then some p.2 else KB l t
def Tw(P:Program):List (Nat × TI)->Prop
 | []=>True
 | p::l=>bP P p.1 p.2/\Tw P l
def Fs{P:Program} : ∀{l:List (Nat × TI)},Tw P l->∀t i,KB l t=some i->bP P t i
 | [],_,t,i,h=>by cases h
 | p::l,b,t,i,h=>by
  simp only[KB]at h;cases a:Nat.beq t p.1 with
  | true=>
   rw[a]at h;simp only[cond_true,C1]at h;have:=W2 a;subst this h;exact b.1
  | false=>rw[a]at h;exact Fs b.2 t i h
def ti3:TI:=⟨1,8,[.v (.int .i64 0)],.sc (.int .i64)⟩
abbrev zzA:=ar Tryz.prog
abbrev zzB:=aT Tryz.prog
def tok3:bP Tryz.prog 3 ti3:=⟨by kernel_rfl,by simp[ti3,aD,Value.oneCell'],⟨Tryz.underlying3,trivial⟩⟩
def ti4:TI:=⟨1,1,[.v (.bool false)],.sc .bool⟩
def tok4:bP Tryz.prog 4 ti4:=⟨by kernel_rfl,by simp[ti4,aD,Value.oneCell'],⟨Tryz.underlying4,trivial⟩⟩
def ti2:TI:=⟨1,8,[.v (.int .i64 0)],.sc (.int .i64)⟩
def tok2:bP Tryz.prog 2 ti2:=⟨by kernel_rfl,by simp[ti2,aD,Value.oneCell'],⟨Tryz.underlying2,trivial⟩⟩
def ti5:TI:=⟨1,1,[.v (.int .u8 0)],.sc (.int .u8)⟩
def tok5:bP Tryz.prog 5 ti5:=⟨by kernel_rfl,by simp[ti5,aD,Value.oneCell'],⟨Tryz.underlying5,trivial⟩⟩
def ti6:TI:=⟨1,1,[.v (.int .u8 0)],.sc (.int .u8)⟩
def tok6:bP Tryz.prog 6 ti6:=⟨by kernel_rfl,by simp[ti6,aD,Value.oneCell'],⟨Tryz.underlying6,trivial⟩⟩
def ti7:TI:=⟨4,24,[.v (.int .i64 0),.v (.int .i64 0),.v (.bool false),.v (.int .u8 0)],.st [(0,2),(1,3),(2,4),(3,6)]⟩
def tok7:bP Tryz.prog 7 ti7:=⟨by kernel_rfl,by simp[ti7,aD,Value.oneCell'],⟨_,Tryz.underlying7,rfl⟩⟩
def ti8:TI:=⟨4,24,[.v (.int .i64 0),.v (.int .i64 0),.v (.bool false),.v (.int .u8 0)],.st [(0,2),(1,3),(2,4),(3,6)]⟩
def tok8:bP Tryz.prog 8 ti8:=⟨by kernel_rfl,by simp[ti8,aD,Value.oneCell'],⟨_,Tryz.underlying8,rfl⟩⟩
def ti9:TI:=⟨1,16,[.v (.string ⟨#[]⟩)],.sc .string⟩
def tok9:bP Tryz.prog 9 ti9:=⟨by kernel_rfl,by simp[ti9,aD,Value.oneCell'],⟨Tryz.underlying9,trivial⟩⟩
def ti10:TI:=⟨1,16,[.v (.string ⟨#[]⟩)],.sc .string⟩
def tok10:bP Tryz.prog 10 ti10:=⟨by kernel_rfl,by simp[ti10,aD,Value.oneCell'],⟨Tryz.underlying10,trivial⟩⟩
def ti11:TI:=⟨1,16,[.v (.string ⟨#[]⟩)],.sc .string⟩
def tok11:bP Tryz.prog 11 ti11:=⟨by kernel_rfl,by simp[ti11,aD,Value.oneCell'],⟨Tryz.underlying11,trivial⟩⟩
def ti12:TI:=⟨1,8,[.v (.int .u64 0)],.sc (.int .u64)⟩
def tok12:bP Tryz.prog 12 ti12:=⟨by kernel_rfl,by simp[ti12,aD,Value.oneCell'],⟨Tryz.underlying12,trivial⟩⟩
def ti13:TI:=⟨2,24,[.v (.string ⟨#[]⟩),.v (.int .u64 0)],.st [(0,9),(1,12)]⟩
def tok13:bP Tryz.prog 13 ti13:=⟨by kernel_rfl,by simp[ti13,aD,Value.oneCell'],⟨_,Tryz.underlying13,rfl⟩⟩
def ti14:TI:=⟨2,24,[.v (.string ⟨#[]⟩),.v (.int .u64 0)],.st [(0,9),(1,12)]⟩
def tok14:bP Tryz.prog 14 ti14:=⟨by kernel_rfl,by simp[ti14,aD,Value.oneCell'],⟨_,Tryz.underlying14,rfl⟩⟩
def ti21:TI:=⟨1,4,[.v (.int .i32 0)],.sc (.int .i32)⟩
def tok21:bP Tryz.prog 21 ti21:=⟨by kernel_rfl,by simp[ti21,aD,Value.oneCell'],⟨Tryz.underlying21,trivial⟩⟩
def ti22:TI:=⟨1,24,[.z],.sl 5⟩
def tok22:bP Tryz.prog 22 ti22:=⟨by kernel_rfl,by simp[ti22,aD,Value.oneCell'],Tryz.underlying22⟩
def ti24:TI:=⟨1,24,[.z],.sl 33⟩
def tok24:bP Tryz.prog 24 ti24:=⟨by kernel_rfl,by simp[ti24,aD,Value.oneCell'],Tryz.underlying24⟩
def ti25:TI:=⟨1,24,[.z],.sl 4⟩
def tok25:bP Tryz.prog 25 ti25:=⟨by kernel_rfl,by simp[ti25,aD,Value.oneCell'],Tryz.underlying25⟩
def ti26:TI:=⟨2,48,[.z,.z],.st [(0,24),(1,25)]⟩
def tok26:bP Tryz.prog 26 ti26:=⟨by kernel_rfl,by simp[ti26,aD,Value.oneCell'],⟨_,Tryz.underlying26,rfl⟩⟩
def ti27:TI:=⟨2,48,[.z,.z],.st [(0,24),(1,25)]⟩
def tok27:bP Tryz.prog 27 ti27:=⟨by kernel_rfl,by simp[ti27,aD,Value.oneCell'],⟨_,Tryz.underlying27,rfl⟩⟩
def ti28:TI:=⟨1,24,[.z],.sl 82⟩
def tok28:bP Tryz.prog 28 ti28:=⟨by kernel_rfl,by simp[ti28,aD,Value.oneCell'],Tryz.underlying28⟩
def ti29:TI:=⟨1,24,[.z],.st [(0,28)]⟩
def tok29:bP Tryz.prog 29 ti29:=⟨by kernel_rfl,by simp[ti29,aD,Value.oneCell'],⟨_,Tryz.underlying29,rfl⟩⟩
def ti30:TI:=⟨1,24,[.z],.st [(0,28)]⟩
def tok30:bP Tryz.prog 30 ti30:=⟨by kernel_rfl,by simp[ti30,aD,Value.oneCell'],⟨_,Tryz.underlying30,rfl⟩⟩
def ti31:TI:=⟨3,72,[.z,.z,.z],.st [(0,27),(2,30)]⟩
def tok31:bP Tryz.prog 31 ti31:=⟨by kernel_rfl,by simp[ti31,aD,Value.oneCell'],⟨_,Tryz.underlying31,rfl⟩⟩
def ti32:TI:=⟨3,72,[.z,.z,.z],.st [(0,27),(2,30)]⟩
def tok32:bP Tryz.prog 32 ti32:=⟨by kernel_rfl,by simp[ti32,aD,Value.oneCell'],⟨_,Tryz.underlying32,rfl⟩⟩
def ti33:TI:=⟨1,24,[.z],.sl 3⟩
def tok33:bP Tryz.prog 33 ti33:=⟨by kernel_rfl,by simp[ti33,aD,Value.oneCell'],Tryz.underlying33⟩
def ti34:TI:=⟨5,104,[.z,.z,.z,.v (.int .i64 0),.z],.st [(0,32),(3,3),(4,33)]⟩
def tok34:bP Tryz.prog 34 ti34:=⟨by kernel_rfl,by simp[ti34,aD,Value.oneCell'],⟨_,Tryz.underlying34,rfl⟩⟩
def ti35:TI:=⟨5,104,[.z,.z,.z,.v (.int .i64 0),.z],.st [(0,32),(3,3),(4,33)]⟩
def tok35:bP Tryz.prog 35 ti35:=⟨by kernel_rfl,by simp[ti35,aD,Value.oneCell'],⟨_,Tryz.underlying35,rfl⟩⟩
def ti36:TI:=⟨1,24,[.z],.sl 180⟩
def tok36:bP Tryz.prog 36 ti36:=⟨by kernel_rfl,by simp[ti36,aD,Value.oneCell'],Tryz.underlying36⟩
def ti37:TI:=⟨1,24,[.z],.sl 267⟩
def tok37:bP Tryz.prog 37 ti37:=⟨by kernel_rfl,by simp[ti37,aD,Value.oneCell'],Tryz.underlying37⟩
def ti38:TI:=⟨1,24,[.z],.sl 175⟩
def tok38:bP Tryz.prog 38 ti38:=⟨by kernel_rfl,by simp[ti38,aD,Value.oneCell'],Tryz.underlying38⟩
def ti39:TI:=⟨1,24,[.z],.sl 74⟩
def tok39:bP Tryz.prog 39 ti39:=⟨by kernel_rfl,by simp[ti39,aD,Value.oneCell'],Tryz.underlying39⟩
def ti40:TI:=⟨1,24,[.z],.sl 158⟩
def tok40:bP Tryz.prog 40 ti40:=⟨by kernel_rfl,by simp[ti40,aD,Value.oneCell'],Tryz.underlying40⟩
def ti41:TI:=⟨1,24,[.z],.sl 192⟩
def tok41:bP Tryz.prog 41 ti41:=⟨by kernel_rfl,by simp[ti41,aD,Value.oneCell'],Tryz.underlying41⟩
def ti42:TI:=⟨2,48,[.z,.z],.st [(0,41),(1,24)]⟩
def tok42:bP Tryz.prog 42 ti42:=⟨by kernel_rfl,by simp[ti42,aD,Value.oneCell'],⟨_,Tryz.underlying42,rfl⟩⟩
def ti43:TI:=⟨2,48,[.z,.z],.st [(0,41),(1,24)]⟩
def tok43:bP Tryz.prog 43 ti43:=⟨by kernel_rfl,by simp[ti43,aD,Value.oneCell'],⟨_,Tryz.underlying43,rfl⟩⟩
def ti44:TI:=⟨1,24,[.z],.sl 190⟩
def tok44:bP Tryz.prog 44 ti44:=⟨by kernel_rfl,by simp[ti44,aD,Value.oneCell'],Tryz.underlying44⟩
def ti45:TI:=⟨2,32,[.v (.int .i64 0),.z],.st [(0,3),(1,44)]⟩
def tok45:bP Tryz.prog 45 ti45:=⟨by kernel_rfl,by simp[ti45,aD,Value.oneCell'],⟨_,Tryz.underlying45,rfl⟩⟩
def ti46:TI:=⟨2,32,[.v (.int .i64 0),.z],.st [(0,3),(1,44)]⟩
def tok46:bP Tryz.prog 46 ti46:=⟨by kernel_rfl,by simp[ti46,aD,Value.oneCell'],⟨_,Tryz.underlying46,rfl⟩⟩
def ti47:TI:=⟨3,40,[.v (.int .i64 0),.v (.int .i64 0),.z],.st [(0,3),(1,3),(2,33)]⟩
def tok47:bP Tryz.prog 47 ti47:=⟨by kernel_rfl,by simp[ti47,aD,Value.oneCell'],⟨_,Tryz.underlying47,rfl⟩⟩
def ti48:TI:=⟨3,40,[.v (.int .i64 0),.v (.int .i64 0),.z],.st [(0,3),(1,3),(2,33)]⟩
def tok48:bP Tryz.prog 48 ti48:=⟨by kernel_rfl,by simp[ti48,aD,Value.oneCell'],⟨_,Tryz.underlying48,rfl⟩⟩
def ti49:TI:=⟨5,56,[.v (.int .i64 0),.v (.int .i64 0),.z,.v (.int .i64 0),.v (.int .i64 0)],.st [(0,48),(3,3),(4,3)]⟩
def tok49:bP Tryz.prog 49 ti49:=⟨by kernel_rfl,by simp[ti49,aD,Value.oneCell'],⟨_,Tryz.underlying49,rfl⟩⟩
def ti50:TI:=⟨5,56,[.v (.int .i64 0),.v (.int .i64 0),.z,.v (.int .i64 0),.v (.int .i64 0)],.st [(0,48),(3,3),(4,3)]⟩
def tok50:bP Tryz.prog 50 ti50:=⟨by kernel_rfl,by simp[ti50,aD,Value.oneCell'],⟨_,Tryz.underlying50,rfl⟩⟩
def ti51:TI:=⟨24,400,[.z,.z,.z,.v (.int .i64 0),.z,.z,.z,.z,.z,.z,.z,.z,.v (.int .i64 0),.z,.v (.int .i64 0),.v (.int .i64 0),.v (.int .i64 0),.v (.int .i64 0),.v (.bool false),.v (.int .i64 0),.v (.int .i64 0),.z,.v (.int .i64 0),.v (.int .i64 0)],.st [(0,35),(5,36),(6,37),(7,38),(8,39),(9,40),(10,43),(12,46),(14,3),(15,3),(16,3),(17,3),(18,4),(19,50)]⟩
def tok51:bP Tryz.prog 51 ti51:=⟨by kernel_rfl,by simp[ti51,aD,Value.oneCell'],⟨_,Tryz.underlying51,rfl⟩⟩
def ti52:TI:=⟨24,400,[.z,.z,.z,.v (.int .i64 0),.z,.z,.z,.z,.z,.z,.z,.z,.v (.int .i64 0),.z,.v (.int .i64 0),.v (.int .i64 0),.v (.int .i64 0),.v (.int .i64 0),.v (.bool false),.v (.int .i64 0),.v (.int .i64 0),.z,.v (.int .i64 0),.v (.int .i64 0)],.st [(0,35),(5,36),(6,37),(7,38),(8,39),(9,40),(10,43),(12,46),(14,3),(15,3),(16,3),(17,3),(18,4),(19,50)]⟩
def tok52:bP Tryz.prog 52 ti52:=⟨by kernel_rfl,by simp[ti52,aD,Value.oneCell'],⟨_,Tryz.underlying52,rfl⟩⟩
def ti53:TI:=⟨1,24,[.z],.sl 325⟩
def tok53:bP Tryz.prog 53 ti53:=⟨by kernel_rfl,by simp[ti53,aD,Value.oneCell'],Tryz.underlying53⟩
def ti54:TI:=⟨2,32,[.v (.int .i64 0),.z],.st [(0,3),(1,53)]⟩
def tok54:bP Tryz.prog 54 ti54:=⟨by kernel_rfl,by simp[ti54,aD,Value.oneCell'],⟨_,Tryz.underlying54,rfl⟩⟩
def ti55:TI:=⟨2,32,[.v (.int .i64 0),.z],.st [(0,3),(1,53)]⟩
def tok55:bP Tryz.prog 55 ti55:=⟨by kernel_rfl,by simp[ti55,aD,Value.oneCell'],⟨_,Tryz.underlying55,rfl⟩⟩
def ti56:TI:=⟨26,432,[.z,.z,.z,.v (.int .i64 0),.z,.z,.z,.z,.z,.z,.z,.z,.v (.int .i64 0),.z,.v (.int .i64 0),.v (.int .i64 0),.v (.int .i64 0),.v (.int .i64 0),.v (.bool false),.v (.int .i64 0),.v (.int .i64 0),.z,.v (.int .i64 0),.v (.int .i64 0),.v (.int .i64 0),.z],.st [(0,52),(24,55)]⟩
def tok56:bP Tryz.prog 56 ti56:=⟨by kernel_rfl,by simp[ti56,aD,Value.oneCell'],⟨_,Tryz.underlying56,rfl⟩⟩
def ti57:TI:=⟨26,432,[.z,.z,.z,.v (.int .i64 0),.z,.z,.z,.z,.z,.z,.z,.z,.v (.int .i64 0),.z,.v (.int .i64 0),.v (.int .i64 0),.v (.int .i64 0),.v (.int .i64 0),.v (.bool false),.v (.int .i64 0),.v (.int .i64 0),.z,.v (.int .i64 0),.v (.int .i64 0),.v (.int .i64 0),.z],.st [(0,52),(24,55)]⟩
def tok57:bP Tryz.prog 57 ti57:=⟨by kernel_rfl,by simp[ti57,aD,Value.oneCell'],⟨_,Tryz.underlying57,rfl⟩⟩
def ti73:TI:=⟨4,32,[.v (.int .i64 0),.v (.int .i64 0),.v (.int .i64 0),.v (.int .i64 0)],.st [(0,3),(1,3),(2,3),(3,3)]⟩
def tok73:bP Tryz.prog 73 ti73:=⟨by kernel_rfl,by simp[ti73,aD,Value.oneCell'],⟨_,Tryz.underlying73,rfl⟩⟩
def ti74:TI:=⟨4,32,[.v (.int .i64 0),.v (.int .i64 0),.v (.int .i64 0),.v (.int .i64 0)],.st [(0,3),(1,3),(2,3),(3,3)]⟩
def tok74:bP Tryz.prog 74 ti74:=⟨by kernel_rfl,by simp[ti74,aD,Value.oneCell'],⟨_,Tryz.underlying74,rfl⟩⟩
def ti77:TI:=⟨1,24,[.z],.sl 168⟩
def tok77:bP Tryz.prog 77 ti77:=⟨by kernel_rfl,by simp[ti77,aD,Value.oneCell'],Tryz.underlying77⟩
def ti81:TI:=⟨2,16,[.v (.int .i64 0),.v (.int .i64 0)],.st [(0,3),(1,3)]⟩
def tok81:bP Tryz.prog 81 ti81:=⟨by kernel_rfl,by simp[ti81,aD,Value.oneCell'],⟨_,Tryz.underlying81,rfl⟩⟩
def ti82:TI:=⟨2,16,[.v (.int .i64 0),.v (.int .i64 0)],.st [(0,3),(1,3)]⟩
def tok82:bP Tryz.prog 82 ti82:=⟨by kernel_rfl,by simp[ti82,aD,Value.oneCell'],⟨_,Tryz.underlying82,rfl⟩⟩
def ti86:TI:=⟨5,56,[.v (.int .i64 0),.v (.int .i64 0),.v (.int .i64 0),.v (.int .i64 0),.z],.st [(0,3),(1,3),(2,3),(3,3),(4,33)]⟩
def tok86:bP Tryz.prog 86 ti86:=⟨by kernel_rfl,by simp[ti86,aD,Value.oneCell'],⟨_,Tryz.underlying86,rfl⟩⟩
def ti87:TI:=⟨5,56,[.v (.int .i64 0),.v (.int .i64 0),.v (.int .i64 0),.v (.int .i64 0),.z],.st [(0,3),(1,3),(2,3),(3,3),(4,33)]⟩
def tok87:bP Tryz.prog 87 ti87:=⟨by kernel_rfl,by simp[ti87,aD,Value.oneCell'],⟨_,Tryz.underlying87,rfl⟩⟩
def ti88:TI:=⟨1,24,[.z],.sl 199⟩
def tok88:bP Tryz.prog 88 ti88:=⟨by kernel_rfl,by simp[ti88,aD,Value.oneCell'],Tryz.underlying88⟩
def ti97:TI:=⟨2,48,[.z,.z],.st [(0,24),(1,25)]⟩
def tok97:bP Tryz.prog 97 ti97:=⟨by kernel_rfl,by simp[ti97,aD,Value.oneCell'],⟨_,Tryz.underlying97,rfl⟩⟩
def ti98:TI:=⟨1,24,[.z],.sl 515⟩
def tok98:bP Tryz.prog 98 ti98:=⟨by kernel_rfl,by simp[ti98,aD,Value.oneCell'],Tryz.underlying98⟩
def ti99:TI:=⟨1,24,[.z],.st [(0,98)]⟩
def tok99:bP Tryz.prog 99 ti99:=⟨by kernel_rfl,by simp[ti99,aD,Value.oneCell'],⟨_,Tryz.underlying99,rfl⟩⟩
def ti100:TI:=⟨1,24,[.z],.st [(0,98)]⟩
def tok100:bP Tryz.prog 100 ti100:=⟨by kernel_rfl,by simp[ti100,aD,Value.oneCell'],⟨_,Tryz.underlying100,rfl⟩⟩
def ti101:TI:=⟨3,72,[.z,.z,.z],.st [(0,97),(2,100)]⟩
def tok101:bP Tryz.prog 101 ti101:=⟨by kernel_rfl,by simp[ti101,aD,Value.oneCell'],⟨_,Tryz.underlying101,rfl⟩⟩
def ti102:TI:=⟨3,72,[.z,.z,.z],.st [(0,97),(2,100)]⟩
def tok102:bP Tryz.prog 102 ti102:=⟨by kernel_rfl,by simp[ti102,aD,Value.oneCell'],⟨_,Tryz.underlying102,rfl⟩⟩
def ti103:TI:=⟨5,104,[.z,.z,.z,.v (.int .i64 0),.z],.st [(0,102),(3,3),(4,33)]⟩
def tok103:bP Tryz.prog 103 ti103:=⟨by kernel_rfl,by simp[ti103,aD,Value.oneCell'],⟨_,Tryz.underlying103,rfl⟩⟩
def ti104:TI:=⟨5,104,[.z,.z,.z,.v (.int .i64 0),.z],.st [(0,102),(3,3),(4,33)]⟩
def tok104:bP Tryz.prog 104 ti104:=⟨by kernel_rfl,by simp[ti104,aD,Value.oneCell'],⟨_,Tryz.underlying104,rfl⟩⟩
def ti105:TI:=⟨1,24,[.z],.sl 343⟩
def tok105:bP Tryz.prog 105 ti105:=⟨by kernel_rfl,by simp[ti105,aD,Value.oneCell'],Tryz.underlying105⟩
def ti106:TI:=⟨1,24,[.z],.sl 345⟩
def tok106:bP Tryz.prog 106 ti106:=⟨by kernel_rfl,by simp[ti106,aD,Value.oneCell'],Tryz.underlying106⟩
def ti107:TI:=⟨1,24,[.z],.sl 347⟩
def tok107:bP Tryz.prog 107 ti107:=⟨by kernel_rfl,by simp[ti107,aD,Value.oneCell'],Tryz.underlying107⟩
def ti108:TI:=⟨1,24,[.z],.sl 349⟩
def tok108:bP Tryz.prog 108 ti108:=⟨by kernel_rfl,by simp[ti108,aD,Value.oneCell'],Tryz.underlying108⟩
def ti109:TI:=⟨1,24,[.z],.sl 336⟩
def tok109:bP Tryz.prog 109 ti109:=⟨by kernel_rfl,by simp[ti109,aD,Value.oneCell'],Tryz.underlying109⟩
def ti110:TI:=⟨1,24,[.z],.sl 436⟩
def tok110:bP Tryz.prog 110 ti110:=⟨by kernel_rfl,by simp[ti110,aD,Value.oneCell'],Tryz.underlying110⟩
def ti111:TI:=⟨2,48,[.z,.z],.st [(0,110),(1,24)]⟩
def tok111:bP Tryz.prog 111 ti111:=⟨by kernel_rfl,by simp[ti111,aD,Value.oneCell'],⟨_,Tryz.underlying111,rfl⟩⟩
def ti112:TI:=⟨2,48,[.z,.z],.st [(0,110),(1,24)]⟩
def tok112:bP Tryz.prog 112 ti112:=⟨by kernel_rfl,by simp[ti112,aD,Value.oneCell'],⟨_,Tryz.underlying112,rfl⟩⟩
def ti113:TI:=⟨1,24,[.z],.sl 441⟩
def tok113:bP Tryz.prog 113 ti113:=⟨by kernel_rfl,by simp[ti113,aD,Value.oneCell'],Tryz.underlying113⟩
def ti114:TI:=⟨2,32,[.v (.int .i64 0),.z],.st [(0,3),(1,113)]⟩
def tok114:bP Tryz.prog 114 ti114:=⟨by kernel_rfl,by simp[ti114,aD,Value.oneCell'],⟨_,Tryz.underlying114,rfl⟩⟩
def ti115:TI:=⟨2,32,[.v (.int .i64 0),.z],.st [(0,3),(1,113)]⟩
def tok115:bP Tryz.prog 115 ti115:=⟨by kernel_rfl,by simp[ti115,aD,Value.oneCell'],⟨_,Tryz.underlying115,rfl⟩⟩
def ti116:TI:=⟨3,40,[.v (.int .i64 0),.v (.int .i64 0),.z],.st [(0,3),(1,3),(2,33)]⟩
def tok116:bP Tryz.prog 116 ti116:=⟨by kernel_rfl,by simp[ti116,aD,Value.oneCell'],⟨_,Tryz.underlying116,rfl⟩⟩
def ti117:TI:=⟨5,56,[.v (.int .i64 0),.v (.int .i64 0),.z,.v (.int .i64 0),.v (.int .i64 0)],.st [(0,116),(3,3),(4,3)]⟩
def tok117:bP Tryz.prog 117 ti117:=⟨by kernel_rfl,by simp[ti117,aD,Value.oneCell'],⟨_,Tryz.underlying117,rfl⟩⟩
def ti118:TI:=⟨5,56,[.v (.int .i64 0),.v (.int .i64 0),.z,.v (.int .i64 0),.v (.int .i64 0)],.st [(0,116),(3,3),(4,3)]⟩
def tok118:bP Tryz.prog 118 ti118:=⟨by kernel_rfl,by simp[ti118,aD,Value.oneCell'],⟨_,Tryz.underlying118,rfl⟩⟩
def ti119:TI:=⟨24,400,[.z,.z,.z,.v (.int .i64 0),.z,.z,.z,.z,.z,.z,.z,.z,.v (.int .i64 0),.z,.v (.int .i64 0),.v (.int .i64 0),.v (.int .i64 0),.v (.int .i64 0),.v (.bool false),.v (.int .i64 0),.v (.int .i64 0),.z,.v (.int .i64 0),.v (.int .i64 0)],.st [(0,104),(5,105),(6,106),(7,107),(8,108),(9,109),(10,112),(12,115),(14,3),(15,3),(16,3),(17,3),(18,4),(19,118)]⟩
def tok119:bP Tryz.prog 119 ti119:=⟨by kernel_rfl,by simp[ti119,aD,Value.oneCell'],⟨_,Tryz.underlying119,rfl⟩⟩
def ti120:TI:=⟨24,400,[.z,.z,.z,.v (.int .i64 0),.z,.z,.z,.z,.z,.z,.z,.z,.v (.int .i64 0),.z,.v (.int .i64 0),.v (.int .i64 0),.v (.int .i64 0),.v (.int .i64 0),.v (.bool false),.v (.int .i64 0),.v (.int .i64 0),.z,.v (.int .i64 0),.v (.int .i64 0)],.st [(0,104),(5,105),(6,106),(7,107),(8,108),(9,109),(10,112),(12,115),(14,3),(15,3),(16,3),(17,3),(18,4),(19,118)]⟩
def tok120:bP Tryz.prog 120 ti120:=⟨by kernel_rfl,by simp[ti120,aD,Value.oneCell'],⟨_,Tryz.underlying120,rfl⟩⟩
def ti126:TI:=⟨5,56,[.v (.int .i64 0),.v (.int .i64 0),.v (.int .i64 0),.v (.int .i64 0),.z],.st [(0,3),(1,3),(2,3),(3,3),(4,33)]⟩
def tok126:bP Tryz.prog 126 ti126:=⟨by kernel_rfl,by simp[ti126,aD,Value.oneCell'],⟨_,Tryz.underlying126,rfl⟩⟩
def ti127:TI:=⟨1,24,[.z],.sl 254⟩
def tok127:bP Tryz.prog 127 ti127:=⟨by kernel_rfl,by simp[ti127,aD,Value.oneCell'],Tryz.underlying127⟩
def ti157:TI:=⟨1,24,[.z],.st [(0,24)]⟩
def tok157:bP Tryz.prog 157 ti157:=⟨by kernel_rfl,by simp[ti157,aD,Value.oneCell'],⟨_,Tryz.underlying157,rfl⟩⟩
def ti158:TI:=⟨1,24,[.z],.st [(0,24)]⟩
def tok158:bP Tryz.prog 158 ti158:=⟨by kernel_rfl,by simp[ti158,aD,Value.oneCell'],⟨_,Tryz.underlying158,rfl⟩⟩
def ti167:TI:=⟨3,24,[.v (.int .i64 0),.v (.int .i64 0),.v (.int .i64 0)],.st [(0,3),(1,3),(2,3)]⟩
def tok167:bP Tryz.prog 167 ti167:=⟨by kernel_rfl,by simp[ti167,aD,Value.oneCell'],⟨_,Tryz.underlying167,rfl⟩⟩
def ti168:TI:=⟨3,24,[.v (.int .i64 0),.v (.int .i64 0),.v (.int .i64 0)],.st [(0,3),(1,3),(2,3)]⟩
def tok168:bP Tryz.prog 168 ti168:=⟨by kernel_rfl,by simp[ti168,aD,Value.oneCell'],⟨_,Tryz.underlying168,rfl⟩⟩
def ti174:TI:=⟨3,24,[.v (.int .i64 0),.v (.int .i64 0),.v (.int .i64 0)],.st [(0,3),(1,3),(2,3)]⟩
def tok174:bP Tryz.prog 174 ti174:=⟨by kernel_rfl,by simp[ti174,aD,Value.oneCell'],⟨_,Tryz.underlying174,rfl⟩⟩
def ti175:TI:=⟨3,24,[.v (.int .i64 0),.v (.int .i64 0),.v (.int .i64 0)],.st [(0,3),(1,3),(2,3)]⟩
def tok175:bP Tryz.prog 175 ti175:=⟨by kernel_rfl,by simp[ti175,aD,Value.oneCell'],⟨_,Tryz.underlying175,rfl⟩⟩
def ti179:TI:=⟨2,16,[.v (.int .i64 0),.v (.int .i64 0)],.st [(0,3),(1,3)]⟩
def tok179:bP Tryz.prog 179 ti179:=⟨by kernel_rfl,by simp[ti179,aD,Value.oneCell'],⟨_,Tryz.underlying179,rfl⟩⟩
def ti180:TI:=⟨2,16,[.v (.int .i64 0),.v (.int .i64 0)],.st [(0,3),(1,3)]⟩
def tok180:bP Tryz.prog 180 ti180:=⟨by kernel_rfl,by simp[ti180,aD,Value.oneCell'],⟨_,Tryz.underlying180,rfl⟩⟩
def ti185:TI:=⟨2,16,[.v (.int .i64 0),.v (.int .i64 0)],.st [(0,3),(1,3)]⟩
def tok185:bP Tryz.prog 185 ti185:=⟨by kernel_rfl,by simp[ti185,aD,Value.oneCell'],⟨_,Tryz.underlying185,rfl⟩⟩
def ti186:TI:=⟨2,16,[.v (.int .i64 0),.v (.int .i64 0)],.st [(0,3),(1,3)]⟩
def tok186:bP Tryz.prog 186 ti186:=⟨by kernel_rfl,by simp[ti186,aD,Value.oneCell'],⟨_,Tryz.underlying186,rfl⟩⟩
def ti189:TI:=⟨3,24,[.v (.int .i64 0),.v (.int .i64 0),.v (.int .i64 0)],.st [(0,3),(1,3),(2,3)]⟩
def tok189:bP Tryz.prog 189 ti189:=⟨by kernel_rfl,by simp[ti189,aD,Value.oneCell'],⟨_,Tryz.underlying189,rfl⟩⟩
def ti190:TI:=⟨3,24,[.v (.int .i64 0),.v (.int .i64 0),.v (.int .i64 0)],.st [(0,3),(1,3),(2,3)]⟩
def tok190:bP Tryz.prog 190 ti190:=⟨by kernel_rfl,by simp[ti190,aD,Value.oneCell'],⟨_,Tryz.underlying190,rfl⟩⟩
def ti192:TI:=⟨1,24,[.z],.sl 186⟩
def tok192:bP Tryz.prog 192 ti192:=⟨by kernel_rfl,by simp[ti192,aD,Value.oneCell'],Tryz.underlying192⟩
def ti198:TI:=⟨5,40,[.v (.int .i64 0),.v (.int .i64 0),.v (.int .i64 0),.v (.int .i64 0),.v (.int .i64 0)],.st [(0,3),(1,3),(2,3),(3,3),(4,3)]⟩
def tok198:bP Tryz.prog 198 ti198:=⟨by kernel_rfl,by simp[ti198,aD,Value.oneCell'],⟨_,Tryz.underlying198,rfl⟩⟩
def ti199:TI:=⟨5,40,[.v (.int .i64 0),.v (.int .i64 0),.v (.int .i64 0),.v (.int .i64 0),.v (.int .i64 0)],.st [(0,3),(1,3),(2,3),(3,3),(4,3)]⟩
def tok199:bP Tryz.prog 199 ti199:=⟨by kernel_rfl,by simp[ti199,aD,Value.oneCell'],⟨_,Tryz.underlying199,rfl⟩⟩
def ti210:TI:=⟨8,64,[.v (.int .i64 0),.v (.int .i64 0),.v (.int .i64 0),.v (.int .i64 0),.v (.int .i64 0),.v (.int .i64 0),.v (.int .i64 0),.v (.int .i64 0)],.st [(0,3),(1,3),(2,3),(3,3),(4,3),(5,3),(6,3),(7,3)]⟩
def tok210:bP Tryz.prog 210 ti210:=⟨by kernel_rfl,by simp[ti210,aD,Value.oneCell'],⟨_,Tryz.underlying210,rfl⟩⟩
def ti211:TI:=⟨8,64,[.v (.int .i64 0),.v (.int .i64 0),.v (.int .i64 0),.v (.int .i64 0),.v (.int .i64 0),.v (.int .i64 0),.v (.int .i64 0),.v (.int .i64 0)],.st [(0,3),(1,3),(2,3),(3,3),(4,3),(5,3),(6,3),(7,3)]⟩
def tok211:bP Tryz.prog 211 ti211:=⟨by kernel_rfl,by simp[ti211,aD,Value.oneCell'],⟨_,Tryz.underlying211,rfl⟩⟩
def ti254:TI:=⟨5,40,[.v (.int .i64 0),.v (.int .i64 0),.v (.int .i64 0),.v (.int .i64 0),.v (.int .i64 0)],.st [(0,3),(1,3),(2,3),(3,3),(4,3)]⟩
def tok254:bP Tryz.prog 254 ti254:=⟨by kernel_rfl,by simp[ti254,aD,Value.oneCell'],⟨_,Tryz.underlying254,rfl⟩⟩
def ti256:TI:=⟨3,40,[.z,.v (.int .i64 0),.v (.int .i64 0)],.st [(0,22),(1,3),(2,3)]⟩
def tok256:bP Tryz.prog 256 ti256:=⟨by kernel_rfl,by simp[ti256,aD,Value.oneCell'],⟨_,Tryz.underlying256,rfl⟩⟩
def ti257:TI:=⟨3,40,[.z,.v (.int .i64 0),.v (.int .i64 0)],.st [(0,22),(1,3),(2,3)]⟩
def tok257:bP Tryz.prog 257 ti257:=⟨by kernel_rfl,by simp[ti257,aD,Value.oneCell'],⟨_,Tryz.underlying257,rfl⟩⟩
def ti266:TI:=⟨3,24,[.v (.int .i64 0),.v (.int .i64 0),.v (.int .i64 0)],.st [(0,3),(1,3),(2,3)]⟩
def tok266:bP Tryz.prog 266 ti266:=⟨by kernel_rfl,by simp[ti266,aD,Value.oneCell'],⟨_,Tryz.underlying266,rfl⟩⟩
def ti267:TI:=⟨3,24,[.v (.int .i64 0),.v (.int .i64 0),.v (.int .i64 0)],.st [(0,3),(1,3),(2,3)]⟩
def tok267:bP Tryz.prog 267 ti267:=⟨by kernel_rfl,by simp[ti267,aD,Value.oneCell'],⟨_,Tryz.underlying267,rfl⟩⟩
def ti281:TI:=⟨1,8,[.v (.map none)],.mp 3 4 (.bool false)⟩
def tok281:bP Tryz.prog 281 ti281:=⟨by kernel_rfl,by simp[ti281,aD,Value.oneCell'],⟨Tryz.underlying281,Tryz.underlying3,by kernel_rfl,rfl⟩⟩
def ti289:TI:=⟨4,32,[.v (.int .i64 0),.v (.int .i64 0),.v (.int .i64 0),.v (.int .i64 0)],.st [(0,3),(1,3),(2,3),(3,3)]⟩
def tok289:bP Tryz.prog 289 ti289:=⟨by kernel_rfl,by simp[ti289,aD,Value.oneCell'],⟨_,Tryz.underlying289,rfl⟩⟩
def ti290:TI:=⟨4,32,[.v (.int .i64 0),.v (.int .i64 0),.v (.int .i64 0),.v (.int .i64 0)],.st [(0,3),(1,3),(2,3),(3,3)]⟩
def tok290:bP Tryz.prog 290 ti290:=⟨by kernel_rfl,by simp[ti290,aD,Value.oneCell'],⟨_,Tryz.underlying290,rfl⟩⟩
def ti292:TI:=⟨1,8,[.v (.map none)],.mp 3 3 (.int .i64 0)⟩
def tok292:bP Tryz.prog 292 ti292:=⟨by kernel_rfl,by simp[ti292,aD,Value.oneCell'],⟨Tryz.underlying292,Tryz.underlying3,by kernel_rfl,rfl⟩⟩
def ti304:TI:=⟨1,8,[.v (.int .u64 0)],.sc (.int .u64)⟩
def tok304:bP Tryz.prog 304 ti304:=⟨by kernel_rfl,by simp[ti304,aD,Value.oneCell'],⟨Tryz.underlying304,trivial⟩⟩
def ti324:TI:=⟨2,32,[.v (.int .i64 0),.z],.st [(0,3),(1,33)]⟩
def tok324:bP Tryz.prog 324 ti324:=⟨by kernel_rfl,by simp[ti324,aD,Value.oneCell'],⟨_,Tryz.underlying324,rfl⟩⟩
def ti325:TI:=⟨2,32,[.v (.int .i64 0),.z],.st [(0,3),(1,33)]⟩
def tok325:bP Tryz.prog 325 ti325:=⟨by kernel_rfl,by simp[ti325,aD,Value.oneCell'],⟨_,Tryz.underlying325,rfl⟩⟩
def ti336:TI:=⟨1,24,[.z],.st [(0,24)]⟩
def tok336:bP Tryz.prog 336 ti336:=⟨by kernel_rfl,by simp[ti336,aD,Value.oneCell'],⟨_,Tryz.underlying336,rfl⟩⟩
def ti343:TI:=⟨2,16,[.v (.int .i64 0),.v (.int .i64 0)],.st [(0,3),(1,3)]⟩
def tok343:bP Tryz.prog 343 ti343:=⟨by kernel_rfl,by simp[ti343,aD,Value.oneCell'],⟨_,Tryz.underlying343,rfl⟩⟩
def ti345:TI:=⟨3,24,[.v (.int .i64 0),.v (.int .i64 0),.v (.int .i64 0)],.st [(0,3),(1,3),(2,3)]⟩
def tok345:bP Tryz.prog 345 ti345:=⟨by kernel_rfl,by simp[ti345,aD,Value.oneCell'],⟨_,Tryz.underlying345,rfl⟩⟩
def ti347:TI:=⟨3,24,[.v (.int .i64 0),.v (.int .i64 0),.v (.int .i64 0)],.st [(0,3),(1,3),(2,3)]⟩
def tok347:bP Tryz.prog 347 ti347:=⟨by kernel_rfl,by simp[ti347,aD,Value.oneCell'],⟨_,Tryz.underlying347,rfl⟩⟩
def ti349:TI:=⟨4,32,[.v (.int .i64 0),.v (.int .i64 0),.v (.int .i64 0),.v (.int .i64 0)],.st [(0,3),(1,3),(2,3),(3,3)]⟩
def tok349:bP Tryz.prog 349 ti349:=⟨by kernel_rfl,by simp[ti349,aD,Value.oneCell'],⟨_,Tryz.underlying349,rfl⟩⟩
def ti398:TI:=⟨1,24,[.z],.sl 404⟩
def tok398:bP Tryz.prog 398 ti398:=⟨by kernel_rfl,by simp[ti398,aD,Value.oneCell'],Tryz.underlying398⟩
def ti403:TI:=⟨2,16,[.v (.int .i64 0),.v (.int .i64 0)],.st [(0,3),(1,3)]⟩
def tok403:bP Tryz.prog 403 ti403:=⟨by kernel_rfl,by simp[ti403,aD,Value.oneCell'],⟨_,Tryz.underlying403,rfl⟩⟩
def ti404:TI:=⟨2,16,[.v (.int .i64 0),.v (.int .i64 0)],.st [(0,3),(1,3)]⟩
def tok404:bP Tryz.prog 404 ti404:=⟨by kernel_rfl,by simp[ti404,aD,Value.oneCell'],⟨_,Tryz.underlying404,rfl⟩⟩
def ti408:TI:=⟨1,8,[.v (.int .i64 0)],.sc (.int .i64)⟩
def tok408:bP Tryz.prog 408 ti408:=⟨by kernel_rfl,by simp[ti408,aD,Value.oneCell'],⟨Tryz.underlying408,trivial⟩⟩
def ti415:TI:=⟨1,4,[.v (.int .u32 0)],.sc (.int .u32)⟩
def tok415:bP Tryz.prog 415 ti415:=⟨by kernel_rfl,by simp[ti415,aD,Value.oneCell'],⟨Tryz.underlying415,trivial⟩⟩
def ti417:TI:=⟨1,8,[.v (.int .u64 0)],.sc (.int .u64)⟩
def tok417:bP Tryz.prog 417 ti417:=⟨by kernel_rfl,by simp[ti417,aD,Value.oneCell'],⟨Tryz.underlying417,trivial⟩⟩
def ti436:TI:=⟨1,24,[.z],.sl 491⟩
def tok436:bP Tryz.prog 436 ti436:=⟨by kernel_rfl,by simp[ti436,aD,Value.oneCell'],Tryz.underlying436⟩
def ti441:TI:=⟨3,24,[.v (.int .i64 0),.v (.int .i64 0),.v (.int .i64 0)],.st [(0,3),(1,3),(2,3)]⟩
def tok441:bP Tryz.prog 441 ti441:=⟨by kernel_rfl,by simp[ti441,aD,Value.oneCell'],⟨_,Tryz.underlying441,rfl⟩⟩
def ti470:TI:=⟨1,8,[.v (.int .u64 0)],.sc (.int .u64)⟩
def tok470:bP Tryz.prog 470 ti470:=⟨by kernel_rfl,by simp[ti470,aD,Value.oneCell'],⟨Tryz.underlying470,trivial⟩⟩
def ti491:TI:=⟨2,16,[.v (.int .i64 0),.v (.int .i64 0)],.st [(0,3),(1,3)]⟩
def tok491:bP Tryz.prog 491 ti491:=⟨by kernel_rfl,by simp[ti491,aD,Value.oneCell'],⟨_,Tryz.underlying491,rfl⟩⟩
def ti515:TI:=⟨2,16,[.v (.int .i64 0),.v (.int .i64 0)],.st [(0,3),(1,3)]⟩
def tok515:bP Tryz.prog 515 ti515:=⟨by kernel_rfl,by simp[ti515,aD,Value.oneCell'],⟨_,Tryz.underlying515,rfl⟩⟩
def ti528:TI:=⟨0,0,[],.st [(0,527)]⟩
def tok528:bP Tryz.prog 528 ti528:=⟨by kernel_rfl,by simp[ti528,aD,Value.oneCell'],⟨_,Tryz.underlying528,rfl⟩⟩
def ti529:TI:=⟨0,0,[],.st [(0,527)]⟩
def tok529:bP Tryz.prog 529 ti529:=⟨by kernel_rfl,by simp[ti529,aD,Value.oneCell'],⟨_,Tryz.underlying529,rfl⟩⟩
def ti531:TI:=⟨1,1,[.v (.int .u8 0)],.sc (.int .u8)⟩
def tok531:bP Tryz.prog 531 ti531:=⟨by kernel_rfl,by simp[ti531,aD,Value.oneCell'],⟨Tryz.underlying531,trivial⟩⟩
def ti532:TI:=⟨1,1,[.v (.int .u8 0)],.sc (.int .u8)⟩
def tok532:bP Tryz.prog 532 ti532:=⟨by kernel_rfl,by simp[ti532,aD,Value.oneCell'],⟨Tryz.underlying532,trivial⟩⟩
def ti535:TI:=⟨1,4,[.v (.int .i32 0)],.sc (.int .i32)⟩
def tok535:bP Tryz.prog 535 ti535:=⟨by kernel_rfl,by simp[ti535,aD,Value.oneCell'],⟨Tryz.underlying535,trivial⟩⟩
def ti536:TI:=⟨1,4,[.v (.int .i32 0)],.sc (.int .i32)⟩
def tok536:bP Tryz.prog 536 ti536:=⟨by kernel_rfl,by simp[ti536,aD,Value.oneCell'],⟨Tryz.underlying536,trivial⟩⟩
def tab:List (Nat × TI):=[(3,ti3),(4,ti4),(2,ti2),(5,ti5),(6,ti6),(7,ti7),(8,ti8),(9,ti9),(10,ti10),(11,ti11),(12,ti12),(13,ti13),(14,ti14),(21,ti21),(22,ti22),(24,ti24),(25,ti25),(26,ti26),(27,ti27),(28,ti28),(29,ti29),(30,ti30),(31,ti31),(32,ti32),(33,ti33),(34,ti34),(35,ti35),(36,ti36),(37,ti37),(38,ti38),(39,ti39),(40,ti40),(41,ti41),(42,ti42),(43,ti43),(44,ti44),(45,ti45),(46,ti46),(47,ti47),(48,ti48),(49,ti49),(50,ti50),(51,ti51),(52,ti52),(53,ti53),(54,ti54),(55,ti55),(56,ti56),(57,ti57),(73,ti73),(74,ti74),(77,ti77),(81,ti81),(82,ti82),(86,ti86),(87,ti87),(88,ti88),(97,ti97),(98,ti98),(99,ti99),(100,ti100),(101,ti101),(102,ti102),(103,ti103),(104,ti104),(105,ti105),(106,ti106),(107,ti107),(108,ti108),(109,ti109),(110,ti110),(111,ti111),(112,ti112),(113,ti113),(114,ti114),(115,ti115),(116,ti116),(117,ti117),(118,ti118),(119,ti119),(120,ti120),(126,ti126),(127,ti127),(157,ti157),(158,ti158),(167,ti167),(168,ti168),(174,ti174),(175,ti175),(179,ti179),(180,ti180),(185,ti185),(186,ti186),(189,ti189),(190,ti190),(192,ti192),(198,ti198),(199,ti199),(210,ti210),(211,ti211),(254,ti254),(256,ti256),(257,ti257),(266,ti266),(267,ti267),(281,ti281),(289,ti289),(290,ti290),(292,ti292),(304,ti304),(324,ti324),(325,ti325),(336,ti336),(343,ti343),(345,ti345),(347,ti347),(349,ti349),(398,ti398),(403,ti403),(404,ti404),(408,ti408),(415,ti415),(417,ti417),(436,ti436),(441,ti441),(470,ti470),(491,ti491),(515,ti515),(528,ti528),(529,ti529),(531,ti531),(532,ti532),(535,ti535),(536,ti536)]
def T9:Tw Tryz.prog tab:=⟨tok3,tok4,tok2,tok5,tok6,tok7,tok8,tok9,tok10,tok11,tok12,tok13,tok14,tok21,tok22,tok24,tok25,tok26,tok27,tok28,tok29,tok30,tok31,tok32,tok33,tok34,tok35,tok36,tok37,tok38,tok39,tok40,tok41,tok42,tok43,tok44,tok45,tok46,tok47,tok48,tok49,tok50,tok51,tok52,tok53,tok54,tok55,tok56,tok57,tok73,tok74,tok77,tok81,tok82,tok86,tok87,tok88,tok97,tok98,tok99,tok100,tok101,tok102,tok103,tok104,tok105,tok106,tok107,tok108,tok109,tok110,tok111,tok112,tok113,tok114,tok115,tok116,tok117,tok118,tok119,tok120,tok126,tok127,tok157,tok158,tok167,tok168,tok174,tok175,tok179,tok180,tok185,tok186,tok189,tok190,tok192,tok198,tok199,tok210,tok211,tok254,tok256,tok257,tok266,tok267,tok281,tok289,tok290,tok292,tok304,tok324,tok325,tok336,tok343,tok345,tok347,tok349,tok398,tok403,tok404,tok408,tok415,tok417,tok436,tok441,tok470,tok491,tok515,tok528,tok529,tok531,tok532,tok535,tok536,trivial⟩
def TE:Nat->Option TI:=KB tab
def pK:∀t i,TE t=some i->bP Tryz.prog t i:=Fs T9
def Tt:C->Value->C
 | .s .own rows,v=>.s (.tag v) rows
 | c,_=>c
def Av(u:Nat->Value):Nat->List C->List C
 | _,[]=>[]
 | j,c::cs=>Tt c (u j)::Av u (j+1) cs
def z7(u:Nat->Nat->Value):Nat->List MA->List (Nat × AV)
 | _,[]=>[]
 | i,.val a cs::A=>(i,.H (kA a) cs)::z7 u (i+1) A
 | i,.mut a cs::A=>(i,.H (kA a) (Av (u i) 0 cs))::z7 u (i+1) A
 | i,.ptr cs::A=>(i,.H .box cs)::z7 u (i+1) A
def JL(p:Nat->Value):Nat->List MA->List (Nat × Value)
 | _,[]=>[]
 | i,.ptr _::A=>(i,p i)::JL p (i+1) A
 | i,_::A=>JL p (i+1) A
def F5:Nat->List MA->List (Nat × Nat)->List (Option Nat)
 | i,.val _ _::A,_::pl=>none::F5 (i+1) A pl
 | i,.mut _ _::A,p::pl=>some p.1::F5 (i+1) A pl
 | i,.ptr _::A,_::pl=>some i::F5 (i+1) A pl
 | _,_,_=>[]
def HT:List (Option Nat)->Bool
 | []=>true
 | none::l=>HT l
 | some t::l=>l.all (λx=>match x with|some a=>!Nat.beq t a|none=>true)&&HT l
def sles:List (Option Nat)->List Nat
 | []=>[]
 | none::l=>sles l
 | some t::l=>t::sles l
def UT(v:Value)(c y o:C):Prop:=
 match c with
 | .s .own _=>(match y with|.s (.tag v') rows=>v'=v/\o=.s .own rows|_=>False)
 | .s (.tag _) _=>False
 | .m _=>False
 | .it _ _=>False
 | c=>o=c
def RV(u:Nat->Value):Nat->List C->List C->List C->Prop
 | _,[],_,o=>o=[]
 | j,c::cs,y::xs,o::os=>UT (u j) c y o/\RV u (j+1) cs xs os
 | _,_,_,_=>False
def je(u:Nat->Nat->Value)(F:Nat->AV):Nat->List MA->List (Nat × Nat)->List MA->Prop
 | _,[],_,[]=>True
 | i,.val _ _::A,_::pl,.val _ _::B=>je u F (i+1) A pl B
 | i,.mut ag cs::A,p::pl,.mut a out::B=>(a=ag/\match F p.1 with|.H _ xs=>RV (u i) 0 cs (xs.drop p.2) out|_=>False)/\je u F (i+1) A pl B
 | i,.ptr _::A,_::pl,.ptr out::B=>(match F i with|.H .box xs=>xs=out|_=>False)/\je u F (i+1) A pl B
 | _,_,_,_=>False
inductive aV(k k':Kd)(cs cs':List C)(Q:Prop):Prop
 |mk_ (h:k=k'/\cs=cs'/\Q)
theorem aV.mk{Q:Prop}(h1:k=k')(b:cs=a)(c:Q):aV k k' cs a Q:=by refine .mk_ ?_;grind
def CJ:type_of% @aV.mk:=@aV.mk
def aV.out{Q:Prop}(h:aV k k' cs a Q):k=k'/\cs=a/\Q:=by obtain⟨h⟩:=h;exact h
def T8(TE:Nat->Option TI)(d:List ResultVar)(k:Kd)(rcs:List C)(u:Nat->Nat->Value)(A B:List MA)(a:List (Nat × Nat)):Exit->(Nat->AV)->Prop:=λe F=>
 match e with
 | .normal=>resA TE F d (sles (F5 0 A a)) λb c=>aV (gL b) k c rcs (je u F 0 A a B)
 | .ret=>resA TE F d (sles (F5 0 A a)) λb c=>aV (gL b) k c rcs (je u F 0 A a B)
 | _=>False
section
variable{P:Program}{w0 w w1:World}{M S0 S:ah}{N:fy}{φ:Nat->ah}{F:Nat->AV}{a:Act}{TE:Nat->Option TI}
theorem dY.tag{Y:ah}{c:C}{v:Value}(h:dY w S Y c v):dY w S Y (Tt c v) v:=by
 cases h with
 | nil _ o a B=>cases o with
  | own=>exact .nil _ _ _ rfl
  | _=>exact .nil _ _ _ B
 | own _ o g k n l e u f B D E i p t K L M y=>cases o with
  | own=>exact .own _ _ g k n l e u f rfl D E i p t K L M y
  | W=>exact B.elim
  | tag z=>exact .own _ _ g k n l e u f B D E i p t K L M y
 | v _ x F=>exact .v _ _ F
 | x _ u F=>exact .x _ _ F
 | z _ a=>exact .z _ _
 | W _ g G k n l e u D E i N y=>exact .W _ g G k n l e u D E i N y
 | m _ b d O j t H P J q=>exact .m _ b d O j t H P J q
 | it _ r b since Q d seen j cur left t R H q y J T A=>exact .it _ r b since Q d seen j cur left t R H q y J T A
def dY.untag{Y:ah}{z v:Value}{rows:List (List C)}(h:dY w S Y (.s (.tag z) rows) v):v=z/\dY w S Y (.s .own rows) v:=by
 cases h with
 | nil _ o a d=>exact⟨Eq.symm d,.nil _ _ _ trivial⟩
 | own _ o g k n e rows u f d i j b c l p q r t=>exact⟨Eq.symm d,.own _ _ g k n e rows u f trivial i j b c l p q r t⟩
theorem pj(u:Nat->Value):∀(j:Nat)(cs:List C),(Av u j cs).length=cs.length
 | _,[]=>rfl
 | j,c::cs=>by simp[Av,pj u (j+1) cs]
theorem FT(u:Nat->Value):∀(a:Nat)(cs:List C)(j:Nat),(Av u a cs)[j]? = (cs[j]?).map λc=>Tt c (u (a+j))
 | _,[],j=>by simp[Av]
 | a,c::cs,0=>by simp[Av]
 | a,c::cs,j+1=>by simp only[Av,List.getElem?_cons_succ];rw[FT u (a+1) cs j,show a+1+j=a+(j+1) by omega]
variable{u:Nat->Value}
theorem cL.tag{Y:ah}{cs:List C}(h:cL w S Y cs u):cL w S Y (Av u 0 cs) u:=by
 obtain⟨f,i,b,d⟩:=h;refine⟨f,λj c a=>?_,λj a=>b j (by grind [pj]),λj e a g=>d j e (by grind [pj]) (by grind [pj])⟩
 grind [FT,dY.tag]
def celF(v:Value)(j:Nat):Value:=v.cells.toList.getD j undef
def bv.celF{Y:ah}{ag:Option Nat}{cs:List C}{v:Value}(h:bv w S Y ag cs v):cs.length=ag.getD 1/\v=mkv ag (celF v)/\cL w S Y cs (celF v):=by
 obtain⟨b,u,c,d⟩:=h;have g:=qx (ag:=ag) (u:=u) (λe=>by subst e;exact d.one (by simp at b;omega));have f:∀j,j<ag.getD 1->Ab.celF v j=u j:=λj a=>by
  unfold Ab.celF;rw[c,g];simp[List.getD,a]
 exact⟨b,c.trans (jL λj a=>(f j a).symm),d.congr λj a=>f j ω⟩
def Tc(u:Nat->Nat->Value)(i:Nat):MA->AV
 | .val a cs=>.H (kA a) cs
 | .mut a cs=>.H (kA a) (Av (u i) 0 cs)
 | .ptr cs=>.H .box cs
theorem Bg{u:Nat->Nat->Value} : ∀{A:List MA}{vs:List Value}{V:Nat->ah}(i:Nat),MD w S V A vs->∀t,(lay (z7 u i A) t=.dead)\/(∃m v,i<=t/\vs[t - i]? = some v/\A[t - i]? = some m/\lay (z7 u i A) t=Tc u t m/\pF w S (V (t - i)) m v)
 | [],_,_,i,_,t=>.inl rfl
 | m::A,[],_,i,h,t=>h.elim
 | m::A,v::vs,V,i,h,t=>by
  have b:lay (z7 u i (m::A)) t=bif Nat.beq t i then Tc u i m else lay (z7 u (i+1) A) t:=by cases m<;>rfl
  rw[b];cases c:Nat.beq t i with
  | true=>
   have:=W2 c;subst this;exact .inr ⟨m,v,X3 _,by simp,by simp,rfl,by rw[Nat.sub_self];exact h.1⟩
  | false=>
   have d:t≠i:=λe=>by simp_all
   rcases Bg (i+1) h.2 t with a|⟨f,g,a,j,k,l,n⟩
   ·exact .inl a
   grind
def D3:∀{A:List MA}{vs:List Value}{V:Nat->ah},MD w S V A vs->A.length=vs.length
 | [],[],_,_=>rfl
 | _::_,_::_,_,h=>by simp[D3 h.2]
 | [],_::_,_,h=>h.elim
 | _::_,[],_,h=>h.elim
theorem K3{p:Nat->Value} : ∀{A:List MA}{i:Nat}{q:Nat × Value},q∈JL p i A->i<=q.1/\q.1<i+A.length/\q.2=p q.1
 | [],_,_,h=>by simp[JL]at h
 | m::A,i,q,h=>by
  have a:q∈JL p (i+1) A->i<=q.1/\q.1<i+(m::A).length/\q.2=p q.1:=λh=>by
   obtain⟨b,c,d⟩:=K3 h
   grind
  cases m with
  | ptr e=>
   rcases List.mem_cons.1 h with rfl|h
   all_goals grind
  | val=>exact a h
  | «mut»=>exact a h
theorem JT{p:Nat->Value} : ∀{A:List MA}{i n:Nat}{cs:List C},A[n]? = some (.ptr cs)->(i+n,p (i+n))∈JL p i A
 | [],_,n,_,h=>by simp at h
 | m::A,i,0,cs,h=>by grind [JL]
 | m::A,i,n+1,cs,h=>by
  have a:=JT (p:=p) (i:=i+1) (show A[n]? = some (.ptr cs) by simpa using h);rw[show i+1+n=i+(n+1) by omega]at a;cases m with
  | ptr cs=>exact W6 _ a
  | val=>exact a
  | «mut»=>exact a
def T5(φ:Nat->ah):Option (Option Nat)->ah
 | some (some t)=>φ t
 | _=>NO
theorem D8{u:Nat->Value} : ∀{b:Nat}{cs xs a:List C},RV u b cs xs a->cs.length=a.length/\∀(j:Nat)(c o:C),cs[j]? = some c->a[j]? = some o->∃y,(eG c=true->xs[j]? = some y)/\UT (u (b+j)) c y o
 | _,[],xs,a,h=>by grind [RV]
 | _,_::_,[],_,h=>by grind [RV]
 | _,_::_,_::_,[],h=>by grind [RV]
 | b,d::cs,e::xs,f::a,h=>by
  simp only[RV]at h;obtain⟨g,i⟩:=D8 h.2
  grind
theorem P2{S' Y r:ah}{E:Nat->Value}{cs xs t:List C}{off:Nat}(g:bn S w w1)(l:∀b o,S b o->S' b o)(h:cL w S Y cs u)(h':cL w1 S' r xs E)(F:RV u 0 cs (xs.drop off) t):cL w1 S' r t u:=by
 obtain⟨f,G,O,P⟩:=h;obtain⟨A,n,H,J⟩:=h';obtain⟨Q,K⟩:=D8 F;refine⟨λj b o=>off+j<xs.length/\A (off+j) b o,λj c B=>?_,ψ,ψ⟩;have L:=(Z2.1 B).1;have i:cs[j]? = some cs[j]:=ψ
 obtain⟨y,k,a⟩:=K j _ c i B;rw[O8]at a;have d:=G j _ i;generalize cs[j]=p at i a d k;have keep:eG p=false->c=p->dY w1 S' (λb o=>off+j<xs.length/\A (off+j) b o) c (u j):=λM e=>by
  subst e;exact((d.bare (F':=NO) M).keep g (λ_ _ h=>h.elim)).mono l (λ_ _ h=>h.elim)
 cases p with
 | v R=>exact keep rfl a
 | x=>exact keep rfl a
 | z=>exact keep rfl a
 | m T=>exact a.elim
 | it=>exact a.elim
 | s o D=>
  cases o with
  | W=>exact keep rfl a
  | tag z=>exact a.elim
  | own=>
   have k:=k rfl;rw[List.getElem?_drop]at k;have N:=(Z2.1 k).1;simp only[UT]at a;split at a
   case h_2=>exact a.elim
   rename_i U q;obtain⟨rfl,rfl⟩:=a;obtain⟨V,W⟩:=(n _ _ k).untag
   simp_all
theorem aZ.backs{C:World}{S':ah}{u:Nat->Nat->Value}(h:aZ w0 M S0 N S' φ F a C)(d:bn S w C)(f:∀b o,S b o->S' b o):∀{A:List MA}{g:List (Nat × Nat)}{B:List MA}{vs:List Value}{V:Nat->ah}{i:Nat},MD w S V A vs->
  (∀j v,vs[j]? = some v->u (i+j)=celF v)->(∀j v cs,vs[j]? = some v->A[j]? = some (.ptr cs)->tvs a (i+j)=v)->je u F i A g B->BI C S' (λn=>T5 φ (F5 i A g)[n]?) B vs
 | [],g,B,vs,V,i,l,r,t,c=>by
  cases vs with
  | cons _ _=>exact l.elim
  | nil=>cases B with
   | nil=>trivial
   | cons _ _=>grind [je]
 | m::A,[],B,vs,V,i,l,r,t,c=>by grind [je]
 | m::A,p::g,[],vs,V,i,l,r,t,c=>by grind [je]
 | m::A,p::g,D::B,[],V,i,l,r,t,c=>l.elim
 | m::A,p::g,D::B,v::vs,V,i,l,r,t,c=>by
  have next:je u F (i+1) A g B->BI C S' (λn=>T5 φ (F5 (i+1) A g)[n]?) B vs:=λc=>
   aZ.backs h d f l.2 (λj v T=>by rw[show i+1+j=i+(j+1) by omega];simp_all)
    (λj v cs T X=>by rw[show i+1+j=i+(j+1) by omega];simp_all) c
  cases m with
  | val U cs=>
   cases D with
   | val y W=>simp only[je]at c;exact⟨trivial,next c⟩
   | ptr=>grind [je]
   | «mut»=>grind [je]
  | «mut» U cs=>
   cases D with
   | val=>grind [je]
   | ptr=>grind [je]
   | «mut» y out=>
    simp only[je]at c;obtain⟨⟨rfl,e⟩,G⟩:=c;refine⟨?_,next G⟩;have E:=bv.celF (show bv w S (V 0) y cs v from l.1);have H:u i=celF v:=r 0 v (by simp);have q:=h.slot p.1;cases J:F p.1 with
    | H k xs=>
     rw[J]at e q;simp only at e;rw[H]at e;obtain⟨O,Y,P,K,Q,R,L⟩:=q;refine⟨by grind [D8],celF v,E.2.1,?_⟩;exact(P2 d f E.2.2 L e).mono (λ_ _ h=>h) (λb o c=>by simpa[F5,T5] using K b o c)
    | _=>grind
  | ptr cs=>
   cases D with
   | val=>grind [je]
   | «mut»=>grind [je]
   | ptr out=>
    simp only[je]at c;refine⟨?_,next c.2⟩;have E:tvs a i=v:=t 0 v cs (by simp) (by simp);have q:=h.slot i;cases J:F i with
    | H k xs=>
     cases k with
     | box=>
      rw[J]at c q;have:=c.1;simp only at this;subst this;rw[E]at q;obtain⟨O,Y,P,K,Q,R,L⟩:=q;exact⟨O,Y,λb o c=>by simpa[F5,T5] using P b o c,λb o c=>by simpa[F5,T5] using K b o c,Q,R,L⟩
     | _=>grind
    | _=>grind
theorem uE:∀{l:List (Option Nat)},HT l=true->∀(i a t c:Nat),i≠a->l[i]? = some (some t)->l[a]? = some (some c)->t≠c
 | [],_,i,a,t,c,_,h,_=>by simp at h
 | none::l,b,i,a,t,c,f,h,d=>by
  cases i with
  | zero=>simp at h
  | succ i=>cases a with
   | zero=>simp at d
   | succ a=>exact uE (l:=l) b i a t c ω (by simpa using h) (by simpa using d)
 | some g::l,b,i,a,t,c,f,h,d=>by
  simp only[HT,I0]at b;have k:∀(n s:Nat),l[n]? = some (some s)->g≠s:=λn s j e=>by
   have:=Y4.1 b.1 _ (O2 j)
   simp_all
  cases i with
  | zero=>
   grind
  | succ i=>cases a with
   | zero=>grind
   | succ a=>exact uE b.2 i a t c ω (by simpa using h) (by simpa using d)
theorem yp:∀{l:List (Option Nat)}{i t:Nat},l[i]? = some (some t)->t∈sles l
 | [],i,t,h=>by simp at h
 | none::l,i,t,h=>by
  cases i with
  | zero=>simp at h
  | succ i=>exact yp (l:=l) (i:=i) (by simpa using h)
 | some a::l,i,t,h=>by
  cases i with
  | zero=>grind [sles]
  | succ i=>exact W6 _ (yp (l:=l) (i:=i) (by simpa using h))
theorem zv{φ:Nat->ah}{x:Option (Option Nat)}{b o:Nat}(h:T5 φ x b o):∃t,x=some (some t)/\φ t b o:=by
 match x,h with
 | some (some t),h=>exact⟨t,rfl,h⟩
 | some none,h=>exact h.elim
 | none,h=>exact h.elim
theorem Mh{f : Nat}{y : Func}{c : Code}{sh : Bool}{A B : List MA}{k : Kd}{rcs : List C}{mo : List (Nat × List Nat)}{n : Nat}(O : List (Nat × Nat))(hTE : ∀t i, TE t = some i -> bP P t i)(hf : P.funcs[f]? = some y)(hn : (y.name == "runtime.NumGoroutine") = false)(d:y.body=some c){ck:Nat->Array Oper->Bool}{D:fy->Nat->Array Oper->((Nat->AV)->Prop)->(Nat->AV)->Prop}(hD:∀N,vg P N ck (D N))(hc:ge ck c=true)(hN:A.length+(y.ntmps - A.length)=n)(hok:HT (F5 0 A O)=true)(hsh:sh=true\/hO rcs)(hp:∀(u:Nat->Nat->Value)(p:Nat->Value),aw P TE ⟨n,JL p 0 A,mo⟩ (D ⟨n,JL p 0 A,mo⟩) c (T8 TE y.results.toList k rcs u A B O) (lay (z7 u 0 A))):aT P f sh A B k rcs:=by
 refine⟨⟨y,hf,hn,by rw[d];rfl⟩,λw S V E hS hV hVd hA=>?_⟩;have hlen:=D3 hA;refine calls_of_wp hf d ?_
 let u:Nat->Nat->Value:=λi=>celF (E.getD i undef)
 let p:Nat->Value:=λi=>E.getD i undef
 have htv:∀t v,E[t]? = some v->tvs {tmps:=E.toArray++Array.replicate (y.ntmps - E.toArray.size) undef,defers:=[]} t=v:=λt v r=>by
  have Q:=(Z2.1 r).1;simp only[tvs,Z7]
  grind
 have hst:St w (λb o=>∃i,V i b o) S ⟨n,JL p 0 A,mo⟩ (lay (z7 u 0 A)) {tmps:=E.toArray++Array.replicate (y.ntmps - E.toArray.size) undef,defers:=[]} w:=by
  refine⟨S,V,λt=>?_,hVd,ψ,ψ,λ_ _ h=>h,ψ,Ca _ _,by simp;omega,rfl,λq hq=>?_⟩
  ·rcases Bg (u:=u) 0 hA t with J|⟨m,v,-,r,h2',K,U⟩
   ·rw[J];trivial
   rw[K];rw[Nat.sub_zero]at r U;rw[htv t v r];have hu:u t=celF v:=ψ
   cases m with
   | val M G=>exact(bv.mono (show bv w S NO M G v from U) (λ_ _ h=>h) (λ_ _ h=>h.elim)).slot
   | «mut» M G=>
    obtain⟨e1,e2,e3⟩:=bv.celF (show bv w S (V t) M G v from U);refine bv.slot ⟨by grind [pj],celF v,e2,?_⟩
    grind [cL.tag]
   | ptr G=>exact U
  obtain⟨-,J,r⟩:=K3 hq
  grind
 refine iC hTE (hD _) c hc _ _ _ _ w (hp u p) hst λe F' W l he hs'=>?_
 obtain⟨S',φ',h⟩:=hs';have fin:resA TE F' y.results.toList (sles (F5 0 A O)) (λsh G=>aV (gL sh) k G rcs (je u F' 0 A O B))->W.defers=[]/\∃v,(results y W.tmps).run P l=.ok v l/\(∃v',Ending.returned v=.returned v'/\bA (λb o=>∃i,V i b o) w l/\∃(X:ah)(Z:Nat->ah)(S1:ah),
     (∀b o,X b o->(∃i,V i b o)\/(b<l.heap.size/\w.heap.size<=b))/\(∀i b o,Z i b o->(∃i,V i b o)\/(b<l.heap.size/\w.heap.size<=b))/\
     (∀b o,S1 b o->(sh=true/\S b o)\/(∃i,V i b o)\/(b<l.heap.size/\w.heap.size<=b))/\
     (∀i i',i≠i'->∀b o,Z i b o->¬Z i' b o)/\(∀i b o,X b o->¬Z i b o)/\(∀b o,X b o->¬S1 b o)/\(∀i b o,Z i b o->¬S1 b o)/\
     fN l NO k rcs.length v'/\cL l S1 X rcs (ch l k v')/\BI l (λb o=>S b o\/S1 b o) Z B E):=by
  intro hr;obtain⟨shs,G,a,u',hfin,hrun,L,hln,hL,hcells,H,hrow⟩:=h.resA hTE hr;obtain⟨rfl,rfl,R⟩:=hfin.out;refine⟨h.defers,?_⟩;have T:(results y W.tmps).run P l=.ok (if h:a.toArray.size=1 then a.toArray[0] else .tuple a.toArray) l:=by
   have e:results y W.tmps=(do let E <-y.results.mapM (AY W.tmps);pure (if h:E.size=1 then E[0] else .tuple E)):=by
    unfold results
    congr 1
   rw[e,<-Array.toArray_toList (xs:=y.results),List.mapM_toArray]
   simp_all
  have hex:∀t b o,φ' t b o->(∃i,V i b o)\/(b<l.heap.size/\w.heap.size<=b):=λt b o d=>(h.ex t b o d).2.elim (λh'=>.inr ⟨(h.ex t b o d).1,h'⟩) .inl
  have hsameS:bn S w l:=λb o d=>by
   have Q:=hS b o d;exact⟨h.old.cel b o Q ψ,h.old.fro b o Q ψ⟩
  have hm:=h.backs (u:=u) hsameS h.sub hA ψ (λj v G hj hc=>by
    have:=h.par _ (JT (p:=p) (i:=0) hc)
    grind) R
  refine⟨_,T,_,rfl,h.old,λb o=>∃t,t∉sles (F5 0 A O)/\φ' t b o,λi=>T5 φ' (F5 0 A O)[i]?,λb o=>(sh=true/\S' b o)\/(S' b o/\((∃i,V i b o)\/w.heap.size<=b)),ψ,λi b o d=>?_,λb o d=>?_,λi i' hne b o d g=>?_,λi b o ⟨t,ht,d⟩ g=>?_,λb o ⟨t,_,d⟩ g=>h.disS t b o d ψ,λi b o d g=>?_,?_⟩
  ·grind [zv]
  ·rcases d with⟨J,r⟩|⟨J,r⟩
   ·rcases(h.sup b o r).2 with K|K|K
    ·grind
    ·exact .inr (.inr ⟨(h.sup b o r).1,K⟩)
    grind
   rcases r with r|r
   ·grind
   exact .inr (.inr ⟨(h.sup b o J).1,r⟩)
  ·obtain⟨t,e1,d⟩:=zv d
   obtain⟨t',e2,g⟩:=zv g;exact h.dis t t' (uE hok i i' t t' hne e1 e2) b o d g
  ·obtain⟨t',e2,g⟩:=zv g
   exact h.dis t t' (λe=>ht (by grind [yp])) b o d g
  ·obtain⟨t,-,d⟩:=zv d
   exact h.disS t b o d ψ
  have hk:fN l NO (gL shs) G.length (if h:a.toArray.size=1 then a.toArray[0] else .tuple a.toArray)/\cL l S' (λb o=>∃t,t∉sles (F5 0 A O)/\φ' t b o) G (ch l (gL shs) (if h:a.toArray.size=1 then a.toArray[0] else .tuple a.toArray)):=by
   match shs,L,H,hL with
   | [],L,_,hL=>
    cases a with
    | cons _ _=>exact L.elim
    | nil=>
     have:G=[]:=ψ
     subst this;exact⟨⟨_,rfl,trivial,rfl⟩,cL.nil _ _ _ _⟩
   | [M],_,H,_=>
    obtain⟨v,rfl,hv⟩:=H M rfl;have:=hv.slot (F:=F') (tv:=tvs W);obtain⟨X1,Y,J,r,K,U,h5⟩:=this;refine⟨?_,h5.mono (λ_ _ h=>h) r⟩;cases M<;>exact U
   | M::ag2::sh,L,_,hL=>
    have hsz:¬a.toArray.size=1:=by
     match a,L with
     | [],L=>simp
     | [v],L=>cases M<;>cases ag2<;>exact L.2.elim
     | _::_::_,_=>simp
    rw[dif_neg hsz];refine⟨⟨_,rfl,L,hL⟩,hrow.congr λj hj=>?_⟩;simp only[ch,gL,lQ,hcells];simp[List.getD,hj]
  refine⟨hk.1,?_,hm.mono λb o d=>?_⟩
  ·rcases hsh with J|J
   ·exact hk.2.mono ψ (λ_ _ h=>h)
   exact(hk.2.fresh J).mono (λ_ _ h=>h.elim) (λ_ _ h=>h)
  rcases(h.sup b o d).2 with K|K|K
  all_goals grind
 cases e with
 | normal=>exact fin he
 | ret=>exact fin he
 | _=>exact he.elim
end
abbrev I(z:Int):C:=.v (.int .i64 z)
abbrev B(b:Bool):C:=.v (.bool b)
def rI(_:dM)(z:Int):List C:=[I z]
def rB(_:dM)(b:Bool):List C:=[B b]
def rk(z:Int):hO (rI .own z):=⟨trivial,trivial⟩
def FY(b:Bool):hO (rB .own b):=⟨trivial,trivial⟩
def n7(z:Int):Prop:=-9223372036854775808<=z/\z<=9223372036854775807
def UW(_:Bool):Prop:=True
def ot : Tryz.prog.follows .mixedOrders=true:=by kernel_rfl
variable{tb: List (Nat × Nat × List Nat)}{rcs: List C}{A: List RA}{c: Code}{mo: List (Nat × List Nat)}{f: Nat}
def U5{a : Func}{sh : Bool}(d : Tryz.prog.funcs[f]? = some a)(e : (a.name == "runtime.NumGoroutine") = false)(g : a.body = some c)(h : ge (mR tb) c = true)(i:A.length+(a.ntmps - A.length)=n)(b:sh=true\/hO rcs)(j:aw Tryz.prog TE ⟨n,[],mo⟩ (DF Tryz.prog TE ⟨n,[],mo⟩ tb) c (Q2 TE a.results.toList k rcs) (lay (w9 0 A))):zzA f sh A k rcs:=
 M6 pK d e g (oc pK ot ⟨n,[],mo⟩ tb) h i rfl b j
def U6{a : Func}{sh : Bool}{A B : List MA}(b : List (Nat × Nat))(g : Tryz.prog.funcs[f]? = some a)(h : (a.name == "runtime.NumGoroutine") = false)(i : a.body = some c)(j : ge (mR tb) c = true)(l:A.length+(a.ntmps - A.length)=n)(d:HT (F5 0 A b)=true)(e:sh=true\/hO rcs)(o:∀(u:Nat->Nat->Value)(p:Nat->Value),aw Tryz.prog TE ⟨n,JL p 0 A,mo⟩ (DF Tryz.prog TE ⟨n,JL p 0 A,mo⟩ tb) c (T8 TE a.results.toList k rcs u A B b) (lay (z7 u 0 A))):zzB f sh A B k rcs:=
 Mh b pK g h i (λN=>oc pK ot N tb) j l d e o
def TY{t: Nat}{a : Func}(b : Tryz.prog.funcs[f]? = some a)(d : (a.name == "runtime.NumGoroutine") = false)(e : a.body = some c)(g : ge (mR tb) c = true)(h:A.length+(a.ntmps - A.length)=n)(i:a.results = #[.tmp t])(j:aw Tryz.prog TE ⟨n,[],mo⟩ (DF Tryz.prog TE ⟨n,[],mo⟩ tb) c (U0 t rcs) (lay (w9 0 A))):sr Tryz.prog f true A .box rcs:=
 M7 pK b d e (oc pK ot ⟨n,[],mo⟩ tb) g h rfl i j
theorem eX{x:Int}(h1 : -9223372036854775808<=x)(a:x<=9223372036854775807):IntKind.i64.wrap x=x:=IntWalk.i64_in x ω
def PO:RA->RA->Prop
 | .val ag cs,.val ag' cs'=>ag=ag'/\cs=cs'
 | .ptr cs,.ptr cs'=>cs=cs'
 | A,a=>A=a
theorem PO.eq{A a:RA}(h:PO A a):A=a:=by
 unfold PO at h
 grind
def BG:List RA->List RA->Prop
 | [],[]=>True
 | A::As,B::Bs=>PO A B/\BG As Bs
 | _,_=>False
theorem BG.eq:∀{A a:List RA},BG A a->A=a
 | [],[],_=>rfl
 | A::As,B::Bs,h=>by rw[PO.eq h.1,BG.eq h.2]
 | [],_::_,h=>h.elim
 | _::_,[],h=>h.elim
theorem Cl.eq{P:Program}{b:Bool}{a:List RA}{K:AV->Prop}(h:ar P f false a k rcs)(c:BG A a)(d:K (.H k rcs)):Cl P f b A K:=by grind [BG.eq,C9]
def CH:type_of% @Cl.eq:=@Cl.eq
def zE{b:Nat}(h:n<=1048576)(a:b<=1000):n*b<=140737488355328:=C6 (Nat.mul_le_mul h a) (by decide)
theorem Bf.NB{a b:Bool}{X Y:Prop}(h1:a≠b->X)(c:a=b->Y):Bf (a != b) X Y:=by grind [Bf.P]
theorem Rw.one{off k j:Nat}{K:List C->Nat->Prop}{o:dM}{rows:List (List C)}{r:List C}(h1:a[off]? = some (.s o rows))(c:rows[i]? = some r)(d:r.length=k)(b:K r j):Rw a off [(i,k,j)] K:=
 Rw.mk (r:=r) (j:=j) (by grind [cq]) b
def CK:type_of% @Rw.one:=@Rw.one
section
variable{α:Type}{A B:List α}
end
def aa{β:Type}{f:α->β}{l:List α}{k:Nat}{x:α}(h:l[k]? = some x):(l.map f)[k]? = some (f x):=by simp[h]
end Go.Proofs.YtiopgblagimpmaaGreat.Ab
