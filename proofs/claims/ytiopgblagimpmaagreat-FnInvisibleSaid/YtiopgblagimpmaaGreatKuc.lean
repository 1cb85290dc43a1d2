/- A region that draws its order may be run in the text's order, where its operations are apart. No condition. -/
import Derived.Test.YtiopgblagimpmaaGreatKub
import Derived.Orders
import Derived.Test.YtiopgblagimpmaaGreatKua
import Derived.KernelRfl
import Derived.Test.YtiopgblagimpmaaGreatProg
set_option linter.unusedVariables false
set_option linter.defProp false
set_option linter.unusedSimpArgs false
set_option linter.constructorNameAsVariable false
namespace Go.Proofs.YtiopgblagimpmaaGreat.Ab
open Go.RowKit
def dd(o:Oper)(i:Nat):Bool:=o.after.toList.any λe=>Region.binds .any e&&Nat.beq e.on i
def dv(ops:Array Oper)(i:Nat):Oper:=ops.getD i default
def below(n:Nat)(p:Nat->Bool):Bool:=(List.range n).all p
def uy(ops:Array Oper)(i j:Nat):Bool:=match(dv ops i).dst with|some d=>((dv ops j).looksAt ops).any (Nat.beq d)|none=>false
def FH:List Nat->Nat
 | []=>0
 | k::a=>2 ^ k ||| FH a
def ons(o:Oper):List Nat:=(o.after.toList.filter λe=>Region.binds .any e).map (·.on)
variable{α:Type}
def frc(n:Nat)(K:Nat->α):α:=match n with|0=>K 0|n+1=>K (n+1)
def QO(n:Nat)(K:Nat->α):frc n K=K n:=by cases n<;>rfl
def clo(ops:Array Oper):Nat->Nat->Nat
 | 0,S=>S
 | k+1,S=>bif S.testBit k then frc (S ||| FH (ons (dv ops k))) (clo ops k) else clo ops k S
def DK(ops:Array Oper)(m:Nat):Bool:=
 below ops.size λj=>((dv ops j).after.toList.all λe=>!Region.binds .any e || Nat.blt e.on j) &&
  (bif Nat.blt j m then below m (λi=>Nat.beq i j || ((dd (dv ops j) i || dd (dv ops i) j || (dv ops i).apart ops (dv ops j))&&(!uy ops i j || dd (dv ops j) i))) else frc (clo ops j (FH (ons (dv ops j)))) λS=>below j λi=>S.testBit i)
def xA:List (Nat × Nat × List Nat)->Nat->Option (Nat × List Nat)
 | [],_=>none
 | p::l,id=>bif Nat.beq id p.1 then some p.2 else xA l id
def gX(P:Program)(TE:Nat->Option TI)(N:fm)(ops:Array Oper)(o:Oper)(K:(Nat->AV)->Prop)(F:Nat->AV):Prop:=
 fR F ops o.guard (λF=>match o.dst with|some d=>dh P TE F o.op λa=>bP N F d a K|none=>False)
  (λF=>match o.dst with|some d=>bP N F d (.H (.tup []) []) K|none=>False)
def oA:Op->Option (Option Nat × Nat)
 | .buildSlice T 1 ps=>(match ps.toList with|[(0,.tmp s)]=>some (some T,s)|_=>none)
 | .move (.tmp s)=>some (none,s)
 | _=>none
def own1(T:Option Nat)(k:Kd)(cs:List C):Bool:=match T with
 | some _=>(match k with
   | .one=>(match cs with|[c]=>fx c|_=>false)
   | .agg=>(match cs with|[c]=>fx c|_=>false)
   | _=>false)
 | none=>(match k with|.tup _=>!bp cs|_=>false)
def Vu(TE:Nat->Option TI)(N:fm)(F:Nat->AV)(d:Nat)(T:Option Nat)(s:Nat)(K:(Nat->AV)->Prop):Prop:=match T with
 | some T=>gq TE N F d T 1 [(0,.tmp s)] K
 | none=>jl N F d (.tmp s) K
def Mt(F:Nat->AV)(o:Oper):Option (Option Nat × Nat):=
 match o.guard with
 | some _=>none
 | none=>match oA o.op with
  | none=>none
  | some p=>match F p.2 with
   | .H k cs=>bif own1 p.1 k cs then some p else none
   | .dead=>none
   | .ref ..=>none
   | .c1 ..=>none
   | .iref ..=>none
   | .fn ..=>none
   | .fv _=>none
def jJ(ops:Array Oper)(o:Oper)(s:Nat):Bool:=
 ((List.range ops.size).any λk=>dd o k&&(match(dv ops k).dst with|some a=>Nat.beq a s|none=>false))&&Nat.ble (ops.toList.filter λk=>(k.looksAt ops).any (Nat.beq s)).length 1
def qO(ds:List Nat)(o:Oper):Bool:=match o.dst with|some d=>ds.any (Nat.beq d)|none=>false
def twk:List Nat->List Nat
 | []=>[]
 | e::l=>bif Nat.ble 1000 e then(e - 1000)::twk l else []
def dec:List Nat->List (Nat × List Nat)
 | []=>[]
 | e::l=>bif Nat.ble 1000 e then dec l else(e,twk l)::dec l
def Ui:Op->Bool
 | .move (.tmp _)=>true
 | .assign _=>true
 | .extract ..=>true
 | .build ..=>true
 | .buildSlice ..=>true
 | .store ..=>true
 | .load ..=>true
 | .fieldAddr ..=>true
 | .field ..=>true
 | .binOp ..=>true
 | .unOp ..=>true
 | .call c=>(rh c).isSome
 | .slice _ _ none (some _) none=>true
 | _=>false
def pn:Op->Bool
 | .call c=>(match c.callee with|.value (.func _)=>true|_=>false)
 | _=>false
def zu(l:List (Nat × List Nat))(i:Nat):Bool:=l.any λp=>Nat.beq p.1 i
def wF(ops:Array Oper)(j i:Nat):Bool:=(clo ops j (FH (ons (dv ops j)))).testBit i
def Vz(o:Oper):Bool:=match o.guard with|none=>true|some _=>false
def VR(sch:List (Nat × List Nat))(i:Nat):Bool:=sch.any λp=>Nat.beq p.1 i&&!p.2.isEmpty
def VO(ops:Array Oper)(a b:Oper)(nm:Bool):Bool:=match b.dst with
 | none=>false
 | some c=>Vz a&&(Ui a.op || pn a.op)&&!(match a.dst with|some d=>Nat.beq d c|none=>false)&&!(a.looksAt ops).any (Nat.beq c)&&Vz b&&!(b.looksAt ops).any (Nat.beq c)&&(nm || match oA b.op with|none=>true|some p=>!jJ ops b p.2)
def AW(ops:Array Oper)(ds:List Nat)(nm:Nat->Bool)(i j:Nat):Bool:=
 bif qO ds (dv ops j) then(bif qO ds (dv ops i) then(dd (dv ops j) i || dd (dv ops i) j || (dv ops i).apart ops (dv ops j))&&(!uy ops i j || dd (dv ops j) i)&&!(match(dv ops i).dst with|some d=>(match(dv ops j).dst with|some e=>Nat.beq d e|none=>false)|none=>false) else true)
 else(bif qO ds (dv ops i) then(wF ops j i || wF ops i j || VO ops (dv ops j) (dv ops i) (nm i))&&(!uy ops i j || dd (dv ops j) i) else true)
def GS(ops:Array Oper)(ds:List Nat):List (Nat × List Nat)->Bool
 | []=>true
 | k::l=>Nat.blt k.1 ops.size&&!zu l k.1&&((dv ops k.1).after.toList.all λe=>!Region.binds .any e || !(Nat.beq k.1 e.on || zu l e.on)) &&
  (qO ds (dv ops k.1) || ((l.all λj=>wF ops j.1 k.1)&&(below ops.size λp=>!qO ds (dv ops p) || zu l p || wF ops k.1 p || k.2.any (Nat.beq p))&&(!(l.any λj=>qO ds (dv ops j.1)) || (Vz (dv ops k.1)&&(Ui (dv ops k.1).op || pn (dv ops k.1).op)))))&&GS ops ds l
def DM(ops:Array Oper)(ds:List Nat)(sch:List (Nat × List Nat)):Bool:=
 (below ops.size λj=>((dv ops j).after.toList.all λe=>!Region.binds .any e || Nat.blt e.on j)&&zu sch j&&(!qO ds (dv ops j) || (match oA (dv ops j).op with|none=>true|some p=>!jJ ops (dv ops j) p.2 || ds.any (Nat.beq p.2)))&&below ops.size λi=>Nat.beq i j || AW ops ds (VR sch) i j)&&Nat.beq sch.length ops.size&&GS ops ds sch
def od(tb:List (Nat × Nat × List Nat))(id:Nat)(ops:Array Oper):Bool:=
 match xA tb id with
 | some (m,ds)=>bif Nat.ble 65536 m then true else bif Nat.ble 256 m then DM ops (ds.take (m - 256)) (dec (ds.drop (m - 256))) else(Nat.ble m ops.size&&below m λj=>match(dv ops j).dst with|some d=>ds.any (Nat.beq d)|none=>true)&&DK ops m
 | none=>false
def lS(P:Program)(TE:Nat->Option TI)(N:fm)(ops:Array Oper)(o:Oper)(K:(Nat->AV)->Prop)(F:Nat->AV):Prop:=
 match Mt F o with
 | some p=>(match o.dst with|some d=>bif jJ ops o p.2 then Vu TE N F d p.1 p.2 K else False|none=>False)
 | none=>gX P TE N ops o K F
def QQ(P:Program)(TE:Nat->Option TI)(N:fm)(ops:Array Oper):Nat->List Oper->((Nat->AV)->Prop)->(Nat->AV)->Prop
 | 0,l,K,F=>Nr P TE N ops l K F
 | _+1,[],K,F=>K F
 | m+1,o::l,K,F=>lS P TE N ops o (QQ P TE N ops m l K) F
def Tz(ds:List Nat)(t:Nat):Bool:=ds.any (Nat.beq t)
def Wl(ds:List Nat):AV->AV
 | .ref t off st=>bif Tz ds t then .dead else .ref t off st
 | .c1 t off st ag=>bif Tz ds t then .dead else .c1 t off st ag
 | .fn f caps=>bif caps.any (Tz ds) then .dead else .fn f caps
 | .H k cs=>.H k cs
 | .iref r off=>.iref r off
 | .fv Ok=>.fv Ok
 | .dead=>.dead
def clr(ds:List Nat)(F:Nat->AV):Nat->AV:=λt=>Wl ds (F t)
theorem EZ(ds:List Nat)(F:Nat->AV)(t:Nat):clr ds F t=bif ds.any (λd=>(F t).uses d) then .dead else F t:=by
 unfold clr;cases F t with
 | dead=>cases ds.any λd=>AV.uses d .dead<;>rfl
 | H k cs=>
  have:ds.any (λd=>(AV.H k cs).uses d)=false:=by
   rw[<-X7,S5]
   rintro⟨d,_,h⟩
   cases h
  rw[this];rfl
 | iref r a=>
  have:ds.any (λd=>(AV.iref r a).uses d)=false:=by
   rw[<-X7,S5]
   rintro⟨d,_,h⟩
   cases h
  rw[this];rfl
 | fv Ok=>
  have:ds.any (λd=>(AV.fv Ok).uses d)=false:=by
   rw[<-X7,S5]
   rintro⟨d,_,h⟩
   cases h
  rw[this];rfl
 | ref i a j=>rfl
 | c1 i a j l=>rfl
 | fn f caps=>
  have:ds.any (λd=>(AV.fn f caps).uses d)=caps.any (Tz ds):=by
   rw[Y6,S5,S5];constructor
   ·rintro⟨d,b,h⟩
    simp only[AV.uses,S5]at h;obtain⟨c,e,g⟩:=h;exact⟨c,e,S5.2 ⟨d,b,g⟩⟩
   rintro⟨c,e,h⟩
   obtain⟨d,b,g⟩:=S5.1 h
   grind [AV.uses]
  rw[this];rfl
inductive Sm(a b:AV)(K:Prop):Prop
 |mk_ (h:a=b/\K)
def Sm.rf{a:AV}{K:Prop}(h:K):Sm a a K:=.mk_ ⟨rfl,h⟩
def CE:type_of% @Sm.rf:=@Sm.rf
def Sm.out{a b:AV}{K:Prop}(h:Sm a b K):a=b/\K:=h.1
def VN(P:Program)(TE:Nat->Option TI)(ops:Array Oper)(p:Nat)(K:Prop)(F:Nat->AV):Prop:=
 match(dv ops p).dst with
 | none=>False
 | some d=>(match Mt F (dv ops p) with
   | some _=>False
   | none=>dh P TE F (dv ops p).op λa=>Sm a (F d) K)
def R0(P:Program)(TE:Nat->Option TI)(ops:Array Oper):List Nat->Prop->(Nat->AV)->Prop
 | [],K,_=>K
 | p::l,K,F=>VN P TE ops p (R0 P TE ops l K F) F
def QH(P:Program)(TE:Nat->Option TI)(N:fm)(ops:Array Oper)(nm:Bool)(o:Oper)(K:(Nat->AV)->Prop)(F:Nat->AV):Prop:=
 match nm with
 | false=>lS P TE N ops o K F
 | true=>(match Mt F o with
   | some _=>False
   | none=>gX P TE N ops o K F)
def MC(P:Program)(TE:Nat->Option TI)(N:fm)(ops:Array Oper)(ds:List Nat)(nm:Nat->Bool):List (Nat × List Nat)->((Nat->AV)->Prop)->(Nat->AV)->Prop
 | [],K,F=>K F
 | k::l,K,F=>bif qO ds (dv ops k.1) then QH P TE N ops (nm k.1) (dv ops k.1) (MC P TE N ops ds nm l K) F else jm P TE N ops (dv ops k.1) (λa=>R0 P TE ops k.2 (MC P TE N ops ds nm l K a) a) F
def RR:List Nat->(List Nat->Prop)->Prop
 | [],K=>K []
 | a::l,K=>RR l λb=>K (a::b)
def Lj:∀(l:List Nat)(K:List Nat->Prop),RR l K=K l
 | [],_=>rfl
 | a::l,K=>by rw[RR,Lj l]
def Fw(l:List Nat)(j:Nat):Bool:=l.any (Nat.beq j)
def Rl(ops:Array Oper)(done:List Nat):List Nat:=(List.range ops.size).filter λj=>!Fw done j&&((dv ops j).after.toList.all λe=>!Region.binds .any e || Fw done e.on)
def Wg(p:Nat->Prop):Nat->List Nat->Prop
 | i,[]=>p i
 | i,j::l=>p i/\Wg p j l
def Wa(l:List Nat)(K:Prop)(p:Nat->Prop):Prop:=match l with
 | []=>K
 | i::l=>Wg p i l
def UF(P:Program)(TE:Nat->Option TI)(N:fm)(ops:Array Oper)(K:(Nat->AV)->Prop):Nat->List Nat->(Nat->AV)->Prop
 | 0,done,F=>Wa (Rl ops done) (K F) λ_=>False
 | n+1,done,F=>Wa (Rl ops done) (K F) λi=>jm P TE N ops (dv ops i) (UF P TE N ops K n (i::done)) F
def DD(P:Program)(TE:Nat->Option TI)(N:fm)(tb:List (Nat × Nat × List Nat))(id:Nat)(ops:Array Oper)(K:(Nat->AV)->Prop)(F:Nat->AV):Prop:=
 match xA tb id with
 | some (m,ds)=>bif Nat.ble 65536 m then UF P TE N ops K ops.size [] F else bif Nat.ble 256 m then RR (ds.take (m - 256)) λa=>MC P TE N ops a (VR (dec (ds.drop (m - 256)))) (dec (ds.drop (m - 256))) K (clr a F) else QQ P TE N ops m ops.toList K (clr ds F)
 | none=>False
variable{i n:Nat}
theorem gU{p:Nat->Bool}(h:below n p=true)(a:i<n):p i=true:=X5.1 h i ψ
theorem cu{o:Oper} : dd o i=true↔∃e,e∈o.after/\Region.binds .any e=true/\e.on=i:=by grind [C3,Nat.beq_refl,dd]
theorem bx{ops:Array Oper}{o:Oper}(h:ops[i]? = some o):dv ops i=o:=by simp[dv,I9,h]
section
variable{P:Program}{w0 w w1:World}{M S0 S:ah}{N:fm}{φ:Nat->ah}{F:Nat->AV}{a:Act}{TE:Nat->Option TI}{ops:Array Oper}
variable{d:Nat}
theorem Dj{b:Bool}(a:F d=.H .one [.v (.bool b)]):HT F d b=F:=by grind [C3,HT]
theorem iO(o:Oper)(t:Nat)(h:t∈dy o.op):t∈o.looksAt ops:=by grind [Go.Oper.looksAt,dy,tm]
structure Wo(P:Program)(TE:Nat->Option TI)(N:fm)(ops:Array Oper)(o:Oper)(F:Nat->AV)(d:Nat)(av:AV):Prop where
 dst:o.dst=some d
 lt:N.free d=true
 self:av.uses d=false
 from_:eI F (o.looksAt ops) av
 at_:∀F':Nat->AV,ir F F' (o.looksAt ops)->∀K':(Nat->AV)->Prop,K' (put F' d av)->gX P TE N ops o K' F'
def ir.refl(F:Nat->AV)(ts:List Nat):ir F F ts:=λ_ _=>⟨rfl,λ_ _ _ _ h=>h⟩
theorem Ca:type_of% @ir.refl:=@ir.refl
variable{K:(Nat->AV)->Prop}{o:Oper}
theorem xj(h:gX P TE N ops o K F):∃d av,Wo P TE N ops o F d av/\K (put F d av):=by
 cases e:o.dst with
 | none=>
  exfalso;unfold gX at h;rw[e]at h;unfold fR at h
  grind [Bf.out]
 | some d=>
  have put1:∀{a:Nat->AV}{av:AV}{c:(Nat->AV)->Prop},N.free d=true->av.uses d=false->c (put a d av)->bP N a d av c:=λA B E=>by grind [bP]
  have put2:∀{a:Nat->AV}{av:AV}{c:(Nat->AV)->Prop},bP N a d av c->N.free d=true/\av.uses d=false/\c (put a d av):=fun {a av c} n=>by grind [bP]
  have pure1:dh P TE F o.op (λav=>bP N F d av K)->∃av,N.free d=true/\av.uses d=false/\K (put F d av)/\eI F (o.looksAt ops) av/\∀a:Nat->AV,ir F a (o.looksAt ops)->∀c:(Nat->AV)->Prop,c (put a d av)->dh P TE a o.op (λav=>bP N a d av c):=λn=>by
   obtain⟨av,A,B,E⟩:=kF n
   grind [eI.mono,iO,ir.mono]
  unfold gX at h;rw[e]at h;unfold fR at h;cases r:o.guard with
  | none=>
   rw[r]at h;obtain⟨av,i,k,l,w,C⟩:=pure1 h;exact⟨d,av,⟨e,i,k,w,λa f c t=>by unfold gX fR;simp_all⟩,l⟩
  | some p=>
   obtain⟨j,want⟩:=p;rw[r]at h;simp only at h;cases y:(ops[j]?).bind (·.dst) with
   | none=>grind
   | some u=>
    rw[y]at h;simp only at h;have q:u∈o.looksAt ops:=by grind [Go.Oper.looksAt]
    split at h
    case h_3=>exact h.elim
    case h_2=>
     rename_i J cs g;obtain⟨i,k,l⟩:=put2 h;refine⟨d,.H (.tup []) [],⟨e,i,k,(λd e=>by cases e),λa f c t=>?_⟩,l⟩;unfold gX fR;rw[r,e];simp only;rw[y];simp only;rw[(f u q).1.trans g];exact put1 i k t
    rename_i b g;have same:∀{a:Nat->AV},ir F a (o.looksAt ops)->a u=.H .one [.v (.bool b)]:=λf=>(f u q).1.trans g
    have back:∀{a:Nat->AV}{c:(Nat->AV)->Prop},ir F a (o.looksAt ops)->(b=want->dh P TE a o.op (λav=>bP N a d av c))->(b = !want->bP N a d (.H (.tup []) []) c)->gX P TE N ops o c a:=fun {a c} f A B=>by
     unfold gX fR;rw[r,e];simp only;rw[y];simp only;rw[same f];simp only;refine Bf.P (λG=>?_) (λG=>?_)
     all_goals grind [Dj]
    have D:=Dj g;replace h:=Bf.out h;by_cases H:b=want
    ·have n:dh P TE F o.op (λav=>bP N F d av K):=ψ
     obtain⟨av,i,k,l,w,C⟩:=pure1 n;exact⟨d,av,⟨e,i,k,w,λa f c t=>back f (λ_=>C a f c t) ψ⟩,l⟩
    have n:bP N F d (.H (.tup []) []) K:=ψ
    obtain⟨i,k,l⟩:=put2 n;exact⟨d,.H (.tup []) [],⟨e,i,k,(λd e=>by cases e),ψ⟩,l⟩
def aft:AV->AV
 | .H k cs=>.H k (splice cs 0 (List.replicate cs.length .x))
 | _=>.H .one [.x]
theorem Po(v:AV)(e:Nat):(aft v).uses e=false:=by unfold aft;split<;>rfl
def eff(a:Option Nat)(d:Nat)(av:AV)(F:Nat->AV):Nat->AV:=λt=>if t=d then av else if a=some t then aft (F t) else F t
theorem EY(av:AV)(a:∀t,(F t).uses d=false):put F d av=eff none d av F:=by grind [pf,iV,BN,eff]
variable{s:Nat}
theorem Vb{v:AV}(h:v.uses s=false):t7 s v=v:=by
 cases v with
 | c1 t a b c=>grind [AV.uses,t7]
 | ref t a b=>simp only[AV.uses]at h;cases b<;>simp[t7,h]
 | _=>rfl
theorem Pk{k:Kd}{cs:List C}(av:AV)(a:F s=.H k cs)(c:∀t,(F t).uses d=false)(e:∀t,(F t).uses s=false):put (updH F s k (splice cs 0 (List.replicate cs.length .x))) d av=eff (some s) d av F:=by
 funext t
 unfold eff;by_cases h:t=d
 ·grind [pf]
 rw[iV _ _ h,CC h];by_cases b:t=s
 ·subst b;rw[iZ,CD rfl,a];rfl
 grind [Nat.beq_eq,Vb,BN,updH]
theorem KC{T:Nat}{k:Kd}{c:C}(o:k=.one\/k=.agg)(p:F s=.H k [c])(q:fx c=true)(h:gq TE N F d T 1 [(0,.tmp s)] K) :
  ∃av,N.free d=true/\(∀e,av.uses e=false)/\K (put (updH F s k [.x]) d av)/\∀(F':Nat->AV)(b:(Nat->AV)->Prop),F' s=.H k [c]->b (put (updH F' s k [.x]) d av)->gq TE N F' d T 1 [(0,.tmp s)] b:=by
 have key:∀F':Nat->AV,F' s=.H k [c]->∀b:(Nat->AV)->Prop,gq TE N F' d T 1 [(0,.tmp s)] b=Js TE T λ_ a=>bif Nat.ble (1*a.size) 16777216 then(bif Nat.beq 1 a.size&&Nat.ble (0*a.size+a.size) (rep a.zero 1).length then bP N (updH F' s k [.x]) d (.H .one [.s .own (chunk a.size 1 (splice (rep a.zero 1) (0*a.size) [c]))]) b else False) else False:=by
  intro F' f b;unfold gq
  congr 1
  funext e a
  rcases o with rfl|rfl<;>simp only[dr,fillW,Wq,wl,nM,f,iN,bp,q,cond_true,cond_false,gV,p8,List.length_singleton,List.replicate]
  all_goals rfl
 rw[key F p]at h;obtain⟨e,a,g,n⟩:=iI h;cases i:Nat.ble (1*a.size) 16777216 with
 | false=>grind
 | true=>
  cases j:(Nat.beq 1 a.size&&Nat.ble (0*a.size+a.size) (rep a.zero 1).length) with
  | false=>grind
  | true=>
   rw[i,j]at g;simp only[cond_true]at g;unfold bP at g;cases l:N.free d with
   | false=>grind
   | true=>
    rw[l]at g;refine⟨_,rfl,λ_=>rfl,g,λF' b f r=>?_⟩
    grind [bP]
variable{T:Option Nat}
theorem U8{k:Kd}{cs:List C}(j:F s=.H k cs)(l:own1 T k cs=true)(h:Vu TE N F d T s K) :
  ∃av,N.free d=true/\(∀e,av.uses e=false)/\K (put (updH F s k (splice cs 0 (List.replicate cs.length .x))) d av)/\∀(F':Nat->AV)(a:(Nat->AV)->Prop),F' s=.H k cs->a (put (updH F' s k (splice cs 0 (List.replicate cs.length .x))) d av)->Vu TE N F' d T s a:=by
 cases T with
 | some T=>
  have f:(k=.one\/k=.agg)/\∃c,cs=[c]/\fx c=true:=by
   unfold own1 at l
   grind
  obtain⟨n,c,rfl,o⟩:=f;exact KC n j o h
 | none=>
  have f:∃b,k=.tup b/\bp cs=false:=by
   unfold own1 at l
   grind
  obtain⟨b,rfl,p⟩:=f;have key:∀F':Nat->AV,F' s=.H (.tup b) cs->∀a,Vu TE N F' d none s a=bP N (updH F' s (.tup b) (splice cs 0 (List.replicate cs.length .x))) d (.H (.tup b) cs) a:=λF' g a=>by grind [Vu,jl]
  rw[key F j]at h;unfold bP at h;cases i:N.free d with
  | false=>grind
  | true=>
   rw[i]at h;refine⟨_,rfl,λ_=>rfl,h,λF' a g q=>?_⟩
   grind [bP]
structure Yl(P:Program)(TE:Nat->Option TI)(N:fm)(ops:Array Oper)(o:Oper)(F:Nat->AV)(mv:Option Nat)(d:Nat)(av:AV):Prop where
 dst:o.dst=some d
 lt:N.free d=true
 self:av.uses d=false
 from_:eI F (o.looksAt ops) av
 mvl:∀s,mv=some s->o.guard=none/\(∃T,oA o.op=some (T,s))/\jJ ops o s=true
 at_:∀F':Nat->AV,ir F F' (o.looksAt ops)->(∀t,(F' t).uses d=false)->(∀s,mv=some s->∀t,(F' t).uses s=false)->∀K':(Nat->AV)->Prop,K' (eff mv d av F')->lS P TE N ops o K' F'
theorem LP{o:Op}(h:oA o=some (T,s)):(∃a ps,T=some a/\o=.buildSlice a 1 ps/\ps.toList=[(0,.tmp s)])\/(T=none/\o=.move (.tmp s)):=by
 unfold oA at h
 grind
theorem cZ(h:oA o.op=some (T,s)):s∈o.looksAt ops:=by
 refine iO o s ?_;unfold dy;refine List.mem_flatMap.2 ⟨.tmp s,?_,by simp[tm]⟩
 grind [LP,Go.Op.operands]
theorem Hh{p:Option Nat × Nat}(h:Mt F o=some p):o.guard=none/\oA o.op=some p/\∃k cs,F p.2=.H k cs/\own1 p.1 k cs=true:=by grind [Mt]
theorem xf{F':Nat->AV}(a:ir F F' (o.looksAt ops)):Mt F' o=Mt F o:=by
 unfold Mt;cases c:o.guard with
 | some _=>rfl
 | none=>
  cases b:oA o.op with
  | none=>rfl
  | some p=>simp only;rw[(a p.2 (cZ b)).1]
theorem sR(c:Mt F o=none)(h:gX P TE N ops o K F)(e:∀d,o.dst=some d->∀t,(F t).uses d=false):∃d av,Yl P TE N ops o F none d av/\K (eff none d av F):=by
 obtain⟨d,av,a,f⟩:=xj h;refine⟨d,av,⟨a.dst,a.lt,a.self,a.from_,ψ,λg i j _ k b=>?_⟩,by grind [EY,Wo.dst]⟩
 grind [xf,Wo.at_,EY,lS]
theorem qq(h:lS P TE N ops o K F)(E:∀d,o.dst=some d->∀t,(F t).uses d=false)(y:∀T s,o.guard=none->oA o.op=some (T,s)->jJ ops o s=true->∀t,(F t).uses s=false) :
  ∃r d av,Yl P TE N ops o F r d av/\K (eff r d av F):=by
 unfold lS at h;cases f:Mt F o with
 | none=>
  grind [sR]
 | some p=>
  rw[f]at h;obtain⟨G,a,k,cs,g,b⟩:=Hh f;simp only at h;cases i:o.dst with
  | none=>grind
  | some d=>
   rw[i]at h;simp only at h;cases c:jJ ops o p.2 with
   | false=>grind
   | true=>
    rw[c]at h;simp only[cond_true]at h;obtain⟨av,A,u,H,B⟩:=U8 g b h;refine⟨some p.2,d,av,⟨i,A,u d,λe w=>(by rw[u e]at w;cases w),λs y=>?_,λC j l n D q=>?_⟩,?_⟩
    ·grind
    ·unfold lS
     rw[xf j,f];simp only;rw[i];simp only;rw[c];refine B C D ((j p.2 (cZ a)).1.trans g) ?_;rw[Pk av ((j p.2 (cZ a)).1.trans g) l (n p.2 rfl)];exact q
    grind [Pk]
theorem NA{nm:Bool}(h:QH P TE N ops nm o K F)(b:∀d,o.dst=some d->∀t,(F t).uses d=false)(c:∀T s,o.guard=none->oA o.op=some (T,s)->jJ ops o s=true->∀t,(F t).uses s=false) :
  ∃a d av,Yl P TE N ops o F a d av/\K (eff a d av F)/\(nm=true->a=none):=by
 unfold QH at h
 grind [qq,sR]
end
section
variable{P:Program}{w0 w w1:World}{M S0 S:ah}{N:fm}{φ:Nat->ah}{F:Nat->AV}{a:Act}{TE:Nat->Option TI}{ops:Array Oper}
def za(P:Program)(TE:Nat->Option TI)(N:fm)(ops:Array Oper)(m i:Nat)(K:(Nat->AV)->Prop)(F:Nat->AV):Prop:=
 match ops[i]? with
 | none=>K F
 | some o=>if i<m then lS P TE N ops o K F else jm P TE N ops o K F
def Ko(P:Program)(TE:Nat->Option TI)(N:fm)(ops:Array Oper)(m:Nat)(K:(Nat->AV)->Prop):Nat->Array Bool->(Nat->AV)->Prop
 | 0,listed,F=>Region.ready .any ops listed=[]/\K F
 | fuel+1,listed,F=>(Region.ready .any ops listed=[]->K F)/\∀i,i∈Region.ready .any ops listed->za P TE N ops m i (Ko P TE N ops m K fuel (listed.setIfInBounds i true)) F
variable{Q:Exit->Act->World->Prop}{Kc:Act->World->Prop}{K:(Nat->AV)->Prop}{o:Oper}
theorem bf.oneP0(h:bf w0 M S0 N S φ F a w)(c:∀t i,TE t=some i->iv P t i)(b:gX P TE N ops o K F)(n:∀F' g w',K F'->St w0 M S0 N F' g w'->Kc g w') :
  if Region.wanted o (yielded ops a.tmps) then o.wp P a w Kc Q else Kc (a.put o.dst undef) w:=by
 unfold gX at b;rcases xD h b with⟨e,b⟩|⟨e,b⟩
 ·rw[e,CD rfl]
  cases f:o.dst with
  | none=>grind
  | some d=>
   rw[f]at b;obtain⟨av,j,k⟩:=h.pure_ c b;refine k Kc Q λv w' p=>?_
   grind [bf.putD_new]
 rw[e,CC (by simp)];cases f:o.dst with
 | none=>grind
 | some d=>
  rw[f]at b;obtain⟨F',j,l⟩:=h.putD_new (v:=undef) (m8.same (av:=.H (.tup []) []) PM) b
  grind
variable{d:Nat}
def Nk{p:Option Nat × Nat}(f:Mt F o=some p)(c:o.dst=some d)(h:Vu TE N F d p.1 p.2 K):jm P TE N ops o K F:=by
 obtain⟨e,a,-⟩:=Hh f;obtain⟨T,s⟩:=p;rcases LP a with⟨i,j,rfl,b,g⟩|⟨rfl,b⟩
 ·unfold jm fR
  rw[e];simp only;rw[b];simp only[Br];rw[c];simp only[kT,g];exact h
 unfold jm fR;rw[e];simp only;rw[b];simp only[Br];rw[c];simp only[kT];exact h
theorem bf.oneP(h:bf w0 M S0 N S φ F a w)(c:∀t i,TE t=some i->iv P t i)(b:lS P TE N ops o K F)(g:∀F' j w',K F'->St w0 M S0 N F' j w'->Kc j w') :
  if Region.wanted o (yielded ops a.tmps) then o.wp P a w Kc Q else Kc (a.put o.dst undef) w:=by
 unfold lS at b;cases e:Mt F o with
 | none=>rw[e]at b;exact h.oneP0 c b g
 | some p=>
  rw[e]at b;simp only at b;cases k:o.dst with
  | none=>grind
  | some d=>
   rw[k]at b;simp only at b;cases f:jJ ops o p.2 with
   | false=>grind
   | true=>
    rw[f]at b;have:=h.one c (Nk (P:=P) (ops:=ops) e k b) (Q:=Q) g
    grind
variable{m i:Nat}
theorem Jn(c:∀t i,TE t=some i->iv P t i)(b:za P TE N ops m i K F)(f:St w0 M S0 N F a w)(d:∀F' e w',K F'->St w0 M S0 N F' e w'->Kc e w'):wpOp P ops Q i Kc a w:=by
 unfold za at b;unfold wpOp;cases g:ops[i]? with
 | none=>grind
 | some o=>
  rw[g]at b;simp only at b |-;obtain⟨S,φ,h⟩:=f;have:if Region.wanted o (yielded ops a.tmps) then o.wp P a w Kc Q else Kc (a.put o.dst undef) w:=by
   split at b
   ·exact h.oneP c b d
   exact h.one c b d
  grind
def BR(b:∀t i,TE t=some i->iv P t i){m:Nat}{K:(Nat->AV)->Prop}{Q:Exit->Act->World->Prop}(f:∀F' d w',K F'->St w0 M S0 N F' d w'->Q .normal d w') :
  ∀(fuel:Nat)(listed:Array Bool)(F:Nat->AV)(a:Act)(w:World),Ko P TE N ops m K fuel listed F->St w0 M S0 N F a w->wpAny P .any ops Q fuel listed a w
 | 0,_,F,a,w,c,e=>⟨c.1,f F a w c.2 e⟩
 | fuel+1,_,F,a,w,c,e=>⟨λh=>f F a w (c.1 h) e,λi j=>Jn b (c.2 i j) e λF' d w' k g=>BR b f fuel _ F' d w' k g⟩
structure BA(ops:Array Oper)(m:Nat)(F:Nat->AV)(listed:Array Bool):Prop where
 dst:∀j o d,j<m->ops[j]? = some o->listed.getD j true=false->o.dst=some d->∀t,(F t).uses d=false
 mv:∀j o T s,j<m->ops[j]? = some o->listed.getD j true=false->o.guard=none->oA o.op=some (T,s)->jJ ops o s=true->∀t,(F t).uses s=false
def DC(ops:Array Oper)(listed:Array Bool):Prop:=∀j a,ops[j]? = some a->listed.getD j false=true->∀k,dd a k=true->listed.getD k false=true
variable{e:Nat}
theorem RG{v:AV}(h:(kl d v).uses e=true):v.uses e=true/\v.uses d=false:=by
 rw[BN]at h;cases a:v.uses d with
 | true=>rw[a]at h;cases h
 | false=>grind
theorem xq{α:Type}{p:α->Bool} : ∀{l:List α}{i j:Nat}{x y:α},(l.filter p).length<=1->l[i]? = some x->l[j]? = some y->p x=true->p y=true->i=j
 | [],_,_,_,_,_,h,_,_,_=>by simp at h
 | a::l,0,0,_,_,_,_,_,_,_=>rfl
 | a::l,i+1,j+1,x,y,h,b,c,d,e=>by
  rw[xq (l:=l) (Z6 (List.Sublist.length_le ((List.sublist_cons_self a l).filter p)) h) b c d e]
 | a::l,0,j+1,x,y,h,b,c,d,e=>by
  simp only[List.getElem?_cons_zero,I1]at b;subst b;rw[List.filter_cons_of_pos d]at h;have:y∈l.filter p:=I6.2 ⟨Z2 c,e⟩;have:=List.length_pos_of_mem this;rw[List.length_cons]at h;omega
 | a::l,i+1,0,x,y,h,b,c,d,e=>by
  simp only[List.getElem?_cons_zero,I1]at c;subst c;rw[List.filter_cons_of_pos e]at h;have:x∈l.filter p:=I6.2 ⟨Z2 b,d⟩;have:=List.length_pos_of_mem this;rw[List.length_cons]at h;omega
variable{j:Nat}{listed:Array Bool}
theorem iS{a:Nat}(b:(listed.setIfInBounds j true).getD a true=false):a≠j:=λe=>by simp_all
variable{av:AV}{t:Nat}
theorem kx{a:Option Nat}(b:av.uses e=false)(c:(F t).uses e=false):(eff a d av F t).uses e=false:=by grind [Po,eff]
theorem BA.put{o:Option Nat}(h:BA ops m F listed)(p:∀a b g,a<m->a≠j->ops[a]? = some b->listed.getD a true=false->b.dst=some g->av.uses g=false)(q:∀a b T s,a<m->a≠j->ops[a]? = some b->listed.getD a true=false->b.guard=none->oA b.op=some (T,s)->jJ ops b s=true->av.uses s=false) :
  BA ops m (eff o d av F) (listed.setIfInBounds j true):=by
 refine⟨λa b g i c e k t=>?_,λa b T s i c e r l n t=>?_⟩
 ·have f:=iS e
  rw[getD_set_ne true (Ne.symm f)]at e;exact kx ψ (h.dst a b g i c e k t)
 have f:=iS e;rw[getD_set_ne true (Ne.symm f)]at e;exact kx ψ (h.mv a b T s i c e r l n t)
inductive oK(ops:Array Oper):Nat->Nat->Prop
 |one {j i:Nat} (h:dd (dv ops j) i=true):oK ops j i
 |step {j k i:Nat} (h:dd (dv ops j) k=true) (h2:oK ops k i):oK ops j i
def oK.trans{k:Nat}(h:oK ops j k)(a:oK ops k i):oK ops j i:=by
 induction h with
 | one h=>exact .step h a
 | step h _ b=>exact .step h (b a)
theorem GP{i:Nat} : ∀{a:List Nat},(FH a).testBit i=true->i∈a
 | [],h=>by simp[FH]at h
 | k::a,h=>by
  rw[FH,Nat.testBit_or,Y8]at h;rcases h with h|h
  ·grind
  exact S7 _ (GP h)
theorem yR(h:(FH (ons o)).testBit i=true):dd o i=true:=by
 have:=GP h
 grind [cu,ons]
def tT{j:Nat} : ∀(k S:Nat),(∀i,S.testBit i=true->oK ops j i)->∀i,(clo ops k S).testBit i=true->oK ops j i
 | 0,_,h,i,a=>h i a
 | k+1,S,h,i,a=>by
  rw[clo,QO]at a;cases c:S.testBit k with
  | false=>rw[c]at a;exact tT k S h i a
  | true=>
   rw[c]at a;refine tT k _ (λe b=>?_) i a;rw[Nat.testBit_or,Y8]at b;rcases b with d|d
   ·exact h e d
   exact(h k c).trans (.one (yR d))
theorem ot(d:DC ops listed)(b:∀j n,ops[j]? = some n->∀e∈n.after,Region.binds .any e=true->e.on<j)(o:oK ops j i):j<ops.size->(∀k,dd (dv ops j) k=true->listed.getD k false=true)->listed.getD i false=true:=by
 induction o with
 | one h=>grind
 | @step j k i h h2 ih=>
  intro f p;have r:k<j:=by
   have c:=(show ops[j]? = some ops[j] from Z8 f)
   rw[bx c]at h;obtain⟨e,g,l,rfl⟩:=cu.1 h;exact b j _ c e g l
  have a:k<ops.size:=ω
  have c:=(show ops[k]? = some ops[k] from Z8 a)
  exact ih a λq a=>d k _ c (p k h) q (by rw[bx c]at a;exact a)
theorem DC.put(h:DC ops listed)(d:j∈Region.ready .any ops listed):DC ops (listed.setIfInBounds j true):=by
 obtain⟨l,n,f,b⟩:=mem_ready.1 d;intro k ok g c e i;by_cases a:k=j
 ·grind [cu,Go.getD_set_true]
 rw[getD_set_ne false (Ne.symm a)]at c;exact getD_set_true (h k ok g c e i)
theorem gt{s:Nat}(h:jJ ops o s=true):(∃k ok,dd o k=true/\ops[k]? = some ok/\ok.dst=some s)/\∀(i j:Nat)(a b:Oper),ops[i]? = some a->ops[j]? = some b->s∈a.looksAt ops->s∈b.looksAt ops->i=j:=by
 unfold jJ at h;rw[I0]at h;obtain⟨q,c⟩:=h;constructor
 ·grind [bx,C3]
 intro i j a b d e f g;have l:=Z1 c;have n:ops.toList[i]? = some a:=by simpa using d
 have p:ops.toList[j]? = some b:=by simpa using e
 grind [Nat.beq_refl,xq]
structure Vh(ops:Array Oper)(m:Nat):Prop where
 back:∀j oj,ops[j]? = some oj->∀e∈oj.after,Region.binds .any e=true->e.on<j
 tail:∀j,m<=j->j<ops.size->∀i,i<j->oK ops j i
 apart:∀i j oi oj,i<m->j<m->i≠j->ops[i]? = some oi->ops[j]? = some oj->dd oj i=true\/dd oi j=true\/oi.apart ops oj=true
 look:∀i j oi oj d,i<m->j<m->i≠j->ops[i]? = some oi->ops[j]? = some oj->oi.dst=some d->d∈oj.looksAt ops->dd oj i=true
theorem Hv(h:DK ops m=true):Vh ops m:=by
 have o:∀j b,ops[j]? = some b->_:=λj b a=>gU h (Z4.1 a).1
 refine⟨λj b a e t p=>?_,λj u a i f=>?_,λi j q b f a g r k=>?_,λi j q b d f a g r k w y=>?_⟩
 ·grind [bx,Nat.blt_eq]
 ·have l:=(show ops[j]? = some ops[j] from Z8 a)
  have:=o j _ l;simp only[I0]at this;have c:=this.2;rw[show Nat.blt j m=false by rw[<-X7,Nat.blt_eq];omega]at c;simp only[cond_false,QO]at c;exact tT j _ (λA n=>.one (yR n)) i (gU c f)
 ·grind [bx,Nat.blt_eq,gU,Nat.beq_eq]
 have:=o j b k;rw[bx k]at this;simp only[I0]at this;have c:=this.2;rw[show Nat.blt j m=true by simpa[Nat.blt_eq] using a]at c
 grind [gU,bx,Nat.beq_eq,uy]
theorem Ng(V:Vh ops m){c:Oper}{u:Option Nat}(R:ops[i]? = some c)(w:i<m) :
  ∀(fuel:Nat)(listed:Array Bool)(F:Nat->AV),i∈Region.ready .any ops listed->BA ops m F listed->DC ops listed->Yl P TE N ops c F u d av->Ko P TE N ops m K fuel (listed.setIfInBounds i true) (eff u d av F)->Ko P TE N ops m K (fuel+1) listed F:=by
 have self:∀(listed:Array Bool)(F:Nat->AV),i∈Region.ready .any ops listed->BA ops m F listed->Yl P TE N ops c F u d av->∀S:(Nat->AV)->Prop,S (eff u d av F)->lS P TE N ops c S F:=λlisted F W a g S hK=>by
  have b:=(mem_ready.1 W).1;refine g.at_ F (Ca _ _) (a.dst i c d w R b g.dst) (λs X=>?_) S hK;obtain⟨A,⟨T,h2⟩,h3⟩:=g.mvl s X;exact a.mv i c T s w R b A h2 h3
 intro fuel
 induction fuel with
 | zero=>
  intro listed F W a E g H;refine⟨ψ,λj Y=>?_⟩;by_cases n:j=i
  ·grind [za]
  have:=ready_mono Y n;rw[H.1]at this;cases this
 | succ fuel ih=>
  intro listed F W a E g H;refine⟨ψ,λj Y=>?_⟩;by_cases n:j=i
  ·grind [za]
  have A:=H.2 j (ready_mono Y n);obtain⟨B,f,o,hall⟩:=mem_ready.1 Y;have b:=(mem_ready.1 W).1;have unl:∀k,listed.getD k true=false->listed.getD k false=true->False:=ψ
  have noedge:∀k ok,ops[k]? = some ok->listed.getD k true=false->dd f k=false:=λk ok hk Z=>by grind [cu]
  have noedge':∀k ok,ops[k]? = some ok->listed.getD k true=false->dd c k=false:=λk ok hk Z=>by grind [cu,Go.mem_ready]
  have G:j<m:=by
   rcases Nat.lt_or_ge j m with h|h
   ·exact h
   have C:=(Z4.1 o).1;refine(unl i b (ot E V.back (V.tail j h C i ω) C λk hk=>?_)).elim
   grind [bx,cu]
  have hap:c.apart ops f=true:=by grind [Vh.apart]
  obtain⟨ap1,ap2,ap3⟩:=Oper.apart_spec hap;unfold za at A |-;rw[o]at A |-;simp only[CD G]at A |-;have hdl:d∉f.looksAt ops:=ap1 d g.dst;have cd:∀t,(F t).uses d=false:=a.dst i c d w R b g.dst
  have cdj':∀l,f.dst=some l->∀t,(F t).uses l=false:=λl J=>a.dst j f l G o B J
  have cmv:∀s,u=some s->(∀t,(F t).uses s=false)/\s∉f.looksAt ops/\s∈c.looksAt ops:=λs X=>by
   obtain⟨L,⟨T,q⟩,r⟩:=g.mvl s X;exact⟨a.mv i c T s w R b L q r,λhl=>n ((gt r).2 i j c f R o (cZ q) hl).symm,cZ q⟩
  have cmvj:∀T s,f.guard=none->oA f.op=some (T,s)->jJ ops f s=true->(∀t,(F t).uses s=false)/\s∉c.looksAt ops/\s∈f.looksAt ops:=λT s L q r=>
   ⟨a.mv j f T s G o B L q r,λhl=>n ((gt r).2 i j c f R o hl (cZ q)).symm,cZ q⟩
  have avno:∀e,e∉c.looksAt ops->(∀t,(F t).uses e=false)->av.uses e=false:=λe A h2=>by
   cases hu:av.uses e with
   | false=>rfl
   | true=>
    rcases g.from_ e hu with h|⟨t,_,h⟩
    all_goals grind
  obtain⟨mvj,l,avj,p,hKj⟩:=qq A (λl J t=>kx ψ (cdj' l J t)) (λT s L q r t=>by grind [kx]);have hdne:d≠l:=λe=>ap2 d g.dst (by rw[p.dst,e])
  have hdjl:l∉c.looksAt ops:=ap3 l p.dst;have cdj:∀t,(F t).uses l=false:=cdj' l p.dst
  have cmj:∀s,mvj=some s->(∀t,(F t).uses s=false)/\s∉c.looksAt ops/\s∈f.looksAt ops:=λs X=>by
   obtain⟨L,⟨T,q⟩,r⟩:=p.mvl s X
   grind
  have lookj:∀t,t∈f.looksAt ops->eff u d av F t=F t:=λt U=>by grind [eff]
  have looki:∀t,t∈c.looksAt ops->eff mvj l avj F t=F t:=λt U=>by grind [eff]
  have avjno:∀e,e∉f.looksAt ops->(∀t,(F t).uses e=false)->avj.uses e=false:=λe A h2=>by
   cases hu:avj.uses e with
   | false=>rfl
   | true=>
    rcases p.from_ e hu with h|⟨t,U,h⟩
    all_goals grind
  have agrj:ir (eff u d av F) F (f.looksAt ops):=λt U=>by grind [eff]
  refine p.at_ F agrj cdj ψ _ (ih (listed.setIfInBounds j true) (eff mvj l avj F) (ready_mono W (Ne.symm n)) (a.put (λj' o' d' M D y O Q=>?_) (λj' o' T s M D y O L q r=>?_)) (E.put Y) ?_ ?_)
  ·refine avjno d' (λh=>?_) (a.dst j' o' d' M y O Q)
   grind [Vh.look]
  ·exact avjno s (λh=>D ((gt r).2 j' j o' f y o (cZ q) h)) (a.mv j' o' T s M y O L q r)
  ·refine⟨g.dst,g.lt,g.self,λe he=>?_,g.mvl,λF' hA Q hs' S hK=>g.at_ F' (λt U=>?_) Q hs' S hK⟩
   ·rcases g.from_ e he with h|⟨t,U,h⟩
    all_goals grind
   obtain⟨a1,a2⟩:=hA t U
   grind [eff]
  rw[Array.setIfInBounds_comm _ _ n];have:eff u d av (eff mvj l avj F)=eff mvj l avj (eff u d av F):=by grind [eff]
  grind
theorem jX{o:Op}{K a:AV->Prop}(h:dh P TE F o K)(b:∀av,K av->a av):dh P TE F o a:=by
 obtain⟨av,c,-,d⟩:=kF h
 grind [Ca]
theorem bt{a:(Nat->AV)->Prop}(h:bP N F d av K)(b:∀F',K F'->a F'):bP N F d av a:=by grind [bP]
variable{y:Operand}
theorem fo{K b:(Nat->AV)->Option Nat->List C->Prop}(h:gV F y K)(g:∀F' ag cs,K F' ag cs->b F' ag cs):gV F y b:=by
 cases y with
 | tmp t=>
  simp only[gV]at h |-;cases d:F t with
  | H k cs=>
   grind
  | c1 e f c ag=>
   rw[d]at h;cases c with
   | cons s c=>
    simp only at h |-;cases a:F e with
    | H k cs=>
     rw[a]at h;obtain⟨r,j,i,l,n,o⟩:=Lq.out h;exact .mk_ ψ
    | _=>grind
   | nil=>
    grind
  | _=>grind
 | _=>exact h.elim
variable{x:Operand}
theorem Dq{K a:AV->Prop}(h:b9 F x K)(b:∀av,K av->a av):b9 F x a:=by
 obtain⟨av,c,-,d⟩:=kJ h
 grind [Ca]
theorem Gn{a:(Nat->AV)->Prop}(h:lD N F d x K)(i:∀F',K F'->a F'):lD N F d x a:=by
 have e:∀y,b9 F y (λb=>bP N F d b K)->b9 F y (λb=>bP N F d b a):=λy h=>Dq h λb h=>bt h i
 have j:∀y,gV F y (λF' c cs=>bP N F' d (.H (m7 c) cs) K)->gV F y (λF' c cs=>bP N F' d (.H (m7 c) cs) a):=λy h=>fo h λF' c cs h=>bt h i
 cases x with
 | tmp t=>
  grind [lD]
 | const v=>exact e (.const v) h
 | global g=>exact e (.global g) h
 | func f=>exact e (.func f) h
theorem Ra{a:(Nat->AV)->Prop}(h:ED N F d x K)(b:∀F',K F'->a F'):ED N F d x a:=by grind [bt,Gn,ED,Mq]
variable{b:(Nat->AV)->Prop}
theorem BE{cs:List C}(h:rj F x cs K)(d:∀F',K F'->b F'):rj F x cs b:=by
 cases x with
 | tmp t=>
  simp only[rj]at h |-;cases e:F t with
  | H k f=>
   grind [dr]
  | ref g i c=>
   rw[e]at h;cases c with
   | cons s c=>
    simp only at h |-;cases a:F g with
    | H k f=>
     rw[a]at h;obtain⟨r,j,l,n,o,p⟩:=Pu.out h;exact Pu.mk l n o rfl (d _ p)
    | _=>grind
   | nil=>
    grind [dr]
  | _=>grind
 | _=>exact h.elim
variable{T:Nat}
theorem xv{a:(Nat->AV)->Prop}(h:na TE F T x y K)(b:∀F',K F'->a F'):na TE F T x y a:=by
 unfold na at h |-;split at h
 all_goals grind [cB,Ca,BE,fo]
theorem Ji{g:Option (Nat × Bool)}{K1 a K1' K0':(Nat->AV)->Prop}(h:fR F ops g K1 a)(h1:∀F,K1 F->K1' F)(b:∀F,a F->K0' F):fR F ops g K1' K0':=by
 unfold fR at h |-;split at h
 ·exact h1 _ h
 rename_i j want;split at h
 all_goals grind [Bf.out,Bf.in_]
theorem um{K a:(Nat->AV)->Option Nat->List C->Prop}(h:wl F x K)(c:∀F' ag cs,K F' ag cs->a F' ag cs):wl F x a:=by
 obtain⟨ag,cs,d,b⟩:=cB h;refine b F (Ca _ _) _ ?_
 grind [fo]
theorem jR{c:Nat->Option (Nat × Nat)} : ∀{parts:List (Nat × Operand)}{cs:List C}{K a:(Nat->AV)->List C->Prop}{F:Nat->AV},fillW c parts cs K F->(∀F' cs,K F' cs->a F' cs)->fillW c parts cs a F
 | [],cs,K,a,F,h,b=>b _ _ h
 | p::rest,cs,K,a,F,h,b=>by
  simp only[fillW]at h |-;split at h
  case h_2=>exact h.elim
  rename_i q e;refine um h λF' f xs h=>?_
  cases d:(Nat.beq xs.length q.2&&Nat.ble (q.1+q.2) cs.length) with
  | false=>grind
  | true=>
   rw[d]at h;simp only[cond_true,dr]at h |-;exact jR h b
variable{parts:List (Nat × Operand)}
theorem GX{a:(Nat->AV)->Prop}(h:l9 TE N F d T parts K)(b:∀F',K F'->a F'):l9 TE N F d T parts a:=by grind [jR,bt,l9]
theorem Fy{n:Nat}{a:(Nat->AV)->Prop}(h:gq TE N F d T n parts K)(c:∀F',K F'->a F'):gq TE N F d T n parts a:=by
 obtain⟨e,f,h,b⟩:=iI h;refine b _ ?_
 grind [bt,dr,jR,p8]
theorem Hm{K a:Bool->(Nat->AV)->List (List C)->Prop}(h:Ez F y K)(c:∀b F' xr,K b F' xr->a b F' xr):Ez F y a:=by
 unfold Ez at h |-;split at h
 all_goals grind [fo,cB,Ca]
theorem BH{K a:(Nat->AV)->List (List C)->Prop}(h:Bw F x K)(c:∀F' xr,K F' xr->a F' xr):Bw F x a:=by
 obtain⟨d,cs,e,b⟩:=cB h;refine b F (Ca _ _) _ ?_
 grind [fo]
theorem Mz{a:(Nat->AV)->Prop}(h:BP TE N F d T x y K)(f:∀F',K F'->a F'):BP TE N F d T x y a:=by
 obtain⟨e,p,h,g⟩:=iI h;refine g _ (Hm h λb F' q h=>BH h λF'' c h=>?_);obtain⟨i,j,k,l,n,o⟩:=h.out;exact CU i j k l n rfl (bt o f)
theorem HI{a:(Nat->AV)->Prop}(h:ql TE N F d T x K)(b:∀F',K F'->a F'):ql TE N F d T x a:=by
 unfold ql at h |-;split at h
 all_goals grind [fo,bt]
theorem Jv(h:jl N F d x K)(c:∀F',K F'->b F'):jl N F d x b:=by
 have std:∀{y:Operand},b9 F y (λa=>bP N F d a K)->b9 F y (λa=>bP N F d a b):=λh=>Dq h λa h=>bt h c
 cases x with
 | tmp t=>
  simp only[jl]at h |-
  grind [bt]
 | const v=>grind [jl]
 | global g=>grind [jl]
 | func f=>grind [jl]
theorem JE{a:(Nat->AV)->Prop}(h:uO N F d x K)(b:∀F',K F'->a F'):uO N F d x a:=by
 unfold uO at h |-;split at h
 case h_2=>exact h.elim
 split at h
 all_goals grind [Nt.out,Nt.mk,bt]
theorem Gs{a:(Nat->AV)->Prop}(h:qE N F d x K)(b:∀F',K F'->a F'):qE N F d x a:=by
 unfold qE at h |-
 grind [bt]
variable{c:(Nat->AV)->Prop}
theorem Rt{b:Operand}(h:Ge TE N F d T x b K)(f:∀F',K F'->c F'):Ge TE N F d T x b c:=by
 unfold Ge at h |-;obtain⟨e,q,h,a⟩:=iI h;refine a _ ?_;obtain⟨n,g,i⟩:=og h;refine i F (Ca _ _) _ (fo g λF' r cs h=>?_);split at h
 case h_2=>exact h.elim
 obtain⟨m,y,j,k,l,o,p,h⟩:=h.out;exact .mk_ ⟨m,y,j,k,l,o,p,_,rfl,bt h f⟩
theorem Gd{b:Op}{e:(Nat->AV)->Prop}(h:kT P TE N d b K F)(a:∀F',K F'->e F'):kT P TE N d b e F:=by
 cases b with
 | assign x=>exact Ra h a
 | box T x=>grind [um,bt,kT,Qy]
 | build T g=>exact GX h a
 | buildSlice T n g=>exact Fy h a
 | range T x=>exact HI h a
 | move x=>exact Jv h a
 | next x str=>
  cases str with
  | true=>exact h.elim
  | false=>exact JE h a
 | entry x=>exact Gs h a
 | call c=>
  grind [jX,bt,Mz,kT]
 | slice T x i f j=>
  cases i with
  | some _=>grind [jX,bt,kT]
  | none=>
   cases f with
   | none=>grind [jX,bt,kT]
   | some f=>
    cases j with
    | some _=>grind [jX,bt,kT]
    | none=>
     grind [jX,bt,Rt,kT]
 | _=>grind [jX,bt,kT]
theorem fy{off n:Nat}{st:cG}{K a:(Nat->AV)->List C->Prop}(h:lendAt F t off st n K)(b:∀F' cs,K F' cs->a F' cs):lendAt F t off st n a:=by
 unfold lendAt at h |-;split at h
 case h_2=>exact h.elim
 split at h
 ·grind [dr]
 obtain⟨r,j,c,d,e,f⟩:=Lq.out h;refine .mk_ ?_
 grind
theorem cx:∀{xs:List (Operand × Nat)}{K a:(Nat->AV)->List (MA × rS)->Prop}{F:Nat->AV},lendP xs K F->(∀F' l,K F' l->a F' l)->lendP xs a F
 | [],K,a,F,h,b=>b _ _ h
 | (x,0)::xs,K,a,F,h,b=>cx (xs:=xs) h ψ
 | (x,1)::xs,K,a,F,h,b=>by
  simp only[lendP]at h |-;split at h
  case h_2=>exact h.elim
  split at h
  ·exact fy h λF' cs h=>cx h ψ
  ·exact fy h λF' cs h=>cx h ψ
  ·exact fy h λF' cs h=>cx h ψ
  exact h.elim
 | (x,n+2)::xs,K,a,F,h,b=>by
  simp only[lendP]at h |-;split at h
  case h_2=>exact h.elim
  split at h
  ·split at h
   ·exact cx h ψ
   exact h.elim
  ·exact cx h ψ
  exact h.elim
theorem jV:∀{l:List (MA × rS)}{xs:List Operand}{K a:Bool->List MA->Prop},valsP F l xs K->(∀b A,K b A->a b A)->valsP F l xs a
 | [],[],K,a,h,c=>c _ _ h
 | (m,.no)::l,x::xs,K,a,h,c=>by
  obtain⟨f,cs,d,e⟩:=cB h;refine e F (Ca _ _) _ (jV d λb A h=>?_)
  grind
 | (m,.at_ t off st)::l,x::xs,K,a,h,c=>jV (l:=l) (xs:=xs) h ψ
 | (m,.box t)::l,x::xs,K,a,h,c=>jV (l:=l) (xs:=xs) h ψ
 | [],_::_,K,a,h,c=>h.elim
 | (m,.no)::l,[],K,a,h,c=>h.elim
 | (m,.at_ t off st)::l,[],K,a,h,c=>h.elim
 | (m,.box t)::l,[],K,a,h,c=>h.elim
theorem dx{K b:(Nat->AV)->Prop}(a:∀F',K F'->b F'):∀{l:List (MA × rS)}{B:List MA}{F:Nat->AV},io l B K F->io l B b F
 | [],[],F,h=>a _ h
 | [],_::_,F,h=>h.elim
 | (m,.no)::l,[],F,h=>h.elim
 | (m,.at_ t off st)::l,[],F,h=>h.elim
 | (m,.box t)::l,[],F,h=>h.elim
 | (m,.no)::l,.val _ _::B,F,h=>dx a (l:=l) (B:=B) h
 | (m,.no)::l,.mut _ _::B,F,h=>dx a (l:=l) (B:=B) h
 | (m,.no)::l,.ptr _::B,F,h=>dx a (l:=l) (B:=B) h
 | (m,.at_ t off st)::l,.val _ _::B,F,h=>h.elim
 | (m,.at_ t off st)::l,.ptr _::B,F,h=>h.elim
 | (m,.box t)::l,.val _ _::B,F,h=>h.elim
 | (m,.box t)::l,.mut _ _::B,F,h=>h.elim
 | (m,.at_ t off st)::l,.mut ag out::B,F,h=>by
  simp only[io]at h |-;split at h
  case h_2=>exact h.elim
  split at h
  ·rename_i k c _ _
   cases d:Nat.ble (off+out.length) c.length with
   | false=>grind
   | true=>
    rw[d]at h;simp only[cond_true,dr]at h |-;exact dx a h
  obtain⟨r,j,e,f,g,i⟩:=Pu.out h;exact Pu.mk e f g rfl (dx a i)
 | (m,.box t)::l,.ptr out::B,F,h=>by
  simp only[io]at h |-;split at h
  ·exact dx a h
  exact h.elim
variable{modes:List Nat}{args:List Operand}{f:Nat}
theorem KE{d:Option Nat}{a:(Nat->AV)->Prop}(h:mt P N F d f args modes K)(j:∀F',K F'->a F'):mt P N F d f args modes a:=by
 unfold mt at h |-;refine cx h λF' l h=>?_
 cases c:(wq l&&Nat.beq args.length modes.length) with
 | false=>grind
 | true=>
  rw[c]at h;refine jV h λb A h=>?_
  obtain⟨n,B,k,rcs,e,g,i⟩:=du.out h;refine CK e g (dx (λF'' h=>?_) i)
  grind [bt]
theorem lM{F:Nat->AV}{K a:Nat->Nat->Prop}(h:AU F x K)(b:∀t o,K t o->a t o):AU F x a:=by grind [sP,AU]
theorem M8{d:Option Nat}{cs:List C}{c a b:Nat}{f:(Nat->AV)->Prop}{k:Kd}{rcs:List C}{B:List MA}(h:zO N F d t cs c a e b K k rcs B)(l:∀F',K F'->f F'):zO N F d t cs c a e b f k rcs B:=by
 unfold zO at h |-;split at h
 case h_2=>exact h.elim
 rename_i g i;cases j:(Nat.beq g.length a&&Nat.beq i.length b) with
 | false=>grind
 | true=>
  rw[j]at h;simp only[cond_true,dr]at h |-
  grind [bt]
theorem Kk{d:Option Nat}{a b:Nat}(h:kV P N F d f args a b K)(e:∀F',K F'->c F'):kV P N F d f args a b c:=by
 unfold kV at h |-;split at h
 case h_2=>exact h.elim
 refine lM h λt g h=>lM h λi j h=>?_
 split at h
 all_goals grind [dr,du.out,CK,M8]
theorem sq{d:Option Nat}{a:(Nat->AV)->Prop}(h:kZ P N F d f args modes K)(b:∀F',K F'->a F'):kZ P N F d f args modes a:=by grind [Kk,KE,kZ]
theorem GA{off:Nat}{z:Int}{v:Value}{a:(Nat->AV)->Prop}(h:putMap F t off z v K)(f:∀F',K F'->a F'):putMap F t off z v a:=by
 unfold putMap at h |-;cases b:F t with
 | H k d=>
  rw[b]at h;simp only at h |-;cases e:d[off]? with
  | none=>grind
  | some c=>
   rw[e]at h;cases c with
   | m g=>
    simp only at h |-;have:=h.out;refine Mu.mk rfl ?_
    grind [dr]
   | _=>exact h.elim
 | _=>grind
theorem wm{v:Operand}(h:nS TE F T x y v K)(f:∀F',K F'->b F'):nS TE F T x y v b:=by
 unfold nS at h |-;split at h
 case h_2=>exact h.elim
 obtain⟨z,c,d⟩:=jr h;refine d F (Ca F _) _ ?_;obtain⟨g,a,e⟩:=jr c;refine e F (Ca F _) _ ?_;split at a
 case h_2=>exact a.elim
 split at a
 all_goals grind [GA]
theorem kE{a:(Nat->AV)->Prop}(h:jm P TE N ops o K F)(c:∀F',K F'->a F'):jm P TE N ops o a F:=by
 unfold jm at h |-;refine Ji h (λF h=>?_) (λF h=>?_)
 ·split at h
  ·rename_i p _
   have lt:uf P N F o.dst p.1 p.2.1 p.2.2 K->uf P N F o.dst p.1 p.2.1 p.2.2 a:=λh=>sq h λF' h=>by grind [om]
   cases b:NU N o.op with
   | false=>grind
   | true=>
    rw[b]at h;rcases h with h|h
    ·refine .pl ?_
     grind [xv,wm,Gd,lr]
    exact .lt (lt h)
  grind [xv,wm,Gd]
 grind [bt]
theorem Fa{m:Nat}(a:Vh ops m){K:(Nat->AV)->Prop}(hm:m<=ops.size):∀(l:List Oper)(k:Nat)(listed:Array Bool)(F:Nat->AV),(∀j,l[j]? = ops[k+j]?)->listed.size=ops.size->(∀j,j<ops.size->listed.getD j true=decide (j<k))->BA ops m F listed->DC ops listed->
  QQ P TE N ops (m - k) l K F->Ko P TE N ops m K l.length listed F
 | [],k,listed,F,C,L,b,_,_,i=>by
  have D:ops.size<=k:=by
   rcases Nat.lt_or_ge k ops.size with h|h
   ·have:=C 0;simp[h]at this
   exact h
  refine⟨?_,?_⟩
  ·apply List.eq_nil_iff_forall_not_mem.2
   grind [Go.mem_ready]
  cases M:m - k with
  | zero=>rw[M]at i;exact i
  | succ x=>omega
 | o::l,k,listed,F,C,L,b,c,n,i=>by
  have w:ops[k]? = some o:=by simpa using (C 0).symm
  have D:=(Z4.1 w).1;have hready:k∈Region.ready .any ops listed:=mem_ready.2 ⟨by rw[b k D];simp,o,w,λe he hb=>by grind [Vh.back]⟩;have A:∀j,l[j]? = ops[k+1+j]?:=λj=>by have:=C (j+1);grind
  have r:∀j,j<ops.size->(listed.setIfInBounds k true).getD j true=decide (j<k+1):=λj O=>by
   by_cases y:j=k
   ·simp_all
   rw[getD_set_ne true (Ne.symm y),b j O]
   grind
  show Ko P TE N ops m K (l.length+1) listed F;by_cases f:k<m
  ·have e1:m - k=(m - (k+1))+1:=ω
   rw[e1]at i;obtain⟨mv,d,av,Q,i⟩:=qq (show lS P TE N ops o (QQ P TE N ops (m - (k+1)) l K) F from i) (λd hd=>c.dst k o d f w (by rw[b k D];simp) hd) (λT s R S U=>c.mv k o T s f w (by rw[b k D];simp) R S U);refine Ng a w f l.length listed F hready c n Q (Fa a hm l (k+1) _ _ A (by simpa using L) r (c.put (λE G H p u q hl'' B=>?_) (λE G T s p u q hl'' R S U=>?_)) (n.put hready) i)
   ·cases V:av.uses H with
    | false=>rfl
    | true=>
     rcases Q.from_ H V with h|⟨t,_,h⟩
     ·have:=a.look E k G o H p f u q w B h
      grind [cu,Vh.back]
     rw[c.dst E G H p q hl'' B t]at h;cases h
   cases V:av.uses s with
   | false=>rfl
   | true=>
    rcases Q.from_ s V with h|⟨t,_,h⟩
    ·grind [gt,cZ]
    rw[c.mv E G T s p q hl'' R S U t]at h;cases h
  refine⟨ψ,λj O=>?_⟩;have y:j=k:=by
   obtain⟨h1,oj,W,hall⟩:=mem_ready.1 O;have g:=(Z4.1 W).1;rw[b j g]at h1;simp at h1;rcases Nat.lt_or_ge k j with X|hge
   ·exfalso
    have h2:=ot n a.back (a.tail j ω g k X) g λk' hk'=>by grind [bx,cu]
    grind
   omega
  subst y;unfold za;rw[w];simp only[CC f];have e0:m - j=0:=ω
  rw[e0]at i;have hp':jm P TE N ops o (Nr P TE N ops l K) F:=i;have Y:∀J,Nr P TE N ops l K J->Ko P TE N ops m K l.length (listed.setIfInBounds j true) J:=λJ Z=>
   Fa a hm l (j+1) _ J A (by simpa using L) r ⟨ψ,ψ⟩ (n.put hready) (by rw[show m - (j+1)=0 by omega];cases l<;>exact Z)
  grind [kE]
theorem St.clr(h:St w0 M S0 N F a w)(ds:List Nat):St w0 M S0 N (Ab.clr ds F) a w:=by
 obtain⟨S,φ,h⟩:=h;refine⟨S,φ,λt=>?_,h.dis,h.disS,h.ex,h.sub,h.sup,h.old,h.size,h.defers,h.par⟩;rw[EZ];cases b:ds.any (λd=>(F t).uses d) with
 | true=>trivial
 | false=>
  simp only[cond_false];refine(h.slot t).keep (φ:=φ) (λt _ _ _=>h.slot t) (λc _=>⟨λk cs e=>?_,rfl,λ_ _ _=>⟨rfl,rfl⟩⟩) (λ_ _ _=>⟨rfl,rfl⟩) (λ_ _ _=>⟨rfl,rfl⟩) (λ_ _ h=>h) (λ_ _ h=>h)
  grind [EZ,AV.uses]
theorem Ft(g:∀t i,TE t=some i->iv P t i)(D:P.follows .mixedOrders=true){id:Nat}{ds:List Nat}(b:((Nat.ble m ops.size&&below m λj=>match(dv ops j).dst with|some d=>ds.any (Nat.beq d)|none=>true)&&DK ops m)=true)(E:QQ P TE N ops m ops.toList K (Ab.clr ds F))(G:St w0 M S0 N F a w)(H:∀F' u w',K F'->St w0 M S0 N F' u w'->Q .normal u w'):(Code.region id ops true).wp P Q a w:=by
 simp only[I0]at b;obtain⟨⟨y,J⟩,b⟩:=b;have c:m<=ops.size:=by simp_all
 refine wp_region_any D ?_;have l:St w0 M S0 N (Ab.clr ds F) a {w with drawn:=w.drawn+1}:=by
  have L:=G.clr ds;obtain⟨S,φ,h⟩:=L;exact⟨S,φ,h.more (w1:={w with drawn:=w.drawn+1}) (λ_ _ h=>h) ψ ⟨rfl,rfl,rfl,O4 _,λ_ _ _=>rfl,λ_ _ _ _=>rfl,λ_ _ _ _=>rfl⟩⟩
 refine BR g (m:=m) H ops.size (Array.replicate ops.size false) _ a _ ?_ l;have O:∀d,ds.any (Nat.beq d)=true->∀t,(Ab.clr ds F t).uses d=false:=λd R t=>by
  rw[EZ];cases Y:ds.any (λd=>(F t).uses d) with
  | true=>rfl
  | false=>
   simp_all
 have A:∀j o d,j<m->ops[j]? = some o->o.dst=some d->ds.any (Nat.beq d)=true:=λj o d f B R=>by grind [gU,bx]
 have C:=Hv b;have:=Fa (P:=P) (TE:=TE) (N:=N) C (K:=K) c ops.toList 0 (Array.replicate ops.size false) (Ab.clr ds F) (by simp) (by simp) (λj f=>by simp[f]) ⟨ψ,λj o T s f B _ _ _ U t=>by
   obtain⟨k,ok,n,V,W⟩:=(gt U).1;obtain⟨e,p,q,rfl⟩:=cu.1 n;have:=C.back j o B e p q
   grind⟩ (λj Z f X=>by
   have r:=(Z4.1 f).1;simp[r]at X) E
 simpa using this
end
section
variable{P:Program}{w0 w w1:World}{M S0 S:ah}{N:fm}{φ:Nat->ah}{F:Nat->AV}{a:Act}{TE:Nat->Option TI}{ops:Array Oper}{ds:List Nat}{nm:Nat->Bool}
def Vm(P:Program)(TE:Nat->Option TI)(ops:Array Oper)(p:Nat)(F:Nat->AV):Prop:=∃d,(dv ops p).dst=some d/\Mt F (dv ops p)=none/\dh P TE F (dv ops p).op λa=>a=F d
def vT(P:Program)(TE:Nat->Option TI)(N:fm)(ops:Array Oper)(ds:List Nat)(listed:Array Bool)(i:Nat)(K:(Nat->AV)->Prop)(F:Nat->AV):Prop:=
 match ops[i]? with
 | none=>K F
 | some o=>if qO ds o=true then lS P TE N ops o K F else jm P TE N ops o (λa=>(∀p,listed.getD p false=true->qO ds (dv ops p)=true->wF ops i p=false->Vm P TE ops p a)/\K a) F
def Hy(P:Program)(TE:Nat->Option TI)(N:fm)(ops:Array Oper)(ds:List Nat)(K:(Nat->AV)->Prop):Nat->Array Bool->(Nat->AV)->Prop
 | 0,listed,F=>Region.ready .any ops listed=[]/\K F
 | fuel+1,listed,F=>(Region.ready .any ops listed=[]->K F)/\∀i,i∈Region.ready .any ops listed->vT P TE N ops ds listed i (Hy P TE N ops ds K fuel (listed.setIfInBounds i true)) F
variable{Q:Exit->Act->World->Prop}{K:(Nat->AV)->Prop}{i:Nat}{listed:Array Bool}
theorem G8(c:∀t i,TE t=some i->iv P t i)(b:vT P TE N ops ds listed i K F)(f:St w0 M S0 N F a w){Kc:Act->World->Prop}(d:∀F' e w',K F'->St w0 M S0 N F' e w'->Kc e w'):wpOp P ops Q i Kc a w:=by
 unfold vT at b;unfold wpOp;cases g:ops[i]? with
 | none=>grind
 | some o=>
  rw[g]at b;simp only at b |-;obtain⟨S,φ,h⟩:=f;have:if Region.wanted o (yielded ops a.tmps) then o.wp P a w Kc Q else Kc (a.put o.dst undef) w:=by
   split at b
   ·exact h.oneP c b d
   exact h.one c (kE b λF' h=>h.2) d
  grind
def sg(b:∀t i,TE t=some i->iv P t i){K:(Nat->AV)->Prop}{Q:Exit->Act->World->Prop}(f:∀F' d w',K F'->St w0 M S0 N F' d w'->Q .normal d w') :
  ∀(fuel:Nat)(listed:Array Bool)(F:Nat->AV)(a:Act)(w:World),Hy P TE N ops ds K fuel listed F->St w0 M S0 N F a w->wpAny P .any ops Q fuel listed a w
 | 0,_,F,a,w,c,e=>⟨c.1,f F a w c.2 e⟩
 | fuel+1,_,F,a,w,c,e=>⟨λh=>f F a w (c.1 h) e,λi j=>G8 b (c.2 i j) e λF' d w' k g=>sg b f fuel _ F' d w' k g⟩
def bV(ts:List Nat)(F F1:Nat->AV):Prop:=∀t e,(F1 t).uses e=true->e∈ts\/∃a,(F a).uses e=true
theorem bV.refl(ts:List Nat)(F:Nat->AV):bV ts F F:=λt _ h=>.inr ⟨t,h⟩
variable{F1:Nat->AV}{ts:List Nat}
theorem bV.trans{F a:Nat->AV}(h1:bV ts F F1)(b:bV ts F1 a):bV ts F a:=λt e h=>by
 rcases b t e h with h|⟨c,h⟩
 ·exact .inl h
 exact h1 c e h
variable{d:Nat}
theorem bV.clean(h:bV ts F F1)(b:d∉ts)(c:∀t,(F t).uses d=false):∀t,(F1 t).uses d=false:=λt=>by
 cases a:(F1 t).uses d with
 | false=>rfl
 | true=>
  rcases h t d a with h|⟨e,h⟩
  all_goals grind
theorem bV.put{ts:List Nat}{dj:Nat}{av:AV}(h:∀e,av.uses e=true->e∈ts\/∃b,(F b).uses e=true):bV ts F (put F dj av):=λt e a=>by
 by_cases c:t=dj
 ·grind [pf]
 rw[iV _ _ c]at a;exact .inr ⟨t,(RG a).1⟩
variable{v:AV}{t e:Nat}
theorem NP(h:(t7 t v).uses e=true):v.uses e=true:=by
 cases v with
 | c1 a b d f=>simp only[t7]at h;cases c:Nat.beq a t<;>rw[c]at h<;>first|exact h|cases h
 | ref a b d=>cases d<;>simp only[t7]at h<;>first|exact h|(cases c:Nat.beq a t<;>rw[c]at h<;>first|exact h|cases h)
 | _=>exact h
theorem bV.updH{ts:List Nat}{t:Nat}{k:Kd}{cs:List C} : bV ts F (updH F t k cs):=λs e a=>by
 unfold Ab.updH at a;cases b:Nat.beq s t with
 | true=>rw[b]at a;cases a
 | false=>grind [NP]
theorem P8(h:(RF t v).uses e=true):v.uses e=true:=by
 cases v with
 | c1 a b d f=>simp only[RF]at h;cases c:Nat.beq a t<;>rw[c]at h<;>first|exact h|cases h
 | ref a b d=>simp only[RF]at h;cases c:Nat.beq a t<;>rw[c]at h<;>first|exact h|cases h
 | _=>exact h
theorem bV.kill{ts:List Nat}{t:Nat} : bV ts F (kill F t):=λs e a=>by
 unfold Ab.kill at a;cases b:Nat.beq s t with
 | true=>rw[b]at a;cases a
 | false=>grind [P8]
variable{av:AV}
theorem cj(h:t≠d):eff none d av F t=F t:=by grind [eff]
theorem mP{a:Option Nat} : eff a d av F d=av:=by grind [eff]
theorem Q9 : eff none d (F d) F=F:=by grind [mP,cj]
theorem mO(a:d∉ts)(b:∀t,(F t).uses d=false):ir (eff none d av F) F ts:=λt c=>by grind [cj]
variable{dj:Nat}
theorem UB(a:dj≠d):put (eff none d v F) dj av=eff none d (kl dj v) (put F dj av):=by grind [pf,cj,iV,mP]
variable{b:Kd}
theorem nO{a:List C}(c:t≠d):updH (eff none d v F) t b a=eff none d (t7 t v) (updH F t b a):=by grind [mP,Nat.beq_eq,cj,updH]
theorem xx{a:List C}(c:t≠d):updH F t b a d=t7 t (F d):=by grind [Nat.beq_eq,updH]
theorem Lf{a:List C}(c:t≠d):updN (eff none d v F) t b a=eff none d (R8 t v) (updN F t b a):=by grind [mP,Nat.beq_eq,cj,updN]
theorem Gy{a:List C}(c:t≠d):updN F t b a d=R8 t (F d):=by grind [Nat.beq_eq,updN]
theorem Rg(h:(R8 t v).uses e=true):v.uses e=true:=by
 cases v with
 | c1 b c a f=>
  cases a with
  | nil=>exact h
  | cons s a=>simp only[R8]at h;cases d:Nat.beq b t<;>rw[d]at h<;>first|exact h|cases h
 | ref b c a=>
  cases a with
  | nil=>exact h
  | cons s a=>simp only[R8]at h;cases d:Nat.beq b t<;>rw[d]at h<;>first|exact h|cases h
 | _=>exact h
theorem bV.updN{ts:List Nat}{t:Nat}{k:Kd}{cs:List C} : bV ts F (updN F t k cs):=λs e a=>by
 unfold Ab.updN at a;cases b:Nat.beq s t with
 | true=>rw[b]at a;cases a
 | false=>grind [Rg]
def Fq(d:Nat)(ts:List Nat)(v:AV)(F:Nat->AV)(K:(Nat->AV)->Prop)(F1:Nat->AV):Prop:=∃a,(v=F d->a=F1 d)/\K (eff none d a F1)/\bV ts F F1
def VQ(d:Nat)(ts:List Nat)(v:AV)(F:Nat->AV)(K:(Nat->AV)->Option Nat->List C->Prop)(F1:Nat->AV)(ag:Option Nat)(cs:List C):Prop:=∃a,(v=F d->a=F1 d)/\K (eff none d a F1) ag cs/\bV ts F F1
def Fq.trans{v1:AV}{a:Nat->AV}(h1:v=F d->v1=F1 d)(b:bV ts F F1)(h:Fq d ts v1 F1 K a):Fq d ts v F K a:=by
 obtain⟨c,f,g,i⟩:=h;exact⟨c,λe=>f (h1 e),g,b.trans i⟩
theorem ij(h:bP N (eff none d v F) dj av K)(a:dj≠d)(b:∀e,av.uses e=true->e∈ts\/∃c,(F c).uses e=true):bP N F dj av (Fq d ts v F K):=by
 unfold bP at h |-;cases f:(N.free dj&&!av.uses dj) with
 | false=>grind
 | true=>
  rw[f]at h;simp only[cond_true]at h |-;rw[UB a]at h;exact⟨kl dj v,λe=>by grind [iV],h,bV.put b⟩
variable{cs:List C}{k:Kd}
def jC : ∀e,(AV.H k cs).uses e=true->e∈ts\/∃a,(F a).uses e=true:=λe h=>by cases h
theorem EG{p:(Nat->AV)->(AV->Prop)->Prop}{ts0:List Nat}(h:oV p (eff none d v F) ts0 λav=>bP N (eff none d v F) dj av K)(a:dj≠d)(j:∀t,t∈ts0->t∈ts)(k:d∉ts)(b:∀t,(F t).uses d=false) :
  p F λav=>bP N F dj av (Fq d ts v F K):=by
 obtain⟨av,c,f,g⟩:=h;refine g F (mO ψ b) _ (ij c a λe i=>?_);rcases f e i with h|⟨t,l,h⟩
 all_goals grind [cj]
variable{y:Operand}
theorem qJ{K:(Nat->AV)->Option Nat->List C->Prop}(h:gV (eff none d v F) y K)(l:d∉tm y)(n:∀t,(F t).uses d=false):gV F y (VQ d ts v F K):=by
 have fin:∀{t:Nat}{k:Kd}{cs:List C}{a:Option Nat}{xs:List C},t≠d->K (updH (eff none d v F) t k cs) a xs->VQ d ts v F K (updH F t k cs) a xs:=fun {t k cs a xs} b h=>by
  rw[nO b]at h;exact⟨_,λe=>by rw[xx b,e],h,bV.updH⟩
 have zZ:∀{t:Nat}{k:Kd}{cs:List C}{a:Option Nat}{xs:List C},t≠d->K (updN (eff none d v F) t k cs) a xs->VQ d ts v F K (updN F t k cs) a xs:=fun {t k cs a xs} b h=>by
  rw[Lf b]at h;exact⟨_,λe=>by rw[Gy b,e],h,bV.updN⟩
 cases y with
 | tmp t=>
  have b:t≠d:=λe=>l (by simp[tm,e])
  simp only[gV]at h |-;rw[cj b]at h;cases f:F t with
  | H o p=>
   grind
  | c1 g q i a=>
   rw[f]at h;have u:g≠d:=λe=>by have:=n t;rw[f,e]at this;simp[AV.uses]at this
   cases i with
   | cons s i=>
    simp only at h |-;rw[cj u]at h;cases c:F g with
    | H o p=>
     rw[c]at h;obtain⟨r,j,w,A,B,D⟩:=Lq.out h;exact .mk_ ψ
    | _=>grind
   | nil=>
    grind [cj]
  | _=>grind
 | _=>exact h.elim
theorem TY{K:(Nat->AV)->Option Nat->List C->Prop}(h:wl (eff none d v F) y K)(b:d∉tm y)(c:∀t,(F t).uses d=false):wl F y (VQ d ts v F K):=by
 obtain⟨i,xs,a,f⟩:=cB h;refine f F (mO b c) _ ?_;cases g:bp xs with
 | true=>rw[g]at a;exact⟨v,λe=>e,a,bV.refl _ _⟩
 | false=>grind [qJ]
def W6(d:Nat)(ts:List Nat)(v:AV)(F:Nat->AV)(K:(Nat->AV)->List C->Prop)(F1:Nat->AV)(cs:List C):Prop:=∃a,(v=F d->a=F1 d)/\K (eff none d a F1) cs/\bV ts F F1
theorem y1{d:Nat}{ts:List Nat}{c:Nat->Option (Nat × Nat)}(a:d∉ts):∀{parts:List (Nat × Operand)}{cs:List C}{K:(Nat->AV)->List C->Prop}{F:Nat->AV}{v:AV},fillW c parts cs K (eff none d v F)->(∀p,p∈parts->d∉tm p.2)->(∀t,(F t).uses d=false)->
  fillW c parts cs (W6 d ts v F K) F
 | [],cs,K,F,v,h,_,b=>⟨v,λe=>e,h,bV.refl _ _⟩
 | p::rest,cs,K,F,v,h,r,b=>by
  simp only[fillW]at h |-;split at h
  case h_2=>exact h.elim
  rename_i q u;refine um (TY (ts:=ts) h ψ b) λw y xs h=>?_
  obtain⟨A,g,h,f⟩:=h;cases i:(Nat.beq xs.length q.2&&Nat.ble (q.1+q.2) cs.length) with
  | false=>grind
  | true=>
   rw[i]at h;simp only[cond_true,dr]at h |-;refine jR (y1 a h ψ (f.clean a b)) λB cs2 j=>?_
   obtain⟨k,l,n,o⟩:=j;exact⟨k,λe=>l (g e),n,f.trans o⟩
variable{parts:List (Nat × Operand)}{T:Nat}
theorem M2(h:l9 TE N (eff none d v F) dj T parts K)(a:dj≠d)(b:d∉ts)(c:∀p,p∈parts->d∉tm p.2)(e:∀t,(F t).uses d=false) :
  l9 TE N F dj T parts (Fq d ts v F K):=by
 unfold l9 at h |-;split at h
 case h_2=>exact h.elim
 rename_i size bytes zero flds k;cases f:Ex TE flds with
 | false=>grind
 | true=>
  rw[f]at h;refine jR (y1 b h c e) λl cs h=>?_
  obtain⟨n,g,h,i⟩:=h;exact bt (ij (ts:=ts) h a jC) λo j=>Fq.trans g i j
variable{n:Nat}
theorem Kq(h:gq TE N (eff none d v F) dj T n parts K)(a:dj≠d)(c:d∉ts)(f:∀p,p∈parts->d∉tm p.2)(g:∀t,(F t).uses d=false) :
  gq TE N F dj T n parts (Fq d ts v F K):=by
 unfold gq at h |-;obtain⟨e,i,h,b⟩:=iI h;refine b _ ?_;cases j:Nat.ble (n*i.size) 16777216 with
 | false=>grind
 | true=>
  rw[j]at h;simp only[cond_true]at h |-;cases n with
  | zero=>
   cases parts with
   | nil=>exact ij h a jC
   | cons=>exact h.elim
  | succ n=>
   simp only[dr]at h |-;refine jR (y1 c h f g) λq cs h=>?_
   obtain⟨r,k,h,l⟩:=h;rw[p8]at h |-;exact bt (ij (ts:=ts) h a jC) λu o=>Fq.trans k l o
theorem P3(h:jl N (eff none d v F) dj (.tmp t) K)(a:dj≠d)(c:d∉ts)(l:t∈ts)(g:∀t,(F t).uses d=false):jl N F dj (.tmp t) (Fq d ts v F K):=by
 have b:t≠d:=ψ
 have std:b9 (eff none d v F) (.tmp t) (λf=>bP N (eff none d v F) dj f K)->b9 F (.tmp t) (λf=>bP N F dj f (Fq d ts v F K)):=λh=>
  EG (p:=λF K=>b9 F (.tmp t) K) (kJ h) a (λn o=>by grind [tm]) c g
 simp only[jl]at h |-;rw[cj b]at h;split at h
 ·rename_i i xs q
  cases j:bp xs with
  | true=>grind [ij]
  | false=>
   rw[j]at h;simp only[cond_false]at h |-;rw[nO b]at h;exact bt (ij (ts:=ts) h a jC) λr k=>Fq.trans (F1:=updH F t (.tup i) _) (λe=>by grind [xx]) bV.updH k
 all_goals exact std h
variable{x:Operand}
theorem U1{b:Operand}(h:Ge TE N (eff none d v F) dj T x b K)(c:dj≠d)(f:d∉tm x)(g:d∉tm b)(j:∀t,(F t).uses d=false):Ge TE N F dj T x b (Fq d ts v F K):=by
 unfold Ge at h |-;obtain⟨e,A,h,a⟩:=iI h;refine a _ ?_;obtain⟨n,k,i⟩:=og h;refine i F (mO g j) _ ?_;refine fo (qJ (ts:=ts) k f j) λB C cs h=>?_
 obtain⟨D,l,h,o⟩:=h;split at h
 case h_2=>exact h.elim
 obtain⟨m,y,p,q,r,u,w,h⟩:=h.out;exact .mk_ ⟨m,y,p,q,r,u,w,_,rfl,bt (ij (ts:=ts) h c jC) λE i=>Fq.trans l o i⟩
theorem MG(h:lD N (eff none d v F) dj x K)(a:dj≠d)(i:d∉ts)(j:∀t,t∈tm x->t∈ts)(n:∀t,(F t).uses d=false):lD N F dj x (Fq d ts v F K):=by
 have k:∀y,(∀t,t∈tm y->t∈ts)->b9 (eff none d v F) y (λl=>bP N (eff none d v F) dj l K)->b9 F y (λl=>bP N F dj l (Fq d ts v F K)):=λy o h=>EG (p:=λF K=>b9 F y K) (kJ h) a o i n
 have w:∀y,(∀t,t∈tm y->t∈ts)->gV (eff none d v F) y (λb e cs=>bP N b dj (.H (m7 e) cs) K)->gV F y (λb e cs=>bP N b dj (.H (m7 e) cs) (Fq d ts v F K)):=λy o h=>
  fo (qJ (ts:=ts) h ψ n) λb e cs h=>by
   obtain⟨A,q,h,r⟩:=h;exact bt (ij (ts:=ts) h a jC) λB u=>Fq.trans q r u
 cases x with
 | tmp t=>
  grind [cj,tm,lD]
 | const c=>exact k (.const c) j h
 | global g=>exact k (.global g) j h
 | func f=>exact k (.func f) j h
theorem D8(a:t≠d):kill (eff none d v F) t=eff none d (RF t v) (kill F t):=by grind [mP,my,cj,qu]
theorem UA(h:ED N (eff none d v F) dj x K)(a:dj≠d)(c:d∉ts)(j:∀t,t∈tm x->t∈ts)(l:∀t,(F t).uses d=false):ED N F dj x (Fq d ts v F K):=by
 have f:HD N (eff none d v F) dj x=HD N F dj x:=by
  cases x with
  | tmp t=>
   grind [cj,tm,HD]
  | _=>rfl
 unfold ED at h |-;cases b:Pt N dj x with
 | true=>
  rw[b]at h;simp only[cond_true]at h |-;exact ij (ts:=ts) h a jC
 | false=>
 rw[b]at h;simp only[cond_false]at h |-;unfold Mq at h |-;rw[f]at h;cases i:HD N F dj x with
 | none=>grind [MG]
 | some p=>
  rw[i]at h;simp only at h |-;obtain⟨rfl,n⟩:=Dp i;have g:p.1≠d:=λe=>c (e ▸ j p.1 (by simp[tm]))
  rw[D8 g]at h;exact bt (ij (ts:=ts) h a jC) λo k=>Fq.trans (F1:=kill F p.1) (λe=>by grind [my]) bV.kill k
theorem KW(h:rj (eff none d v F) x cs K)(l:d∉tm x)(n:∀t,(F t).uses d=false):rj F x cs (Fq d ts v F K):=by
 have fin:∀{t:Nat}{k:Kd}{cs:List C},t≠d->K (updH (eff none d v F) t k cs)->Fq d ts v F K (updH F t k cs):=fun {t k cs} a h=>by
  rw[nO a]at h;exact⟨_,λe=>by rw[xx a,e],h,bV.updH⟩
 have zZ:∀{t:Nat}{k:Kd}{cs:List C},t≠d->K (updN (eff none d v F) t k cs)->Fq d ts v F K (updN F t k cs):=fun {t k cs} a h=>by
  rw[Lf a]at h;exact⟨_,λe=>by rw[Gy a,e],h,bV.updN⟩
 have finP:∀{t:Nat}{k:Kd}{cs:List C},t≠d->K (RI (eff none d v F) t k cs)->Fq d ts v F K (RI F t k cs):=fun {t k cs} a h=>by
  cases k with
  | box=>exact fin a h
  | _=>exact zZ a h
 cases x with
 | tmp t=>
  have a:t≠d:=λe=>l (by simp[tm,e])
  simp only[rj]at h |-;rw[cj a]at h;cases c:F t with
  | H k o=>
   grind [dr]
  | ref f p g=>
   rw[c]at h;have i:f≠d:=λe=>by have:=n t;rw[c,e]at this;simp[AV.uses]at this
   cases g with
   | cons s g=>
    simp only at h |-;rw[cj i]at h;cases b:F f with
    | H k o=>
     rw[b]at h;obtain⟨r,j,q,u,w,y⟩:=Pu.out h;exact Pu.mk q u w rfl (finP i y)
    | _=>grind
   | nil=>
    grind [cj,dr]
  | _=>grind
 | _=>exact h.elim
theorem Pb(h:na TE (eff none d v F) T x y K)(b:d∉ts)(l:d∉tm x)(j:d∉tm y)(c:∀t,(F t).uses d=false):na TE F T x y (Fq d ts v F K):=by
 unfold na at h |-;split at h
 ·rename_i i q
  obtain⟨r,cs,a,e⟩:=cB h;refine e F (mO j c) _ ?_;cases n:Nat.beq cs.length i.size with
  | false=>grind
  | true=>
   rw[n]at a;simp only[cond_true]at a |-;cases o:bp cs with
   | true=>grind [KW]
   | false=>
    rw[o]at a;simp only[cond_false]at a |-;refine fo (qJ (ts:=ts) a j c) λu p f h=>?_
    obtain⟨w,a,h,k⟩:=h;cases g:Nat.beq f.length i.size with
    | false=>grind
    | true=>rw[g]at h;exact BE (KW (ts:=ts) h l (k.clean b c)) λA e=>Fq.trans a k e
 exact h.elim
def U2(a:d∉tm y):nM (eff none d v F) y=nM F y:=by
 cases y with
 | tmp t=>exact cj λe=>a (by simp[tm,e])
 | _=>rfl
theorem Vn{K:Bool->(Nat->AV)->List (List C)->Prop}(h:Ez (eff none d v F) y K)(b:d∉tm y)(c:∀t,(F t).uses d=false):Ez F y λe F1 rows=>∃v1,(v=F d->v1=F1 d)/\K e (eff none d v1 F1) rows/\bV ts F F1:=by
 have a:=U2 (F:=F) (v:=v) b;unfold Ez at h |-;rw[a]at h;split at h
 ·refine fo (qJ (ts:=ts) h b c) λF1 f cs h=>?_
  obtain⟨v1,g,h,i⟩:=h
  grind
 grind [cB,mO,bV.refl]
theorem TX{K:(Nat->AV)->List (List C)->Prop}(h:Bw (eff none d v F) y K)(b:d∉tm y)(c:∀t,(F t).uses d=false):Bw F y λF1 rows=>∃v1,(v=F d->v1=F1 d)/\K (eff none d v1 F1) rows/\bV ts F F1:=by
 obtain⟨e,xs,a,f⟩:=cB h;refine f F (mO b c) _ ?_;split at a
 ·grind [bV.refl]
 ·refine fo (qJ (ts:=ts) a b c) λF1 e cs h=>?_
  obtain⟨v1,a,h,g⟩:=h
  grind
 exact a.elim
theorem T9(h:BP TE N (eff none d v F) dj T x y K)(b:dj≠d)(c:d∉ts)(j:d∉tm x)(k:d∉tm y)(f:∀t,(F t).uses d=false):BP TE N F dj T x y (Fq d ts v F K):=by
 obtain⟨e,B,h,a⟩:=iI h;refine a _ (Hm (Vn (ts:=ts) h k f) λC D E h=>?_);obtain⟨G,l,h,g⟩:=h;refine BH (TX (ts:=ts) h j (g.clean c f)) λH i h=>?_
 obtain⟨J,n,h,o⟩:=h;obtain⟨p,q,r,u,w,h⟩:=Ap.out h;refine CU p q r u w rfl (bt (ij (ts:=ts) h b jC) λL A=>?_);exact Fq.trans l g (Fq.trans n o A)
theorem QY{f:Oper}(B:f.guard=none)(g:Ui f.op=true)(k:f.dst≠some d)(u:d∉f.looksAt ops)(w:∀t,(F t).uses d=false)(h:jm P TE N ops f K (eff none d v F)) :
  jm P TE N ops f (Fq d (f.looksAt ops) v F K) F:=by
 unfold jm fR at h |-;rw[B]at h |-;simp only at h |-;have j:∀t,t∈dy f.op->t∈f.looksAt ops:=λt l=>iO f t l
 have pur:∀b,b≠d->dh P TE (eff none d v F) f.op (λq=>bP N (eff none d v F) b q K)->dh P TE F f.op λq=>bP N F b q (Fq d (f.looksAt ops) v F K):=λb k h=>
  EG (p:=λF K=>dh P TE F f.op K) (kF h) k j u w
 have dne:∀b,f.dst=some b->b≠d:=ψ
 have tmI:∀x,x∈f.op.operands.toList->∀t,t∈tm x->t∈f.looksAt ops:=λx C t l=>j t (List.mem_flatMap.2 ⟨x,C,l⟩)
 cases e:f.op with
 | store T x y=>
  rw[e]at h tmI;simp only[Br]at h |-;cases a:f.dst with
  | some b=>rw[a]at h;simp only[kT]at h;exact h.elim
  | none=>
   grind [Pb,Go.Op.operands]
 | move x=>
  rw[e]at h tmI;cases a:f.dst with
  | none=>rw[a]at h;exact h.elim
  | some b=>
   rw[a]at h;cases x with
   | tmp t=>
    simp only[Br,kT]at h |-;exact P3 h (dne b a) u (tmI (.tmp t) (by simp[Op.operands]) t (by simp[tm])) w
   | _=>rw[e]at g;cases g
 | assign x=>
  rw[e]at h tmI
  grind [UA,Br,kT,Go.Op.operands]
 | build T D=>
  rw[e]at h tmI
  grind [M2,Br,kT,Go.Op.operands]
 | buildSlice T n D=>
  rw[e]at h tmI
  grind [Kq,Br,kT,Go.Op.operands]
 | extract x i=>rw[e]at h pur;cases a:f.dst with|none=>rw[a]at h;exact h.elim|some b=>rw[a]at h;exact pur b (dne b a) h
 | load T x=>rw[e]at h pur;cases a:f.dst with|none=>rw[a]at h;exact h.elim|some b=>rw[a]at h;exact pur b (dne b a) h
 | fieldAddr T x i=>rw[e]at h pur;cases a:f.dst with|none=>rw[a]at h;exact h.elim|some b=>rw[a]at h;exact pur b (dne b a) h
 | field T x i=>rw[e]at h pur;cases a:f.dst with|none=>rw[a]at h;exact h.elim|some b=>rw[a]at h;exact pur b (dne b a) h
 | binOp o T x y L=>rw[e]at h pur;cases a:f.dst with|none=>rw[a]at h;exact h.elim|some b=>rw[a]at h;exact pur b (dne b a) h
 | unOp o T x=>rw[e]at h pur;cases a:f.dst with|none=>rw[a]at h;exact h.elim|some b=>rw[a]at h;exact pur b (dne b a) h
 | call c=>
  rw[e]at g h tmI;cases E:rh c with
  | none=>grind [Ui]
  | some p=>
   have r:=zd E;subst r;cases a:f.dst with
   | none=>rw[a]at h;exact h.elim
   | some b=>
    grind [T9,Br,kT,Go.Op.operands,Go.Call.operands]
 | slice T x G A H=>
  rw[e]at g h tmI pur;cases G with
  | some _=>cases g
  | none=>
   cases A with
   | none=>cases g
   | some A=>
    cases H with
    | some _=>cases g
    | none=>
     cases a:f.dst with
     | none=>rw[a]at h;exact h.elim
     | some b=>
      rw[a]at h;simp only[Br,kT]at h |-;cases J:Wj N b with
      | false=>simp_all
      | true=>
       grind [U1,Go.Op.operands]
 | _=>rw[e]at g;cases g
theorem UY{a:Oper}(c:a.guard=none)(f:Ui a.op=true)(b:a.dst≠some d)(g:d∉a.looksAt ops)(i:∀t,(F t).uses d=false)(h:jm P TE N ops a K F) :
  jm P TE N ops a (λF1=>K F1/\bV (a.looksAt ops) F F1) F:=by
 refine kE (QY (d:=d) (v:=F d) c f b g i (by rw[Q9];exact h)) λF1 j=>?_
 obtain⟨k,e,l,u⟩:=j
 grind [Q9]
theorem bV.setH{ts:List Nat}{t:Nat}{k:Kd}{cs:List C} : bV ts F (setH F t (.H k cs)):=λs e a=>by
 unfold Ab.setH at a;cases b:Nat.beq s t with
 | true=>rw[b]at a;cases a
 | false=>grind
variable{rcs:List C}
theorem LJ(h:bP N F d (.H k rcs) K):bP N F d (.H k rcs) λF1=>K F1/\bV ts F F1:=by
 unfold bP at h |-;cases a:(N.free d&&!(AV.H k rcs).uses d) with
 | false=>grind
 | true=>rw[a]at h;exact⟨h,bV.put λe b=>by cases b⟩
theorem uL{off:Nat}{st:cG}{K:(Nat->AV)->List C->Prop}(h:lendAt F t off st n K):lendAt F t off st n λF1 cs=>K F1 cs/\bV ts F F1:=by
 unfold lendAt at h |-;split at h
 all_goals grind [dr,bV.updH]
def lX{ts:List Nat} : ∀{xs:List (Operand × Nat)}{K:(Nat->AV)->List (MA × rS)->Prop}{F:Nat->AV},lendP xs K F->lendP xs (λF1 l=>K F1 l/\bV ts F F1) F
 | [],K,F,h=>⟨h,bV.refl _ _⟩
 | (x,0)::xs,K,F,h=>lX (xs:=xs) h
 | (x,1)::xs,K,F,h=>by
  simp only[lendP]at h |-;split at h
  case h_2=>exact h.elim
  split at h
  ·exact fy (uL (ts:=ts) h) λF1 cs h=>cx (lX (ts:=ts) h.1) λb l a=>⟨a.1,h.2.trans a.2⟩
  ·exact fy (uL (ts:=ts) h) λF1 cs h=>cx (lX (ts:=ts) h.1) λb l a=>⟨a.1,h.2.trans a.2⟩
  ·exact fy (uL (ts:=ts) h) λF1 cs h=>cx (lX (ts:=ts) h.1) λb l a=>⟨a.1,h.2.trans a.2⟩
  exact h.elim
 | (x,n+2)::xs,K,F,h=>by
  simp only[lendP]at h |-;split at h
  case h_2=>exact h.elim
  split at h
  ·split at h
   ·exact cx (lX (ts:=ts) h) λb l a=>⟨a.1,bV.kill.trans a.2⟩
   exact h.elim
  ·exact cx (lX (ts:=ts) h) λb l a=>⟨a.1,bV.kill.trans a.2⟩
  exact h.elim
theorem mw{ts:List Nat}{K:(Nat->AV)->Prop} : ∀{l:List (MA × rS)}{B:List MA}{F:Nat->AV},io l B K F->io l B (λF1=>K F1/\bV ts F F1) F
 | [],[],F,h=>⟨h,bV.refl _ _⟩
 | [],_::_,F,h=>h.elim
 | (m,.no)::l,[],F,h=>h.elim
 | (m,.at_ t off st)::l,[],F,h=>h.elim
 | (m,.box t)::l,[],F,h=>h.elim
 | (m,.no)::l,.val _ _::B,F,h=>mw (l:=l) (B:=B) h
 | (m,.no)::l,.mut _ _::B,F,h=>mw (l:=l) (B:=B) h
 | (m,.no)::l,.ptr _::B,F,h=>mw (l:=l) (B:=B) h
 | (m,.at_ t off st)::l,.val _ _::B,F,h=>h.elim
 | (m,.at_ t off st)::l,.ptr _::B,F,h=>h.elim
 | (m,.box t)::l,.val _ _::B,F,h=>h.elim
 | (m,.box t)::l,.mut _ _::B,F,h=>h.elim
 | (m,.at_ t off st)::l,.mut ag out::B,F,h=>by
  simp only[io]at h |-;split at h
  case h_2=>exact h.elim
  split at h
  ·rename_i k c _ _
   cases d:Nat.ble (off+out.length) c.length with
   | false=>grind
   | true=>
    rw[d]at h;simp only[cond_true,dr]at h |-;exact dx (λb a=>⟨a.1,bV.updH.trans a.2⟩) (mw (ts:=ts) h)
  obtain⟨r,j,e,f,g,i⟩:=Pu.out h;exact Pu.mk e f g rfl (dx (λb a=>⟨a.1,bV.updH.trans a.2⟩) (mw (ts:=ts) i))
 | (m,.box t)::l,.ptr out::B,F,h=>by
  simp only[io]at h |-;split at h
  ·exact dx (λb a=>⟨a.1,bV.setH.trans a.2⟩) (mw (ts:=ts) h)
  exact h.elim
variable{modes:List Nat}{args:List Operand}{f:Nat}
theorem Rc{d:Option Nat}(h:mt P N F d f args modes K):mt P N F d f args modes λF1=>K F1/\bV ts F F1:=by
 unfold mt at h |-;refine cx (lX (ts:=ts) h) λn l h=>?_
 obtain⟨h,c⟩:=h;cases e:(wq l&&Nat.beq args.length modes.length) with
 | false=>grind
 | true=>
  rw[e]at h;refine jV h λb A h=>?_
  obtain⟨o,B,k,rcs,g,a,i⟩:=du.out h;refine CK g a (dx (λF'' h=>?_) (mw (ts:=ts) i));obtain⟨h,j⟩:=h;cases d with
  | none=>grind [bV.trans]
  | some d=>exact bt (LJ (ts:=ts) h) λp a=>⟨a.1,(c.trans j).trans a.2⟩
theorem Ti{d:Option Nat}{c a b:Nat}{B:List MA}(h:zO N F d t cs c a e b K k rcs B):zO N F d t cs c a e b (λF1=>K F1/\bV ts F F1) k rcs B:=by
 unfold zO at h |-;split at h
 case h_2=>exact h.elim
 rename_i g i;cases j:(Nat.beq g.length a&&Nat.beq i.length b) with
 | false=>grind
 | true=>
  rw[j]at h;simp only[cond_true,dr]at h |-;cases d with
  | none=>exact⟨h,bV.kill.trans bV.setH⟩
  | some d=>exact bt (LJ (ts:=ts) h) λl f=>⟨f.1,(bV.kill.trans bV.setH).trans f.2⟩
theorem Q1{d:Option Nat}{a b:Nat}(h:kV P N F d f args a b K):kV P N F d f args a b λF1=>K F1/\bV ts F F1:=by
 unfold kV at h |-;split at h
 case h_2=>exact h.elim
 refine lM h λt e h=>lM h λg c h=>?_
 split at h
 case h_2=>exact h.elim
 rename_i cs o;cases i:(Nat.beq g t&&Nat.ble (e+a) c&&Nat.ble (c+b) cs.length) with
 | false=>grind
 | true=>
  rw[i]at h;simp only[cond_true,dr]at h |-;obtain⟨p,B,k,rcs,j,l,n⟩:=du.out h;exact CK j l (Ti n)
def Rf{d:Option Nat}(h:kZ P N F d f args modes K):kZ P N F d f args modes λF1=>K F1/\bV ts F F1:=by
 unfold kZ at h |-;split
 ·rename_i p a;rw[a]at h;exact Q1 h
 rename_i a;rw[a]at h;exact Rc h
variable{s:Nat}
theorem U9{dj:Option Nat}{a:Nat->AV}(u:bV ts F a):bV ts F (rv1 F dj s a):=by
 unfold rv1;split
 case h_2=>exact u
 rename_i t c f;cases g:(dne dj s&&dne dj t) with
 | false=>exact u
 | true=>
  simp only[cond_true];split
  case h_2=>exact u
  split
  case h_2=>exact u
  intro q e b;by_cases d:q=s
  ·grind [qz]
  rw[fE _ _ d]at b;exact u q e b
theorem Jt{ts:List Nat}{dj:Option Nat} : ∀{l:List Nat}{a:Nat->AV},bV ts F a->bV ts F (rvE F dj l a)
 | [],_,u=>u
 | _::l,_,u=>Jt (l:=l) (U9 u)
theorem RM{a:Oper}(k:a.guard=none)(i:pn a.op=true)(h:jm P TE N ops a K F):jm P TE N ops a (λF1=>K F1/\bV (a.looksAt ops) F F1) F:=by
 have pur:∀d,a.dst=some d->dh P TE F a.op (λg=>bP N F d g K)->dh P TE F a.op λg=>bP N F d g λF1=>K F1/\bV (a.looksAt ops) F F1:=λd l h=>by
  have n:gX P TE N ops a K F:=by grind [gX,fR]
  obtain⟨y,g,j,o⟩:=xj n;have b:=j.dst;rw[l]at b;simp only[I1]at b;subst b;have A:=j.at_ F (Ca _ _) (λF1=>K F1/\bV (a.looksAt ops) F F1) ⟨o,bV.put λe q=>(j.from_ e q).imp id ψ⟩
  grind [gX,fR]
 unfold jm fR at h |-;rw[k]at h |-;simp only at h |-;cases f:a.op with
 | call c=>
  rw[f]at h i;have r:rh c=none:=by grind [pn,rh]
  have pl:lr P TE N a K F->lr P TE N a (λF1=>K F1/\bV (a.looksAt ops) F F1) F:=λh=>by grind [lr,kT]
  cases t:Br N F (.call c) with
  | some p=>
   rw[t]at h;simp only at h |-;have lt:uf P N F a.dst p.1 p.2.1 p.2.2 K->uf P N F a.dst p.1 p.2.1 p.2.2 λF1=>K F1/\bV (a.looksAt ops) F F1:=λh=>sq (Rf (ts:=a.looksAt ops) h) λF1 ⟨h,u⟩=>by grind [om,Jt]
   cases w:NU N (.call c) with
   | false=>grind
   | true=>
    rw[w]at h;rcases h with h|h
    ·exact .pl (pl h)
    exact .lt (lt h)
  | none=>
   grind [lr]
 | _=>rw[f]at i;cases i
theorem T3{a:Oper}(c:a.guard=none)(e:(Ui a.op || pn a.op)=true)(b:a.dst≠some d)(f:d∉a.looksAt ops)(g:∀t,(F t).uses d=false)(h:jm P TE N ops a K F) :
  jm P TE N ops a (λF1=>K F1/\bV (a.looksAt ops) F F1) F:=by grind [UY,RM]
def Gq(d:Nat)(ts:List Nat)(F:Nat->AV)(K:(Nat->AV)->Prop)(F1:Nat->AV):Prop:=∃a,K (eff none d a F1)/\bV ts F F1
def Gq.trans{a:Nat->AV}(b:bV ts F F1)(h:Gq d ts F1 K a):Gq d ts F K a:=by
 obtain⟨c,e,f⟩:=h;exact⟨c,e,b.trans f⟩
theorem D0(a:t≠d):setH (eff none d v F) t av=eff none d v (setH F t av):=by grind [mP,fE,cj,setH]
theorem uZ{off:Nat}{st:cG}{K:(Nat->AV)->List C->Prop}(h:lendAt (eff none d v F) t off st n K)(a:t≠d):lendAt F t off st n λF1 cs=>∃v1,K (eff none d v1 F1) cs/\bV ts F F1:=by
 unfold lendAt at h |-;rw[cj a]at h;split at h
 case h_2=>exact h.elim
 split at h
 ·grind [dr,nO,bV.updH]
 obtain⟨r,j,b,c,e,f⟩:=Lq.out h;refine .mk_ ?_
 grind [nO,bV.updH]
theorem nC{ts:List Nat}{d:Nat}(a:d∉ts):∀{xs:List (Operand × Nat)}{K:(Nat->AV)->List (MA × rS)->Prop}{F:Nat->AV}{v:AV},lendP xs K (eff none d v F)->(∀x,x∈xs->d∉tm x.1)->(∀t,(F t).uses d=false)->
  lendP xs (λF1 l=>(∃v1,K (eff none d v1 F1) l/\bV ts F F1)/\∀q,q∈l->d∉q.2.slot) F
 | [],K,F,v,h,_,_=>⟨⟨v,h,bV.refl _ _⟩,ψ⟩
 | (x,0)::xs,K,F,v,h,u,c=>by
  simp only[lendP]at h |-;refine cx (nC a h ψ c) λF1 l h=>⟨h.1,λq b=>?_⟩
  rcases List.mem_cons.1 b with rfl|b
  ·exact λr=>by cases r
  exact h.2 q b
 | (x,1)::xs,K,F,v,h,u,c=>by
  simp only[lendP]at h |-;split at h
  case h_2=>exact h.elim
  rename_i s;have j:s≠d:=λe=>u _ X2 (by simp[tm,e])
  rw[cj j]at h;have w:∀{t:Nat}{F1:Nat->AV}{l:List (MA × rS)}{m:MA}{f:Nat}{y:cG}{K2:(Nat->AV)->List (MA × rS)->Prop},t≠d->((∃v1,K2 (eff none d v1 F1) ((m,.at_ t f y)::l)/\bV ts F F1)/\∀q,q∈l->d∉q.2.slot)->(∃v1,K2 (eff none d v1 F1) ((m,.at_ t f y)::l)/\bV ts F F1)/\∀q,q∈(m,rS.at_ t f y)::l->d∉q.2.slot:=λg h=>⟨h.1,λq b=>by
    rcases List.mem_cons.1 b with rfl|b
    · exact λr=>g (C2.1 r).symm
    exact h.2 q b⟩
  split at h
  ·exact fy (uZ (ts:=ts) h j) λF1 cs h=>by
    obtain⟨v1,h,i⟩:=h;exact cx (nC a h ψ (i.clean a c)) λA l h=>by
     obtain⟨⟨k,h,o⟩,p⟩:=h;exact w (K2:=K) j ⟨⟨k,h,i.trans o⟩,p⟩
  ·exact fy (uZ (ts:=ts) h j) λF1 cs h=>by
    obtain⟨v1,h,i⟩:=h;exact cx (nC a h ψ (i.clean a c)) λA l h=>by
     obtain⟨⟨k,h,o⟩,p⟩:=h;exact w (K2:=K) j ⟨⟨k,h,i.trans o⟩,p⟩
  ·rename_i t f y E B
   have g:t≠d:=λe=>by have:=c s;rw[B,e]at this;simp[AV.uses]at this
   exact fy (uZ (ts:=ts) h g) λF1 cs h=>by
    obtain⟨v1,h,i⟩:=h;exact cx (nC a h ψ (i.clean a c)) λA l h=>by
     obtain⟨⟨k,h,o⟩,p⟩:=h;exact w (K2:=K) g ⟨⟨k,h,i.trans o⟩,p⟩
  exact h.elim
 | (x,n+2)::xs,K,F,v,h,u,c=>by
  simp only[lendP]at h |-;split at h
  case h_2=>exact h.elim
  rename_i s;have j:s≠d:=λe=>u _ X2 (by simp[tm,e])
  rw[cj j]at h;have w:∀{t:Nat}{cs:List C},t≠d->lendP xs (λD l=>K D ((.ptr cs,.box t)::l)) (kill (eff none d v F) t)->lendP xs (λF1 l=>(∃v1,K (eff none d v1 F1) ((.ptr cs,.box t)::l)/\bV ts F F1)/\∀q,q∈(MA.ptr cs,rS.box t)::l->d∉q.2.slot) (kill F t):=fun {t cs} g h=>by
   rw[D8 g]at h;refine cx (nC a h ψ ((bV.kill (ts:=ts)).clean a c)) λA l h=>?_
   obtain⟨⟨k,h,o⟩,p⟩:=h;refine⟨⟨k,h,bV.kill.trans o⟩,λq b=>?_⟩;rcases List.mem_cons.1 b with rfl|b
   ·exact λr=>g (C2.1 r).symm
   exact p q b
  split at h
  ·rename_i t B
   have g:t≠d:=λe=>by have:=c s;rw[B,e]at this;simp[AV.uses]at this
   rw[cj g]at h;split at h
   all_goals simp_all
  all_goals simp_all
theorem sQ{d:Nat}{v:AV}(a:∀t,(F t).uses d=false):∀{l:List (MA × rS)}{xs:List Operand}{K:Bool->List MA->Prop},valsP (eff none d v F) l xs K->(∀x,x∈xs->d∉tm x)->valsP F l xs K
 | [],[],K,h,_=>h
 | (m,.no)::l,x::xs,K,h,b=>by
  obtain⟨f,cs,c,e⟩:=cB h;exact e F (mO ψ a) _ (sQ a c ψ)
 | (m,.at_ t off st)::l,x::xs,K,h,b=>sQ (l:=l) (xs:=xs) a h ψ
 | (m,.box t)::l,x::xs,K,h,b=>sQ (l:=l) (xs:=xs) a h ψ
 | [],_::_,K,h,_=>h.elim
 | (m,.no)::l,[],K,h,_=>h.elim
 | (m,.at_ t off st)::l,[],K,h,_=>h.elim
 | (m,.box t)::l,[],K,h,_=>h.elim
theorem ma{ts:List Nat}{d:Nat}{K:(Nat->AV)->Prop} : ∀{l:List (MA × rS)}{B:List MA}{F:Nat->AV}{v:AV},io l B K (eff none d v F)->(∀q,q∈l->d∉q.2.slot)->io l B (Gq d ts F K) F
 | [],[],F,v,h,_=>⟨v,h,bV.refl _ _⟩
 | [],_::_,F,v,h,_=>h.elim
 | (m,.no)::l,[],F,v,h,_=>h.elim
 | (m,.at_ t off st)::l,[],F,v,h,_=>h.elim
 | (m,.box t)::l,[],F,v,h,_=>h.elim
 | (m,.no)::l,.val _ _::B,F,v,h,b=>ma (l:=l) (B:=B) h ψ
 | (m,.no)::l,.mut _ _::B,F,v,h,b=>ma (l:=l) (B:=B) h ψ
 | (m,.no)::l,.ptr _::B,F,v,h,b=>ma (l:=l) (B:=B) h ψ
 | (m,.at_ t off st)::l,.val _ _::B,F,v,h,_=>h.elim
 | (m,.at_ t off st)::l,.ptr _::B,F,v,h,_=>h.elim
 | (m,.box t)::l,.val _ _::B,F,v,h,_=>h.elim
 | (m,.box t)::l,.mut _ _::B,F,v,h,_=>h.elim
 | (m,.at_ t off st)::l,.mut ag out::B,F,v,h,b=>by
  have c:t≠d:=λe=>b _ X2 (by simp[rS.slot,e])
  have a:∀q,q∈l->d∉q.2.slot:=ψ
  simp only[io]at h |-;rw[cj c]at h;split at h
  case h_2=>exact h.elim
  split at h
  ·rename_i k n _ _
   cases o:Nat.ble (off+out.length) n.length with
   | false=>grind
   | true=>
    rw[o]at h;simp only[cond_true,dr]at h |-;rw[nO c]at h;exact dx (λg f=>Gq.trans bV.updH f) (ma (ts:=ts) h a)
  obtain⟨r,j,p,u,w,i⟩:=Pu.out h;rw[nO c]at i;exact Pu.mk p u w rfl (dx (λg f=>Gq.trans bV.updH f) (ma (ts:=ts) i a))
 | (m,.box t)::l,.ptr out::B,F,v,h,b=>by
  have c:t≠d:=λe=>b _ X2 (by simp[rS.slot,e])
  have a:∀q,q∈l->d∉q.2.slot:=ψ
  simp only[io]at h |-;rw[cj c]at h;split at h
  ·rw[D0 c]at h
   exact dx (λg f=>Gq.trans bV.setH f) (ma (ts:=ts) h a)
  exact h.elim
theorem PC{dj:Option Nat}(h:mt P N (eff none d v F) dj f args modes K)(n:dj≠some d)(a:d∉ts)(g:∀x,x∈args->d∉tm x)(i:∀t,(F t).uses d=false) :
  mt P N F dj f args modes (Gq d ts F K):=by
 unfold mt at h |-;refine cx (nC a h (λx o=>g _ (List.of_mem_zip o).1) i) λE l h=>?_
 obtain⟨⟨G,h,c⟩,p⟩:=h;cases q:(wq l&&Nat.beq args.length modes.length) with
 | false=>grind
 | true=>
  rw[q]at h;refine jV (sQ (c.clean a i) h g) λb A h=>?_
  obtain⟨H,B,k,rcs,r,e,u⟩:=du.out h;refine CK r e (dx (λF'' h=>?_) (ma (ts:=ts) u p));obtain⟨w,h,j⟩:=h;cases dj with
  | none=>exact⟨w,h,c.trans j⟩
  | some dj=>
   refine bt (ij (ts:=ts) h ψ jC) λJ e=>?_
   obtain⟨y,-,C,D⟩:=e;exact⟨y,C,(c.trans j).trans D⟩
theorem Tv{dj:Option Nat}{c a b:Nat}{B:List MA}(f:t≠d)(g:dj≠some d)(h:zO N (eff none d v F) dj t cs c a e b K k rcs B):zO N F dj t cs c a e b (Gq d ts F K) k rcs B:=by
 unfold zO at h |-;split at h
 case h_2=>exact h.elim
 rename_i i j;cases l:(Nat.beq i.length a&&Nat.beq j.length b) with
 | false=>grind
 | true=>
  rw[l]at h;simp only[cond_true,dr]at h |-;rw[D8 f,D0 f]at h;cases dj with
  | none=>exact⟨_,h,bV.kill.trans bV.setH⟩
  | some dj=>
   refine bt (ij (ts:=ts) h ψ jC) λr n=>?_
   obtain⟨o,-,p,q⟩:=n;exact⟨o,p,(bV.kill.trans bV.setH).trans q⟩
theorem Mv{K:Nat->Nat->Prop}(b:d∉tm x)(c:∀t,(F t).uses d=false)(h:AU (eff none d v F) x K):AU F x λt o=>t≠d/\K t o:=by
 obtain⟨s,t,f,rfl,a,i⟩:=sP h;have g:s≠d:=λe=>b (by simp[tm,e])
 rw[cj g]at a;have j:t≠d:=λe=>by have:=c s;rw[a,e]at this;simp[AV.uses]at this
 grind [AU]
theorem Qi{dj:Option Nat}{a b:Nat}(h:kV P N (eff none d v F) dj f args a b K)(g:dj≠some d)(c:∀x,x∈args->d∉tm x)(e:∀t,(F t).uses d=false) :
  kV P N F dj f args a b (Gq d ts F K):=by
 unfold kV at h |-;split at h
 case h_2=>exact h.elim
 refine lM (Mv (c _ (by simp)) e h) λt j h=>?_
 obtain⟨i,h⟩:=h;refine lM (Mv (c _ (by simp)) e h) λk l h=>?_
 replace h:=h.2;rw[cj i]at h;split at h
 all_goals grind [dr,du.out,CK,Tv]
theorem P5{dj:Option Nat}(h:kZ P N (eff none d v F) dj f args modes K)(a:dj≠some d)(b:d∉ts)(c:∀x,x∈args->d∉tm x)(e:∀t,(F t).uses d=false) :
  kZ P N F dj f args modes (Gq d ts F K):=by grind [Qi,PC,kZ]
theorem Tx{dj:Option Nat}{q:Nat}(c:q≠s):rv1 F dj s F1 q=F1 q:=by
 unfold rv1;cases F s with
 | ref t a b=>
  cases b with
  | cons=>rfl
  | nil=>
   simp only;cases(dne dj s&&dne dj t) with
   | false=>rfl
   | true=>
    simp only[cond_true];cases F1 t with
    | H k cs=>
     cases k with
     | box=>
      simp only;cases F1 s with
      | dead=>grind [fE]
      | _=>rfl
     | _=>rfl
    | _=>rfl
 | _=>rfl
theorem UP{dj:Option Nat}{v1:AV}(c:∀t,(F t).uses d=false):∃a,rv1 (eff none d v F) dj s (eff none d v1 F1)=eff none d a (rv1 F dj s F1):=by
 by_cases b:s=d
 ·subst b
  have f:∃a,rv1 (eff none s v F) dj s (eff none s v1 F1)=eff none s a F1:=by
   unfold rv1;rw[mP];have set:∀x:AV,setH (eff none s v1 F1) s x=eff none s x F1:=λx=>by grind [qz,mP,fE,cj]
   grind
  obtain⟨a,g⟩:=f;refine⟨a,g.trans ?_⟩
  grind [mP,cj,Tx]
 refine⟨v1,?_⟩;unfold rv1;rw[cj b];cases h:F s with
 | ref t i j=>
  cases j with
  | cons=>rfl
  | nil=>
   have k:t≠d:=λe=>by have:=c s;rw[h,e]at this;simp[AV.uses]at this
   grind [cj,D0]
 | _=>rfl
def P0{d:Nat}{dj:Option Nat}{v:AV}(a:∀t,(F t).uses d=false):∀{l:List Nat}{v1:AV}{F1:Nat->AV},∃b,rvE (eff none d v F) dj l (eff none d v1 F1)=eff none d b (rvE F dj l F1)
 | [],v1,_=>⟨v1,rfl⟩
 | s::l,v1,F1=>by
  simp only[rvE];obtain⟨b,e⟩:=UP (dj:=dj) (v:=v) (v1:=v1) (s:=s) (F1:=F1) a;rw[e];exact P0 a
theorem T4{a:Oper}(B:a.guard=none)(k:pn a.op=true)(g:a.dst≠some d)(w:d∉a.looksAt ops)(n:∀t,(F t).uses d=false)(h:jm P TE N ops a K (eff none d v F)) :
  jm P TE N ops a (Gq d (a.looksAt ops) F K) F:=by
 have f:∀t,t∈dy a.op->t∈a.looksAt ops:=λt o=>iO a t o
 have tmI:∀x,x∈a.op.operands.toList->∀t,t∈tm x->t∈a.looksAt ops:=λx y t o=>f t (List.mem_flatMap.2 ⟨x,y,o⟩)
 have pur:∀dj,dj≠d->dh P TE (eff none d v F) a.op (λj=>bP N (eff none d v F) dj j K)->dh P TE F a.op λj=>bP N F dj j (Fq d (a.looksAt ops) v F K):=λdj g h=>
  EG (p:=λF K=>dh P TE F a.op K) (kF h) g f w n
 unfold jm fR at h |-;rw[B]at h |-;simp only at h |-;cases b:a.op with
 | call c=>
  rw[b]at h k tmI;have q:rh c=none:=by grind [pn,rh]
  have r:Br N (eff none d v F) (.call c)=Br N F (.call c):=by grind [pn,Br]
  rw[r]at h;have pl:lr P TE N a K (eff none d v F)->lr P TE N a (Gq d (a.looksAt ops) F K) F:=λh=>by
   unfold lr at h |-;rw[b]at h |-;cases C:a.dst with
   | none=>grind
   | some dj=>
    rw[C]at h;simp only[kT,q]at h |-;have A:=pur dj ψ;rw[b]at A;obtain⟨j,D,-,E⟩:=kF (A h);exact E F (Ca _ _) _ (bt D λQ G=>by
      obtain⟨v1,-,H,u⟩:=G;exact⟨v1,H,u⟩)
  cases J:Br N F (.call c) with
  | some p=>
   rw[J]at h;simp only at h |-;have i:∀x,x∈p.2.1->d∉tm x:=λx y L=>by grind [pn,Br,Go.Op.operands,Go.Call.operands]
   have lt:uf P N (eff none d v F) a.dst p.1 p.2.1 p.2.2 K->uf P N F a.dst p.1 p.2.1 p.2.2 (Gq d (a.looksAt ops) F K):=λh=>sq (P5 (ts:=a.looksAt ops) h g w i n) λF1 h=>by
    obtain⟨v1,h,u⟩:=h;rw[om]at h |-;obtain⟨M,e⟩:=P0 (dj:=a.dst) (v:=v) (l:=VS N.mo) (v1:=v1) (F1:=F1) n;rw[e]at h;exact⟨M,h,Jt u⟩
   cases O:NU N (.call c) with
   | false=>grind
   | true=>
    rw[O]at h;rcases h with h|h
    ·exact .pl (pl h)
    exact .lt (lt h)
  | none=>
   grind [lr]
 | _=>rw[b]at k;cases k
theorem TZ{a:Oper}(e:a.guard=none)(b:(Ui a.op || pn a.op)=true)(c:a.dst≠some d)(f:d∉a.looksAt ops)(g:∀t,(F t).uses d=false)(h:jm P TE N ops a K (eff none d v F)) :
  jm P TE N ops a (Gq d (a.looksAt ops) F K) F:=by
 rw[Y8]at b;rcases b with b|b
 ·refine kE (QY e b c f g h) λl i=>?_
  obtain⟨j,-,k,u⟩:=i;exact⟨j,k,u⟩
 grind [T4]
structure mR(ops:Array Oper)(ds:List Nat)(F:Nat->AV)(listed:Array Bool):Prop where
 dst:∀(j:Nat)(o:Oper)(d:Nat),qO ds o=true->ops[j]? = some o->listed.getD j true=false->o.dst=some d->∀t,(F t).uses d=false
 mv:∀(j:Nat)(o:Oper)(T:Option Nat)(s:Nat),qO ds o=true->ops[j]? = some o->listed.getD j true=false->o.guard=none->oA o.op=some (T,s)->jJ ops o s=true->∀t,(F t).uses s=false
variable{j:Nat}
theorem mR.put{o:Option Nat}(h:mR ops ds F listed)(p:∀b a g,qO ds a=true->b≠j->ops[b]? = some a->listed.getD b true=false->a.dst=some g->av.uses g=false)(q:∀b a T s,qO ds a=true->b≠j->ops[b]? = some a->listed.getD b true=false->a.guard=none->oA a.op=some (T,s)->jJ ops a s=true->av.uses s=false) :
  mR ops ds (eff o d av F) (listed.setIfInBounds j true):=by
 refine⟨λb a g i c e k t=>?_,λb a T s i c e r l n t=>?_⟩
 ·have f:=iS e
  rw[getD_set_ne true (Ne.symm f)]at e;exact kx ψ (h.dst b a g i c e k t)
 have f:=iS e;rw[getD_set_ne true (Ne.symm f)]at e;exact kx ψ (h.mv b a T s i c e r l n t)
theorem xY{o:Oper}(h:Vz o=true):o.guard=none:=by grind [Vz]
theorem QW(h:(!ts.any (Nat.beq d))=true):d∉ts:=λa=>by grind [Nat.beq_refl]
theorem Rn{a b:Oper}{c:Bool}(h:VO ops a b c=true)(f:b.dst=some d):a.guard=none/\(Ui a.op || pn a.op)=true/\a.dst≠some d/\d∉a.looksAt ops/\b.guard=none/\d∉b.looksAt ops/\(c=true\/∀T s,oA b.op=some (T,s)->jJ ops b s=false):=by
 unfold VO at h;rw[f]at h;simp only[I0]at h;obtain⟨⟨⟨⟨⟨⟨g,i⟩,n⟩,j⟩,k⟩,l⟩,o⟩:=h;refine⟨xY g,i,λe=>?_,QW j,xY k,QW l,?_⟩
 ·simp_all
 grind
def Pe(h:wF ops j i=true):oK ops j i:=tT j _ (λ_ a=>.one (yR a)) i h
theorem LE{o:Oper}(h:qO ds o=true):∃d,o.dst=some d/\ds.any (Nat.beq d)=true:=by grind [qO]
structure Ur(ops:Array Oper)(ds:List Nat)(nm:Nat->Bool):Prop where
 back:∀(j:Nat)(oj:Oper),ops[j]? = some oj->∀e∈oj.after,Region.binds .any e=true->e.on<j
 apart:∀(i j:Nat)(oi oj:Oper),qO ds oi=true->qO ds oj=true->i≠j->ops[i]? = some oi->ops[j]? = some oj->dd oj i=true\/dd oi j=true\/oi.apart ops oj=true
 look:∀(i j:Nat)(oi oj:Oper)(d:Nat),qO ds oi=true->i≠j->ops[i]? = some oi->ops[j]? = some oj->oi.dst=some d->d∈oj.looksAt ops->dd oj i=true
 differ:∀(i j:Nat)(oi oj:Oper)(d:Nat),qO ds oi=true->qO ds oj=true->i≠j->ops[i]? = some oi->ops[j]? = some oj->oi.dst=some d->oj.dst≠some d
 nf:∀(i j:Nat)(oi oj:Oper),qO ds oi=true->qO ds oj=false->i≠j->ops[i]? = some oi->ops[j]? = some oj->wF ops j i=true\/wF ops i j=true\/VO ops oj oi (nm i)=true
 mvs:∀(j:Nat)(oj:Oper)(T:Option Nat)(s:Nat),qO ds oj=true->ops[j]? = some oj->oA oj.op=some (T,s)->jJ ops oj s=true->ds.any (Nat.beq s)=true
theorem pC{d:Oper}(a:Ur ops ds nm)(b:DC ops listed)(c:ops[j]? = some d)(f:∀e∈d.after,Region.binds .any e=true->listed.getD e.on false=true)(g:wF ops j i=true):listed.getD i false=true:=
 ot b a.back (Pe g) (Z4.1 c).1 λk h=>by grind [bx,cu]
theorem unl{k:Nat}(h1:listed.getD k true=false)(a:listed.getD k false=true):False:=ψ
theorem ir.trans{a:Nat->AV}(h1:ir F F1 ts)(c:ir F1 a ts):ir F a ts:=λt b=>by
 obtain⟨d,e⟩:=h1 t b;obtain⟨f,g⟩:=c t b
 grind
theorem mR.us{g:Oper}(n:Ur ops ds nm)(h:mR ops ds F listed)(o:ops[j]? = some g)(r:∀e∈g.after,Region.binds .any e=true->listed.getD e.on false=true)(u:bV (g.looksAt ops) F F1):mR ops ds F1 (listed.setIfInBounds j true):=by
 refine⟨λi k t l b c d=>u.clean (λf=>?_) (h.dst i k t l b ?_ d),λi k T s l b c w p q=>u.clean (λf=>?_) (h.mv i k T s l b ?_ w p q)⟩
 ·have a:=iS c
  rw[getD_set_ne true (Ne.symm a)]at c;have:=n.look i j k g t l a b o d f
  grind [cu]
 ·have a:=iS c
  rwa [getD_set_ne true (Ne.symm a)]at c
 ·grind [iS,gt,cZ]
 have a:=iS c
 rwa [getD_set_ne true (Ne.symm a)]at c
theorem UG{p:Nat}{b:Oper}(a:ops[p]? = some b)(j:d∉b.looksAt ops)(k:∀t,(F1 t).uses d=false)(e:b.dst≠some d)(h:Vm P TE ops p (eff none d v F1)):Vm P TE ops p F1:=by
 obtain⟨f,g,i,c⟩:=h;rw[bx a]at g i c;refine⟨f,by grind [bx],?_,?_⟩
 ·grind [bx,xf,mO]
 rw[bx a];obtain⟨l,n,-,o⟩:=kF c
 grind [cj,mO,iO]
theorem KG(W:Ur ops ds nm){b:Oper}(D:ops[i]? = some b)(w:qO ds b=true) :
  ∀(fuel:Nat)(listed:Array Bool)(F:Nat->AV)(l:Option Nat)(av:AV),i∈Region.ready .any ops listed->mR ops ds F listed->DC ops listed->Yl P TE N ops b F l d av->(nm i=true->l=none)->Hy P TE N ops ds K fuel (listed.setIfInBounds i true) (eff l d av F)->Hy P TE N ops ds K (fuel+1) listed F:=by
 have self:∀(listed:Array Bool)(F:Nat->AV)(l:Option Nat)(av:AV),i∈Region.ready .any ops listed->mR ops ds F listed->Yl P TE N ops b F l d av->∀X:(Nat->AV)->Prop,X (eff l d av F)->lS P TE N ops b X F:=λlisted F l av hr a c X hK=>by
  have f:=(mem_ready.1 hr).1;refine c.at_ F (Ca _ _) (a.dst i b d w D f c.dst) (λs hs=>?_) X hK;obtain⟨B,⟨T,h2⟩,h3⟩:=c.mvl s hs;exact a.mv i b T s w D f B h2 h3
 intro fuel
 induction fuel with
 | zero=>
  intro listed F l av hr a E c hnm H;refine⟨ψ,λj hj=>?_⟩;by_cases n:j=i
  ·grind [vT]
  have:=ready_mono hj n;rw[H.1]at this;cases this
 | succ fuel ih=>
  intro listed F l av hr a E c hnm H;refine⟨ψ,λj hj=>?_⟩;by_cases n:j=i
  ·grind [vT]
  have B:=H.2 j (ready_mono hj n);obtain⟨R,g,q,hall⟩:=mem_ready.1 hj;obtain⟨f,oi',C,halli⟩:=mem_ready.1 hr;rw[D]at C;simp only[I1]at C;subst C;have noedge:∀k ok,ops[k]? = some ok->listed.getD k true=false->dd g k=false:=λk ok hk hkun=>by grind [cu]
  have noedge':∀k ok,ops[k]? = some ok->listed.getD k true=false->dd b k=false:=λk ok hk hkun=>by grind [cu]
  have cd:∀t,(F t).uses d=false:=a.dst i b d w D f c.dst
  unfold vT at B |-;rw[q]at B |-;simp only at B |-;by_cases G:qO ds g=true
  case neg=>
   rw[CC G]at B |-;have hji1:wF ops j i=false:=by grind [pC]
   have hij1:wF ops i j=false:=by grind [pC]
   have hfb:VO ops g b (nm i)=true:=by grind [Ur.nf]
   obtain⟨J,r,A,g4,g5,g6,g7⟩:=Rn hfb c.dst;have hmv:l=none:=by
    cases l with
    | none=>rfl
    | some s=>
     obtain⟨-,⟨T,q1⟩,q2⟩:=c.mvl s rfl
     grind
   subst hmv;refine kE (TZ J r A g4 cd B) λF1 hF1=>?_
   obtain⟨v,⟨S,hrun⟩,u⟩:=hF1;have cd1:∀t,(F1 t).uses d=false:=u.clean g4 cd
   have hisz:i<listed.size:=ψ
   have hrd:Vm P TE ops i (eff none d v F1):=S i (by simp[hisz]) (by grind [bx]) hji1;refine⟨λp hp1 L hp3=>?_,ih (listed.setIfInBounds j true) F1 none v (ready_mono hr (Ne.symm n)) (a.us W q hall u) (E.put hj) ?_ (λ_=>rfl) (by grind [Array.setIfInBounds_comm])⟩
   ·have hpi:p≠i:=ψ
    have hpl:p<ops.size:=by
     rcases Nat.lt_or_ge p ops.size with h|h
     ·exact h
     rw[show dv ops p=default by simp[dv,I9,Array.getElem?_eq_none h]]at L;cases L
    have h0:ops[p]? = some ops[p]:=ψ
    have U:=L;rw[bx h0]at U;refine UG h0 (λhlk=>?_) cd1 (W.differ i p b _ d w U (Ne.symm hpi) D h0 c.dst) (S p (getD_set_true hp1) L hp3);have:=W.look i p b _ d w (Ne.symm hpi) D h0 c.dst hlk;exact unl f (E p _ h0 hp1 i this)
   obtain⟨dp,q1,q2,q3⟩:=hrd;rw[bx D]at q1 q2 q3;have hdp:dp=d:=by grind [Yl.dst]
   subst hdp;rw[mP]at q3;obtain⟨M,e1,e2,e3⟩:=kF q3;subst e1;have agr1:ir (eff none dp M F1) F1 (b.looksAt ops):=mO g6 cd1;have fromv:eI F1 (b.looksAt ops) M:=λe he=>by
    rcases e2 e he with h|⟨t,Y,h⟩
    all_goals grind [iO,cj]
   have Z:M.uses dp=false:=by
    cases hu:M.uses dp with
    | false=>rfl
    | true=>
     rcases fromv dp hu with h|⟨t,_,h⟩
     all_goals grind
   refine⟨c.dst,c.lt,Z,fromv,ψ,λF' hA O _ X hK=>?_⟩;have agr2:=agr1.trans hA;unfold lS;rw[xf agr2,q2];simp only;unfold gX fR
   grind [ir.mono,iO,Yl.lt,EY,bP]
  rw[CD G]at B |-;have hap:b.apart ops g=true:=by grind [Ur.apart]
  obtain⟨ap1,ap2,ap3⟩:=Oper.apart_spec hap;have hdl:d∉g.looksAt ops:=ap1 d c.dst;have cdj':∀o,g.dst=some o->∀t,(F t).uses o=false:=λo hdj=>a.dst j g o G q R hdj
  have cmv:∀s,l=some s->(∀t,(F t).uses s=false)/\s∉g.looksAt ops/\s∈b.looksAt ops:=λs hs=>by
   obtain⟨J,⟨T,r⟩,A⟩:=c.mvl s hs;exact⟨a.mv i b T s w D f J r A,λhl=>n ((gt A).2 i j b g D q (cZ r) hl).symm,cZ r⟩
  have cmvj:∀T s,g.guard=none->oA g.op=some (T,s)->jJ ops g s=true->(∀t,(F t).uses s=false)/\s∉b.looksAt ops/\s∈g.looksAt ops:=λT s J r A=>
   ⟨a.mv j g T s G q R J r A,λhl=>n ((gt A).2 i j b g D q hl (cZ r)).symm,cZ r⟩
  have avno:∀e,e∉b.looksAt ops->(∀t,(F t).uses e=false)->av.uses e=false:=λe B h2=>by
   cases hu:av.uses e with
   | false=>rfl
   | true=>
    rcases c.from_ e hu with h|⟨t,_,h⟩
    all_goals grind
  obtain⟨mvj,o,avj,y,hKj⟩:=qq B (λo hdj t=>kx ψ (cdj' o hdj t)) (λT s J r A t=>by grind [kx]);have hdne:d≠o:=λe=>ap2 d c.dst (by rw[y.dst,e])
  have hdjl:o∉b.looksAt ops:=ap3 o y.dst;have cdj:∀t,(F t).uses o=false:=cdj' o y.dst
  have cmj:∀s,mvj=some s->(∀t,(F t).uses s=false)/\s∉b.looksAt ops/\s∈g.looksAt ops:=λs hs=>by
   obtain⟨J,⟨T,r⟩,A⟩:=y.mvl s hs
   grind
  have lookj:∀t,t∈g.looksAt ops->eff l d av F t=F t:=λt Y=>by grind [eff]
  have looki:∀t,t∈b.looksAt ops->eff mvj o avj F t=F t:=λt Y=>by grind [eff]
  have avjno:∀e,e∉g.looksAt ops->(∀t,(F t).uses e=false)->avj.uses e=false:=λe B h2=>by
   cases hu:avj.uses e with
   | false=>rfl
   | true=>
    rcases y.from_ e hu with h|⟨t,Y,h⟩
    all_goals grind
  have agrj:ir (eff l d av F) F (g.looksAt ops):=λt Y=>by grind [eff]
  refine y.at_ F agrj cdj ψ _ (ih (listed.setIfInBounds j true) (eff mvj o avj F) l av (ready_mono hr (Ne.symm n)) (a.put (λj' o' d' hm' V Q hl' O=>?_) (λj' o' T s hm' V Q hl' J r A=>?_)) (E.put hj) ?_ hnm ?_)
  ·refine avjno d' (λh=>?_) (a.dst j' o' d' hm' Q hl' O)
   grind [Ur.look]
  ·exact avjno s (λh=>V ((gt A).2 j' j o' g Q q (cZ r) h)) (a.mv j' o' T s hm' Q hl' J r A)
  ·refine⟨c.dst,c.lt,c.self,λe he=>?_,c.mvl,λF' hA O hs' X hK=>c.at_ F' (λt Y=>?_) O hs' X hK⟩
   ·rcases c.from_ e he with h|⟨t,Y,h⟩
    all_goals grind
   obtain⟨a1,a2⟩:=hA t Y
   grind [eff]
  rw[Array.setIfInBounds_comm _ _ n];have:eff l d av (eff mvj o avj F)=eff mvj o avj (eff l d av F):=by grind [eff]
  grind
theorem Dh:∀{b:List Nat}{X:Prop}{F:Nat->AV},R0 P TE ops b X F->X/\∀p,p∈b->Vm P TE ops p F
 | [],X,F,h=>⟨h,ψ⟩
 | p::l,X,F,h=>by
  simp only[R0]at h;unfold VN at h;cases c:(dv ops p).dst with
  | none=>grind
  | some d=>
   rw[c]at h;simp only at h;cases f:Mt F (dv ops p) with
   | some q=>grind
   | none=>
    rw[f]at h;simp only at h;obtain⟨g,i,-,-⟩:=kF h;obtain⟨e,k,j⟩:=(show g=F d/\X/\∀p,p∈l->Vm P TE ops p F from⟨i.out.1,Dh i.out.2⟩)
    refine⟨k,λn a=>?_⟩;rcases List.mem_cons.1 a with rfl|a
    ·exact⟨d,c,f,jX h λg h=>h.out.1⟩
    grind
variable{l:List (Nat × List Nat)}
theorem uV : zu l i=true↔∃p,p∈l/\p.1=i:=by grind [C3,Nat.beq_refl,zu]
theorem q8{k:Nat × List Nat} : zu (k::l) i=(Nat.beq k.1 i || zu l i):=rfl
theorem DZ(b:Ur ops ds nm){K:(Nat->AV)->Prop} : ∀(l:List (Nat × List Nat))(listed:Array Bool)(F:Nat->AV),GS ops ds l=true->listed.size=ops.size->(∀j,j<ops.size->listed.getD j true = !zu l j)->mR ops ds F listed->DC ops listed->
  MC P TE N ops ds nm l K F->Hy P TE N ops ds K l.length listed F
 | [],listed,F,_,hs,E,_,_,c=>by
  refine⟨?_,c⟩;apply List.eq_nil_iff_forall_not_mem.2;intro j R;obtain⟨S,o,ho,-⟩:=mem_ready.1 R;have G:=(Z4.1 ho).1;rw[E j G]at S;cases S
 | k::l,listed,F,A,hs,E,a,H,c=>by
  simp only[GS,I0]at A;obtain⟨⟨⟨⟨q1,q2⟩,q3⟩,Z⟩,q5⟩:=A;have hk:k.1<ops.size:=by simp_all
  have r:ops[k.1]? = some ops[k.1]:=ψ
  have hrf:∀i,i<ops.size->listed.getD i true=true->listed.getD i false=true:=ψ
  have hready:k.1∈Region.ready .any ops listed:=mem_ready.2 ⟨by grind [q8,Nat.beq_refl],_,r,λe he hb=>by
    have G:=b.back k.1 _ r e he hb
    grind [bx,q8]⟩
  have B:∀j,j<ops.size->(listed.setIfInBounds k.1 true).getD j true = !zu l j:=λj R=>by
   by_cases w:j=k.1
   ·simp_all
   rw[getD_set_ne true (Ne.symm w),E j R,q8,show Nat.beq k.1 j=false by rw[<-X7,Nat.beq_eq];exact Ne.symm w];rfl
  show Hy P TE N ops ds K (l.length+1) listed F;simp only[MC]at c;rw[bx r]at c Z;have U:listed.getD k.1 true=false:=(mem_ready.1 hready).1;cases f:qO ds ops[k.1] with
  | true=>
   rw[f]at c;simp only[cond_true]at c;obtain⟨mv,d,av,hy,c,hnm⟩:=NA c (λd hd=>a.dst k.1 _ d f r U hd) (λT s g1 g2 g3=>a.mv k.1 _ T s f r U g1 g2 g3);have C:∀e∈ops[k.1].after,Region.binds .any e=true->listed.getD e.on false=true:=by grind [Go.mem_ready]
   refine KG b r f l.length listed F mv av hready a H hy hnm (DZ b l _ _ q5 (by simpa using hs) B (a.put (λO Q V g D n hl'' J=>?_) (λO Q T s g D n hl'' g1 g2 g3=>?_)) (H.put hready) c)
   ·cases hu:av.uses V with
    | false=>rfl
    | true=>
     rcases hy.from_ V hu with h|⟨t,_,h⟩
     ·have:=b.look O k.1 Q _ V g D n r J h
      grind [cu]
     rw[a.dst O Q V g n hl'' J t]at h;cases h
   cases hu:av.uses s with
   | false=>rfl
   | true=>
    rcases hy.from_ s hu with h|⟨t,_,h⟩
    ·grind [gt,cZ]
    rw[a.mv O Q T s g n hl'' g1 g2 g3 t]at h;cases h
  | false=>
   rw[f]at c Z;simp only[cond_false]at c;simp only[Bool.false_or,I0]at Z;obtain⟨⟨r1,r2⟩,r3⟩:=Z;refine⟨ψ,λj R=>?_⟩;obtain⟨hjun,oj,y,C⟩:=mem_ready.1 R;have hjlt:=(Z4.1 y).1;have w:j=k.1:=by grind [uV,pC]
   subst w;rw[r]at y;simp only[I1]at y;subst y;unfold vT;rw[r];simp only[f,CC (show ¬false=true by decide)];have post:∀u,R0 P TE ops k.2 (MC P TE N ops ds nm l K u) u->mR ops ds u (listed.setIfInBounds k.1 true)->(∀p,listed.getD p false=true->qO ds (dv ops p)=true->wF ops k.1 p=false->Vm P TE ops p u)/\Hy P TE N ops ds K l.length (listed.setIfInBounds k.1 true) u:=λu L W=>by
    obtain⟨X,hrd⟩:=Dh L;refine⟨λp hp1 hp2 hp3=>hrd p ?_,DZ b l _ _ q5 (by simpa using hs) B W (H.put hready) X⟩;have hpl:p<ops.size:=ψ
    grind [gU,q8,C3]
   cases hlater:l.any (λj=>qO ds (dv ops j.1)) with
   | false=>
    refine kE c λu L=>post u L ⟨λO Q V g n hl'' J=>?_,λO Q T s g n hl''=>?_⟩
    all_goals grind [uV,bx]
   | true=>
    rw[hlater]at r3;simp only[Bool.not_true,Bool.false_or,I0]at r3;obtain⟨x,hx1,q⟩:=S5.1 hlater;have Y:listed.getD x.1 true=false/\x.1<ops.size:=by
     have G:x.1<ops.size:=by
      rcases Nat.lt_or_ge x.1 ops.size with h|h
      ·exact h
      rw[show dv ops x.1=default by simp[dv,I9,Array.getElem?_eq_none h]]at q;cases q
     grind [uV]
    have M:ops[x.1]? = some ops[x.1]:=ψ
    rw[bx M]at q;obtain⟨d,hd,hdd⟩:=LE q;have hxk:x.1≠k.1:=ψ
    refine kE (T3 (d:=d) (xY r3.1) r3.2 (λe=>?_) (λhlk=>?_) (a.dst x.1 _ d q M Y.1 hd) c) λu S=>post u S.1 (a.us b r C S.2)
    ·grind [qO]
    have:=b.look x.1 k.1 _ _ d q hxk M r hd hlk
    grind [cu]
theorem Ew{sch:List (Nat × List Nat)}(h:DM ops ds sch=true):Ur ops ds (VR sch)/\GS ops ds sch=true/\sch.length=ops.size/\∀j,j<ops.size->zu sch j=true:=by
 unfold DM at h;simp only[I0]at h;obtain⟨⟨p,k⟩,l⟩:=h;have C:=λj (o:j<ops.size)=>gU p o
 have r:∀(i j:Nat)(c b:Oper),i≠j->ops[i]? = some c->ops[j]? = some b->AW ops ds (VR sch) i j=true:=λi j c b a f g=>by grind [gU,Nat.beq_eq]
 refine⟨⟨λj b o e t u=>?_,λi j c b n q a f g=>?_,λi j c b d n a f g w D=>?_,λi j c b d n q a f g w t=>?_,λi j c b n q a f g=>?_,λj b T s n o y A=>?_⟩,l,C3 k,λj o=>?_⟩
 ·grind [bx,Nat.blt_eq]
 ·grind [bx,AW]
 ·have:=r i j c b a f g
  unfold AW at this;rw[bx f,bx g,n]at this;have B:uy ops i j=true:=by grind [bx,Nat.beq_refl,uy]
  grind
 ·grind [bx,Nat.beq_refl,AW]
 all_goals grind [bx,AW]
theorem uP{l:List Nat} : Fw l j=true↔j∈l:=by grind [C3,Nat.beq_refl,Fw]
def GO{p:Nat->Prop} : ∀{l:List Nat}{i:Nat},Wg p i l->∀j,j∈i::l->p j
 | [],i,h,j,a=>by rw[C2.1 a];exact h
 | k::l,i,h,j,a=>by
  rcases List.mem_cons.1 a with rfl|a
  ·exact h.1
  exact GO h.2 j a
theorem Jd{l:List Nat}{K:Prop}{p:Nat->Prop}(h:Wa l K p):(l=[]->K)/\∀j∈l,p j:=by
 cases l with
 | nil=>exact⟨λ_=>h,ψ⟩
 | cons i l=>exact⟨ψ,GO h⟩
theorem rY{done:List Nat}(h:listed.size=ops.size)(b:∀j,j<ops.size->listed.getD j true=Fw done j)(l:∀k∈done,k<ops.size) : j∈Region.ready .any ops listed↔j∈Rl ops done:=by
 have c:∀i,listed.getD i false=Fw done i:=λi=>by grind [uP]
 rw[mem_ready];unfold Rl;rw[I6,List.mem_range,I0];constructor
 ·grind [bx]
 rintro⟨a,n,d⟩
 refine⟨ψ,ops[j],Z8 a,λe f g=>?_⟩;have:=X5.1 d e (by rw[bx (Z8 a)];simpa using f)
 grind
theorem Uo{K:(Nat->AV)->Prop} : ∀(n:Nat)(done:List Nat)(listed:Array Bool)(F:Nat->AV),listed.size=ops.size->(∀j,j<ops.size->listed.getD j true=Fw done j)->(∀k∈done,k<ops.size)->UF P TE N ops K n done F->Hy P TE N ops [] K n listed F
 | 0,done,listed,F,c,a,f,h=>by
  obtain⟨g,l⟩:=Jd h;have o:Rl ops done=[]:=List.eq_nil_iff_forall_not_mem.2 λj b=>l j b
  exact⟨List.eq_nil_iff_forall_not_mem.2 λj b=>(by grind [rY]),g o⟩
 | n+1,done,listed,F,c,a,f,h=>by
  obtain⟨g,l⟩:=Jd h;refine⟨λo=>g (List.eq_nil_iff_forall_not_mem.2 λj b=>(by rw[<-rY c a f,o]at b;cases b)),λi t=>?_⟩;have d:=(rY c a f).1 t;have q:=l i d;have u:i<ops.size:=List.mem_range.1 (I6.1 d).1;have r:ops[i]? = some ops[i]:=ψ
  unfold vT;rw[r];simp only;rw[bx r]at q;have w:qO [] ops[i]=false:=by grind [qO]
  rw[CC (by rw[w];decide)];refine kE q λy A=>⟨λp _ B=>?_,Uo n (i::done) _ y (by simpa using c) (λj b=>?_) (λk C=>?_) A⟩
  ·grind [qO]
  ·by_cases e:j=i
   ·subst e
    rw[show Fw (j::done) j=true from uP.2 ψ];simp[c,b]
   rw[getD_set_ne true (Ne.symm e),a j b]
   grind [uP]
  grind
theorem y5(g:∀t i,TE t=some i->iv P t i)(y:P.follows .mixedOrders=true){id:Nat}{tb:List (Nat × Nat × List Nat)}(b:od tb id ops=true)(c:DD P TE N tb id ops K F)(A:St w0 M S0 N F a w)(B:∀F' C w',K F'->St w0 M S0 N F' C w'->Q .normal C w'):(Code.region id ops true).wp P Q a w:=by
 unfold od at b;unfold DD at c;cases q:xA tb id with
 | none=>grind
 | some p=>
  obtain⟨m,L⟩:=p;rw[q]at b c;simp only at b c;cases k:Nat.ble 65536 m with
  | true=>
   rw[k]at c;refine wp_region_any y ?_;have f:St w0 M S0 N F a {w with drawn:=w.drawn+1}:=by
    obtain⟨S,φ,h⟩:=A;exact⟨S,φ,h.more (w1:={w with drawn:=w.drawn+1}) (λ_ _ h=>h) ψ ⟨rfl,rfl,rfl,O4 _,λ_ _ _=>rfl,λ_ _ _ _=>rfl,λ_ _ _ _=>rfl⟩⟩
   refine sg g (ds:=[]) B ops.size (Array.replicate ops.size false) _ a _ ?_ f;exact Uo ops.size [] _ F (by simp) (λj n=>by simp[n,Fw]) ψ c
  | false=>
  rw[k]at b c;simp only[cond_false]at b c;cases r:Nat.ble 256 m with
  | false=>
   grind [Ft]
  | true=>
   rw[r]at b c;simp only[cond_true,Lj]at b c;generalize L.take (m - 256)=ds at b c;generalize dec (L.drop (m - 256))=sch at b c;obtain⟨D,l,e,E⟩:=Ew b;refine wp_region_any y ?_;have f:St w0 M S0 N (Ab.clr ds F) a {w with drawn:=w.drawn+1}:=by
    have J:=A.clr ds;obtain⟨S,φ,h⟩:=J;exact⟨S,φ,h.more (w1:={w with drawn:=w.drawn+1}) (λ_ _ h=>h) ψ ⟨rfl,rfl,rfl,O4 _,λ_ _ _=>rfl,λ_ _ _ _=>rfl,λ_ _ _ _=>rfl⟩⟩
   refine sg g (ds:=ds) B ops.size (Array.replicate ops.size false) _ a _ ?_ f;have u:∀d,ds.any (Nat.beq d)=true->∀t,(Ab.clr ds F t).uses d=false:=λd O t=>by
    rw[EZ];cases W:ds.any (λd=>(F t).uses d) with
    | true=>rfl
    | false=>
     simp_all
   rw[<-e];refine DZ D sch _ _ l (by simp[e]) (λj n=>by simp_all) ⟨λj o d G H _ O t=>?_,λj o T s G H _ _ R U t=>u s (D.mvs j o T s G H R U) t⟩ (λj X n Y=>by
     have V:=(Z4.1 n).1
     simp_all) c
   grind [LE]
end
def lc:List (Option Nat)->Kd
 | [ag]=>m7 ag
 | a=>.tup a
def rW:ResultVar->Nat
 | .tmp t=>t
 | .cell t _=>t
def Hd(tmps:Array Value):ResultVar->Sem Value
 | .tmp t=>pure (tmps.getD t undef)
 | .cell a t=>do loadVar t (<-asAddr (tmps.getD a undef))
def resOne(TE:Nat->Option TI)(F:Nat->AV)(r:ResultVar)(K:Option Nat->List C->Prop):Prop:=
 match r with
 | .tmp t=>(match F t with
   | .H .one cs=>K none cs
   | .H .agg cs=>K (some cs.length) cs
   | _=>False)
 | .cell t T=>match TE T with
  | some i=>bif i.agg || Nat.beq i.size 1 then(match F t with
    | .H .box cs=>bif Nat.beq cs.length i.size then K (qN i) cs else False
    | _=>False) else False
  | none=>False
def resA(TE:Nat->Option TI)(F:Nat->AV):List ResultVar->List Nat->(List (Option Nat)->List C->Prop)->Prop
 | [],_,K=>K [] []
 | r::rs,seen,K=>bif seen.any (Nat.beq (rW r)) then False else resOne TE F r λb cs=>resA TE F rs (rW r::seen) λc a=>K (b::c) (cs++a)
def VZ:RA->AV
 | .val a cs=>.H (m7 a) cs
 | .ptr cs=>.iref cs 0
 | .fn Ok=>.fv Ok
def wE:Nat->List RA->List (Nat × AV)
 | _,[]=>[]
 | i,A::As=>(i,VZ A)::wE (i+1) As
inductive NK:C->C->Prop
 |rfl_ (c:C):NK c c
 |z_:NK .z (.s .own [])
 |own_ (rows rows':List (List C)) (hl:rows.length=rows'.length) (hk:∀(i:Nat)(r r':List C),rows[i]? = some r->rows'[i]? = some r'->r.length=r'.length)
   (hr:∀(i j:Nat)(r r':List C)(c c':C),rows[i]? = some r->rows'[i]? = some r'->r[j]? = some c->r'[j]? = some c'->NK c c'):NK (.s .own rows) (.s .own rows')
def Qn(cs a:List C):Prop:=cs.length=a.length/\∀(j:Nat)(c b:C),cs[j]? = some c->a[j]? = some b->NK c b
def Qn.nil:Qn [] []:=⟨rfl,λj c a h=>by simp at h⟩
variable{cs a:List C}
theorem Qn.cons{c b:C}(h:NK c b)(d:Qn cs a):Qn (c::cs) (b::a):=by
 refine⟨by simp[d.1],λj y e f g=>?_⟩;cases j with
 | zero=>grind
 | succ j=>exact d.2 j y e (by simpa using f) (by simpa using g)
def NK.rep{r r':List C}(h:Qn r r'):NK (.s .own (List.replicate n r)) (.s .own (List.replicate n r')):=by
 refine .own_ _ _ (by simp) (λi a b d e=>?_) (λi j a b c o d e k l=>?_)
 ·have f:=List.mem_replicate.1 (Z2 d)
  have g:=List.mem_replicate.1 (Z2 e);rw[f.2,g.2];exact h.1
 have f:=List.mem_replicate.1 (Z2 d);have g:=List.mem_replicate.1 (Z2 e);rw[f.2]at k;rw[g.2]at l;exact h.2 j c o k l
theorem Tm{w:World}{S Y:ah}{c:C}{v:Value}(h:dK w S Y c v):∀t,NK c t->dK w S Y t v:=by
 induction h with
 | z F a=>
  intro t j;cases j with
  | rfl_=>exact .z _ _
  | z_=>exact .nil _ _ _ trivial
 | nil F o a K=>
  intro t j;cases j with
  | rfl_=>exact .nil _ _ _ K
  | own_ d e E=>obtain rfl:e=[]:=IA (by simpa using E.symm);exact .nil _ _ _ trivial
 | own F o g k n y d u f K J L p A D R T j G X=>
  intro t M;cases M with
  | rfl_=>exact .own _ o g k n y d u f K J L p A D R T j G
  | own_ d e E Z U=>
   have V:∀(i:Nat)(W:List C),e[i]? = some W->∃r,d[i]? = some r:=ψ
   refine .own _ .own g k n y e u f trivial (E.symm.trans J) (λW hr'=>?_) p A D R T j ψ
   all_goals grind [List.mem_iff_getElem?]
 | v F x N=>intro t j;cases j;exact .v _ _ N
 | x F u N=>intro t j;cases j;exact .x _ _ N
 | S F g O k n y d u J L p hS G X=>intro t j;cases j;exact .S _ g O k n y d u J L p hS G
 | m F b l es q D P he Q B=>intro t j;cases j;exact .m _ b l es q D P he Q B
 | it F r b since c0 l seen q cur left D U P B G Q E H=>intro t j;cases j;exact .it _ r b since c0 l seen q cur left D U P B G Q E H
def WK(cs a:List C):Prop:=RK cs a\/Qn cs a
inductive js(k k':Kd)(cs cs':List C):Prop
 |mk_ (h:k=k'/\WK cs cs')
def nB:∀(cs:List C),RK cs cs
 | []=>trivial
 | c::cs=>by
  refine⟨?_,nB cs⟩;cases c with
  | s o a=>cases o<;>rfl
  | x=>trivial
  | _=>rfl
variable{k:Kd}
def js.mk{b:Kd}(h1:k=b)(c:cs=a):js k b cs a:=by refine .mk_ ?_;exact⟨h1,.inl (c ▸ nB cs)⟩
def js.wk{b:Kd}(h1:k=b)(c:RK cs a):js k b cs a:=.mk_ ⟨h1,.inl c⟩
def js.dk{b:Kd}(h1:k=b)(c:Qn cs a):js k b cs a:=.mk_ ⟨h1,.inr c⟩
def js.out{b:Kd}(h:js k b cs a):k=b/\WK cs a:=by obtain⟨h⟩:=h;exact h
theorem WK.len(h:WK cs a):cs.length=a.length:=h.elim (λh=>(wY h).1) (λh=>h.1)
theorem WK.row{w:World}{S Y:ah}{c:List C}{u:Nat->Value}(a:WK cs c)(h:cK w S Y cs u):cK w S Y c u:=by
 rcases a with a|a
 ·exact Lv a h
 obtain⟨f,k,l,n⟩:=h;refine⟨f,λj i b=>?_,λj b=>l j (by rw[a.1];exact b),λj o b e=>n j o (by rw[a.1];exact b) (by rw[a.1];exact e)⟩;have g:=(O3.1 b).1;have d:cs[j]? = some (cs[j]'(by rw[a.1];exact g)):=ψ
 exact Tm (k j _ d) i (a.2 j _ i d b)
def TF(TE:Nat->Option TI)(b:List ResultVar)(k:Kd)(rcs:List C):Exit->(Nat->AV)->Prop:=λe F=>
 match e with
 | .normal=>resA TE F b [] λa cs=>js (lc a) k cs rcs
 | .ret=>resA TE F b [] λa cs=>js (lc a) k cs rcs
 | _=>False
def Ua(F:Nat->AV)(t:Nat)(rcs:List C):Prop:=
 match F t with
 | .H .box cs=>js .box .box cs rcs
 | .ref a 0 []=>(match F a with
   | .H .box cs=>js .box .box cs rcs
   | _=>False)
 | _=>False
def VP(t:Nat)(rcs:List C):Exit->(Nat->AV)->Prop:=λe F=>
 match e with
 | .normal=>Ua F t rcs
 | .ret=>Ua F t rcs
 | _=>False
section
variable{P:Program}{w0 w w1:World}{M S0 S:ah}{N:fm}{φ:Nat->ah}{F:Nat->AV}{a:Act}{TE:Nat->Option TI}
theorem bf.resOne(h:bf w0 M S0 N S φ F a w)(n:∀t i,TE t=some i->iv P t i){r:ResultVar}{K:Option Nat->List C->Prop}(b:resOne TE F r K) :
  ∃ag cs v,K ag cs/\br w S (φ (rW r)) ag cs v/\(Hd a.tmps r).run P w=.ok v w:=by
 cases r with
 | tmp t=>
  have e:=h.slot t;simp only[Ab.resOne]at b;cases p:F t with
  | H k cs=>
   rw[p]at b e;obtain⟨E,Y,G,j,H,A,l⟩:=e;cases k with
   | one=>exact⟨none,cs,tvs a t,b,⟨A,_,rfl,l.mono (λ_ _ h=>h) j⟩,rfl⟩
   | agg=>
    obtain⟨arr,q,u⟩:=A;refine⟨some cs.length,cs,tvs a t,b,⟨rfl,cn w .agg (tvs a t),?_,l.mono (λ_ _ h=>h) j⟩,rfl⟩;rw[q];have:=qn arr;rw[u]at this;exact this
   | _=>exact b.elim
  | _=>grind
 | cell t T=>
  have e:=h.slot t;simp only[Ab.resOne]at b;split at b
  case h_2=>exact b.elim
  rename_i i J;have L:=n _ _ J;cases B:(i.agg || Nat.beq i.size 1) with
  | false=>grind
  | true=>
   rw[B]at b;simp only[cond_true]at b;cases p:F t with
   | H k cs=>
    rw[p]at b e;cases k with
    | box=>
     simp only at b;cases D:Nat.beq cs.length i.size with
     | false=>grind
     | true=>
      rw[D]at b;have O:=C3 D;obtain⟨E,Y,G,j,H,⟨g,o,q,Q⟩,l⟩:=e;have c:∀d,d<i.size->cel w g (o+d)=some (cn w .box (tvs a t) d):=λd R=>by grind [cn]
      have f:=xM (w:=w) L B c;refine⟨_,cs,_,b,⟨by grind [pQ],_,rfl,l.mono (λ_ _ h=>h) j⟩,?_⟩;have y:a.tmps.getD t undef=.pointer (some ⟨g,o,none⟩):=q;simp only[Hd,y,asAddr];exact f
    | _=>exact b.elim
   | _=>grind
def J5{ag:Option Nat}{cs:List C}{v:Value}{Y:ah}(h:br w S Y ag cs v):∃u,v.cells.toList=(List.range cs.length).map u/\cK w S Y cs u/\v=mkv ag u:=by
 obtain⟨a,u,rfl,b⟩:=h;refine⟨u,?_,b,rfl⟩;rw[qp (λe=>by subst e;exact b.one (by simp at a;omega)),a]
theorem Jw{d e:ah}{cs a:List C}{u g:Nat->Value}(h:cK w S d cs u)(h':cK w S e a g)(p:∀b o,d b o->¬e b o) :
  cK w S (λb o=>d b o\/e b o) (cs++a) (λj=>if j<cs.length then u j else g (j - cs.length)):=by
 obtain⟨f,q,r,t⟩:=h;obtain⟨i,k,l,n⟩:=h';refine⟨λj=>if j<cs.length then f j else i (j - cs.length),λj c y=>?_,ψ,ψ⟩
 all_goals grind
theorem bf.resA(h:bf w0 M S0 N S φ F a w)(e:∀t i,TE t=some i->iv P t i):∀{p:List ResultVar}{seen:List Nat}{K:List (Option Nat)->List C->Prop},resA TE F p seen K->
  ∃sh cs vs u,K sh cs/\(p.mapM (Hd a.tmps)).run P w=.ok vs w/\zH sh vs/\sh.length=p.length/\yN sh=cs.length/\
   (vs.flatMap λv=>v.cells.toList)=(List.range cs.length).map u/\(∀ag,sh=[ag]->∃v,vs=[v]/\br w S (λb o=>∃t,t∉seen/\φ t b o) ag cs v)/\cK w S (λb o=>∃t,t∉seen/\φ t b o) cs u
 | [],seen,K,c=>⟨[],[],[],λ_=>undef,c,rfl,trivial,rfl,rfl,rfl,ψ,cK.nil _ _ _ _⟩
 | r::p,seen,K,c=>by
  simp only[Ab.resA]at c;cases d:seen.any (Nat.beq (rW r)) with
  | true=>grind
  | false=>
   rw[d]at c;simp only[cond_false]at c;have L:rW r∉seen:=λY=>by grind [Nat.beq_refl]
   obtain⟨ag,cs,v,c,q,G⟩:=h.resOne e c;obtain⟨sh,f,vs,O,Q,y,A,B,R,hcells,-,g⟩:=bf.resA h e c;obtain⟨u,D,H,k⟩:=J5 q;have T:∀b o,φ (rW r) b o->¬∃t,t∉rW r::seen/\φ t b o:=λb o U ⟨t,Z,E⟩=>h.dis _ _ ψ b o U E
   refine⟨ag::sh,cs++f,v::vs,λj=>if j<cs.length then u j else O (j - cs.length),Q,?_,?_,by simp[B],?_,?_,?_,?_⟩
   ·simp_all
   ·obtain⟨V,-⟩:=q
    cases ag with
    | none=>
     refine⟨?_,A⟩;rw[k];have J:(u 0).oneCell'=true:=H.one (by simp at V;omega);show(u 0).cells = #[u 0];cases W:u 0<;>first|(rw[W]at J;cases J;done)|rfl
    | some n=>exact⟨⟨_,by rw[k];rfl,by simp⟩,A⟩
   ·rw[rD,X4,R,q.1]
   ·simp only[O9,D,hcells,X4]
    apply List.ext_getElem?
    grind
   ·intro X l
    simp only[List.cons.injEq]at l;obtain⟨rfl,rfl⟩:=l;cases vs with
    | cons _ _=>exact A.elim
    | nil=>
     have:f=[]:=IA (by simp_all);subst this;exact⟨v,rfl,by rw[List.append_nil];exact q.mono (λ_ _ h=>h) ψ⟩
   exact(Jw H g T).mono (λ_ _ h=>h) ψ
theorem ur:∀{A:List RA}{vs:List Value}(i:Nat),zR w S A vs->∀t,(lay (wE i A) t=.dead)\/(∃a v,i<=t/\vs[t - i]? = some v/\lay (wE i A) t=VZ a/\nX w S a v)
 | [],_,i,_,t=>.inl rfl
 | a::A,[],i,h,t=>h.elim
 | a::A,v::vs,i,h,t=>by
  simp only[wE,lay];cases b:Nat.beq t i with
  | true=>
   have:=C3 b;subst this;exact .inr ⟨a,v,O4 _,by simp,rfl,h.1⟩
  | false=>
   have c:t≠i:=λe=>by simp_all
   rcases ur (i+1) h.2 t with d|⟨f,g,d,j,k⟩
   all_goals grind
theorem nX.slot{A:RA}{v:Value}(h:nX w S A v){tv:Nat->Value} : cN w S F tv NO (VZ A) v:=by
 cases A with
 | val e cs=>exact br.slot h
 | ptr cs=>obtain⟨g,b,u,a,c,d⟩:=h;exact⟨g,b,u,by rw[a,Nat.add_zero],c,d⟩
 | fn Ok=>exact h
def ER:∀{A:List RA}{vs:List Value},zR w S A vs->A.length=vs.length
 | [],[],_=>rfl
 | _::_,_::_,h=>by simp[ER h.2]
 | [],_::_,h=>h.elim
 | _::_,[],h=>h.elim
variable{ck:Nat->Array Oper->Bool}{rcs: List C}{D: Nat -> Array Oper -> ((Nat -> AV) -> Prop) -> (Nat -> AV) -> Prop}
theorem Nb{f : Nat}{d : Func}{c : Code}{sh : Bool}{A : List RA}{k : Kd}(J : ∀t i, TE t = some i -> iv P t i)(hf : P.funcs[f]? = some d)(hn : (d.name == "runtime.NumGoroutine") = false)(l:d.body=some c)(hD:yf P N ck D)(hc:gw ck c=true)(hN:A.length+(d.ntmps - A.length)=N.n)(hkp:N.kp=[])(R:sh=true\/iq rcs)(hp:aw P TE N D c (TF TE d.results.toList k rcs) (lay (wE 0 A))):ar P f sh A k rcs:=by
 refine⟨⟨d,hf,hn,by rw[l];rfl⟩,λw S q hS hA=>?_⟩;have hlen:=ER hA;refine calls_of_wp hf l ?_;have T:St w NO S N (lay (wE 0 A)) {tmps:=q.toArray++Array.replicate (d.ntmps - q.toArray.size) undef,defers:=[]} w:=by
  refine⟨S,λ_=>NO,λt=>?_,λ_ _ _ _ _ h=>h.elim,λ_ _ _ h=>h.elim,λ_ _ _ h=>h.elim,λ_ _ h=>h,ψ,CY _ _,by simp;omega,rfl,ψ⟩;rcases ur 0 hA t with r|⟨A0,v,-,y,E,h4⟩
  ·rw[r];trivial
  rw[E];have hv:tvs {tmps:=q.toArray++Array.replicate (d.ntmps - q.toArray.size) undef,defers:=[]} t=v:=by
   have hlt:=(O3.1 y).1;simp only[tvs,I9]
   grind
  grind [nX.slot]
 refine j8 J hD c hc _ _ _ _ w hp T λe F' H w' U V=>?_
 obtain⟨W,φ',h⟩:=V;have fin:resA TE F' d.results.toList [] (λsh cs=>js (lc sh) k cs rcs)->H.defers=[]/\∃v,(results d H.tmps).run P w'=.ok v w'/\(∃Z,Ending.returned v=.returned Z/\bw NO w w'/\∃X S1:ah,(∀b o,X b o->b<w'.heap.size/\w.heap.size<=b)/\
     (∀b o,S1 b o->(sh=true/\S b o)\/(b<w'.heap.size/\w.heap.size<=b))/\(∀b o,X b o->¬S1 b o)/\fN w' NO k rcs.length Z/\cK w' S1 X rcs (cn w' k Z)):=by
  intro hr;obtain⟨shs,cs,a,u,K,hrun,p,hln,O,hcells,g,L⟩:=h.resA J hr;obtain⟨rfl,hwk⟩:=K.out;refine⟨h.defers,?_⟩;have G:(results d H.tmps).run P w'=.ok (if h:a.toArray.size=1 then a.toArray[0] else .tuple a.toArray) w':=by
   have e:results d H.tmps=(do let q <-d.results.mapM (Hd H.tmps);pure (if h:q.size=1 then q[0] else .tuple q)):=by
    unfold results
    congr 1
   rw[e,<-Array.toArray_toList (xs:=d.results),List.mapM_toArray]
   simp_all
  refine⟨_,G,_,rfl,h.old,λb o=>∃t,φ' t b o,λb o=>(sh=true/\W b o)\/(W b o/\w.heap.size<=b),λb o ⟨t,l⟩=>⟨(h.ex t b o l).1,(h.ex t b o l).2.resolve_right (λh=>h)⟩,λb o l=>?_,λb o ⟨t,l⟩ hb'=>h.disS t b o l ψ,?_⟩
  ·rcases l with⟨r,y⟩|⟨r,y⟩
   ·rcases(h.sup b o y).2 with E|E|E
    ·grind
    ·exact .inr ⟨(h.sup b o y).1,E⟩
    exact E.elim
   exact .inr ⟨(h.sup b o r).1,y⟩
  have M:fN w' NO (lc shs) cs.length (if h:a.toArray.size=1 then a.toArray[0] else .tuple a.toArray)/\cK w' W (λb o=>∃t,φ' t b o) cs (cn w' (lc shs) (if h:a.toArray.size=1 then a.toArray[0] else .tuple a.toArray)):=by
   have B:∀b o,(∃t,t∉([]:List Nat)/\φ' t b o)->∃t,φ' t b o:=ψ
   match shs,p,g,O with
   | [],p,_,O=>
    cases a with
    | cons _ _=>exact p.elim
    | nil=>
     have:cs=[]:=ψ
     subst this;exact⟨⟨_,rfl,trivial,rfl⟩,cK.nil _ _ _ _⟩
   | [Q],_,g,_=>
    obtain⟨v,rfl,hv⟩:=g Q rfl;have:=(hv.mono (λ_ _ h=>h) B).slot (F:=F') (tv:=tvs H);obtain⟨X1,Y,r,y,E,h4,h5⟩:=this;refine⟨?_,h5.mono (λ_ _ h=>h) y⟩;cases Q<;>exact h4
   | Q::ag2::sh,p,_,O=>
    have hsz:¬a.toArray.size=1:=by
     match a,p with
     | [],p=>simp
     | [v],p=>cases Q<;>cases ag2<;>exact p.2.elim
     | _::_::_,_=>simp
    rw[dif_neg hsz];refine⟨⟨_,rfl,p,O⟩,(L.mono (λ_ _ h=>h) B).congr λj hj=>?_⟩;simp only[cn,lc,nD,hcells];simp[List.getD,hj]
  replace M:=CL M.1 (hwk.row M.2);refine⟨by grind [WK.len],?_⟩;rcases R with r|r
  ·exact M.2.mono ψ (λ_ _ h=>h)
  exact(M.2.fresh r).mono (λ_ _ h=>h.elim) (λ_ _ h=>h)
 cases e with
 | normal=>exact fin U
 | ret=>exact fin U
 | _=>exact U.elim
theorem ND{f t : Nat}{j : Func}{c : Code}{A : List RA}(H : ∀t i, TE t = some i -> iv P t i)(V : P.funcs[f]? = some j)(hn : (j.name == "runtime.NumGoroutine") = false)(a:j.body=some c)(hD:yf P N ck D)(hc:gw ck c=true)(hN:A.length+(j.ntmps - A.length)=N.n)(hkp:N.kp=[])(hr:j.results = #[.tmp t])(hp:aw P TE N D c (VP t rcs) (lay (wE 0 A))):sC P f true A .box rcs:=by
 refine⟨⟨j,V,hn,by rw[a];rfl⟩,λw S B hS W=>?_⟩;have Z:=ER W;refine calls_of_wp V a ?_;have J:St w NO S N (lay (wE 0 A)) {tmps:=B.toArray++Array.replicate (j.ntmps - B.toArray.size) undef,defers:=[]} w:=by
  refine⟨S,λ_=>NO,λt=>?_,λ_ _ _ _ _ h=>h.elim,λ_ _ _ h=>h.elim,λ_ _ _ h=>h.elim,λ_ _ h=>h,ψ,CY _ _,by simp;omega,rfl,ψ⟩;rcases ur 0 W t with E|⟨A0,v,-,F,G,h4⟩
  ·rw[E];trivial
  rw[G];have hv:tvs {tmps:=B.toArray++Array.replicate (j.ntmps - B.toArray.size) undef,defers:=[]} t=v:=by
   have hlt:=(O3.1 F).1;simp only[tvs,I9]
   grind
  grind [nX.slot]
 refine j8 H hD c hc _ _ _ _ w hp J λe F' p w' K L=>?_
 obtain⟨S',φ',h⟩:=L;have fin:Ua F' t rcs->p.defers=[]/\∃v,(results j p.tmps).run P w'=.ok v w'/\(∃M,Ending.returned v=.returned M/\bw NO w w'/\∃X S1:ah,(∀b o,X b o->b<w'.heap.size/\w.heap.size<=b)/\
     (∀b o,S1 b o->(true=true/\S b o)\/(b<w'.heap.size/\w.heap.size<=b))/\(∀b o,X b o->¬S1 b o)/\∃q Y:ah,(∀b o,q b o->X b o)/\(∀b o,Y b o->X b o)/\(∀b o,q b o->¬Y b o)/\fN w' q .box rcs.length M/\cK w' S1 Y rcs (cn w' .box M)):=by
  intro k;have core:∃(d:Nat)(cs:List C),tvs p t=tvs p d/\F' d=.H .box cs/\js .box .box cs rcs:=by
   unfold Ua at k;split at k
   ·grind
   ·rename_i d O
    split at k
    case h_2=>exact k.elim
    rename_i cs r;refine⟨d,cs,?_,r,k⟩;have u:=h.slot t;rw[O]at u;obtain⟨k0,cs0,r0,j0,g0,o0,Q,-,e3,e4⟩:=u;have y:=h.slot d;rw[r]at y;rw[r]at Q;simp only[AV.H.injEq]at Q;obtain⟨rfl,rfl⟩:=Q;obtain⟨q,Y,E,F,G,⟨g,o,hv,-⟩,h5⟩:=y
    grind [plc,pb]
   exact k.elim
  obtain⟨d,cs,R,r,k⟩:=core;have T:=k.out.2;have y:=h.slot d;rw[r]at y;obtain⟨q,Y,E,F,G,h4,h5⟩:=y;refine⟨h.defers,tvs p d,?_,tvs p d,rfl,h.old,φ' d,λb o=>S' b o/\(S b o\/w.heap.size<=b),λb o a=>⟨(h.ex d b o a).1,(h.ex d b o a).2.resolve_right (λh=>h)⟩,λb o a=>?_,λb o a U=>h.disS d b o a U.1,q,Y,E,F,G,?_,?_⟩
  ·rw[<-R];simp[results,hr,tvs]
  ·rcases a.2 with l|l
   ·grind
   exact .inr ⟨(h.sup b o a.1).1,l⟩
  ·grind [WK.len]
  exact(T.row h5).mono (λb o a=>⟨a,by
    rcases(h.sup b o a).2 with l|l|l
    · exact .inl l
    · exact .inr l
    exact l.elim⟩) (λ_ _ h=>h)
 cases e with
 | normal=>exact fin K
 | ret=>exact fin K
 | _=>exact K.elim
end
def DF(P:Program)(TE:Nat->Option TI)(N:fm)(tb:List (Nat × Nat × List Nat))(id:Nat)(ops:Array Oper)(K:(Nat->AV)->Prop)(F:Nat->AV):Prop:=
 match xA tb (id+1048576) with
 | some (t,offs)=>tc t offs (DD P TE N tb id ops K) F
 | none=>DD P TE N tb id ops K F
variable{P:Program}
def rN{TE:Nat->Option TI}(a:∀t i,TE t=some i->iv P t i)(e:P.follows .mixedOrders=true)(N:fm)(tb:List (Nat × Nat × List Nat)):yf P N (od tb) (DF P TE N tb):=
 λ_ _ b _ _ _ _ _ _ _ _ c f g=>by
  unfold DF at c;split at c
  ·obtain⟨j,h,d⟩:=xp c f
   exact y5 a e b h d g
  exact y5 a e b c f g
def L8:List (Nat × TI)->Nat->Option TI
 | [],_=>none
 | p::l,t=>bif Nat.beq t p.1 then some p.2 else L8 l t
def UK(P:Program):List (Nat × TI)->Prop
 | []=>True
 | p::l=>iv P p.1 p.2/\UK P l
def HA{P:Program} : ∀{l:List (Nat × TI)},UK P l->∀t i,L8 l t=some i->iv P t i
 | [],_,t,i,h=>by cases h
 | p::l,b,t,i,h=>by
  simp only[L8]at h;cases a:Nat.beq t p.1 with
  | true=>
   rw[a]at h;simp only[cond_true,I1]at h;have:=C3 a;subst this h;exact b.1
  | false=>rw[a]at h;exact HA b.2 t i h
def Wf:TypeDesc->Prop
 | .struct _=>False
 | .array _ _=>False
 | _=>True
variable{t:Nat}
def EP{i:TI}{d:TypeDesc}(h:P.underlying t=some d)(k:i.kind=.sc d:=by rfl)(a:(P.info? t).map (λx=>(x.zero.map (·.cells.toList),x.size,x.bytes))=some (some (i.zero.map cval),i.size,i.bytes):=by kernel_rfl)(z:kS i.zero:=by repeat' first|exact trivial|refine CL rfl ?_)(n:Wf d:=by trivial):iv P t i:=⟨a,z,by rw[k];refine⟨h,?_⟩;revert n;cases d<;>exact id⟩
def u7{e:Nat}{i:TI}(h:P.underlying t=some (.slice e))(k:i.kind=.sl e:=by rfl)(a:(P.info? t).map (λx=>(x.zero.map (·.cells.toList),x.size,x.bytes))=some (some (i.zero.map cval),i.size,i.bytes):=by kernel_rfl)(z:kS i.zero:=by repeat' first|exact trivial|refine CL rfl ?_):iv P t i:=⟨a,z,by rw[k];exact h⟩
def fI{i:TI}{fs}(h:P.underlying t=some (.struct fs))(k:i.kind=.st (fs.toList.map (λf=>(f.offset,f.type))):=by rfl)(a:(P.info? t).map (λx=>(x.zero.map (·.cells.toList),x.size,x.bytes))=some (some (i.zero.map cval),i.size,i.bytes):=by kernel_rfl)(z:kS i.zero:=by repeat' first|exact trivial|refine CL rfl ?_):iv P t i:=⟨a,z,by rw[k];exact⟨_,h,rfl⟩⟩
def Wy{e:Nat}{i:TI}{v:Value}(h:P.underlying t=some (.map 3 e))(d:P.underlying 3=some (.int .i64))(k:i.kind=.mp 3 e v:=by rfl)(a:(P.info? t).map (λx=>(x.zero.map (·.cells.toList),x.size,x.bytes))=some (some (i.zero.map cval),i.size,i.bytes):=by kernel_rfl)(z:kS i.zero:=by repeat' first|exact trivial|refine CL rfl ?_)(b:(P.info? e).bind (·.zero)=some v:=by kernel_rfl)(c:v.oneCell'=true:=by rfl):iv P t i:=⟨a,z,by rw[k];exact⟨h,d,b,c⟩⟩
def ti3:TI:=⟨1,8,[.v (.int .i64 0)],.sc (.int .i64)⟩
def ti4:TI:=⟨1,1,[.v (.bool false)],.sc .bool⟩
def ti2:TI:=⟨1,8,[.v (.int .i64 0)],.sc (.int .i64)⟩
def ti5:TI:=⟨1,1,[.v (.int .u8 0)],.sc (.int .u8)⟩
def ti6:TI:=⟨1,1,[.v (.int .u8 0)],.sc (.int .u8)⟩
def ti7:TI:=⟨4,24,[.v (.int .i64 0),.v (.int .i64 0),.v (.bool false),.v (.int .u8 0)],.st [(0,2),(1,3),(2,4),(3,6)]⟩
def ti8:TI:=⟨4,24,[.v (.int .i64 0),.v (.int .i64 0),.v (.bool false),.v (.int .u8 0)],.st [(0,2),(1,3),(2,4),(3,6)]⟩
def ti9:TI:=⟨1,16,[.v (.string ⟨#[]⟩)],.sc .string⟩
def ti10:TI:=⟨1,16,[.v (.string ⟨#[]⟩)],.sc .string⟩
def ti11:TI:=⟨1,16,[.v (.string ⟨#[]⟩)],.sc .string⟩
def ti12:TI:=⟨1,8,[.v (.int .u64 0)],.sc (.int .u64)⟩
def ti13:TI:=⟨2,24,[.v (.string ⟨#[]⟩),.v (.int .u64 0)],.st [(0,9),(1,12)]⟩
def ti14:TI:=⟨2,24,[.v (.string ⟨#[]⟩),.v (.int .u64 0)],.st [(0,9),(1,12)]⟩
def ti21:TI:=⟨1,4,[.v (.int .i32 0)],.sc (.int .i32)⟩
def ti22:TI:=⟨1,24,[.z],.sl 5⟩
def ti24:TI:=⟨1,24,[.z],.sl 33⟩
def ti25:TI:=⟨1,24,[.z],.sl 4⟩
def ti26:TI:=⟨2,48,[.z,.z],.st [(0,24),(1,25)]⟩
def ti27:TI:=⟨2,48,[.z,.z],.st [(0,24),(1,25)]⟩
def ti28:TI:=⟨1,24,[.z],.sl 82⟩
def ti29:TI:=⟨1,24,[.z],.st [(0,28)]⟩
def ti30:TI:=⟨1,24,[.z],.st [(0,28)]⟩
def ti31:TI:=⟨3,72,[.z,.z,.z],.st [(0,27),(2,30)]⟩
def ti32:TI:=⟨3,72,[.z,.z,.z],.st [(0,27),(2,30)]⟩
def ti33:TI:=⟨1,24,[.z],.sl 3⟩
def ti34:TI:=⟨5,104,[.z,.z,.z,.v (.int .i64 0),.z],.st [(0,32),(3,3),(4,33)]⟩
def ti35:TI:=⟨5,104,[.z,.z,.z,.v (.int .i64 0),.z],.st [(0,32),(3,3),(4,33)]⟩
def ti36:TI:=⟨1,24,[.z],.sl 180⟩
def ti37:TI:=⟨1,24,[.z],.sl 267⟩
def ti38:TI:=⟨1,24,[.z],.sl 175⟩
def ti39:TI:=⟨1,24,[.z],.sl 74⟩
def ti40:TI:=⟨1,24,[.z],.sl 158⟩
def ti41:TI:=⟨1,24,[.z],.sl 192⟩
def ti42:TI:=⟨2,48,[.z,.z],.st [(0,41),(1,24)]⟩
def ti43:TI:=⟨2,48,[.z,.z],.st [(0,41),(1,24)]⟩
def ti44:TI:=⟨1,24,[.z],.sl 190⟩
def ti45:TI:=⟨2,32,[.v (.int .i64 0),.z],.st [(0,3),(1,44)]⟩
def ti46:TI:=⟨2,32,[.v (.int .i64 0),.z],.st [(0,3),(1,44)]⟩
def ti47:TI:=⟨3,40,[.v (.int .i64 0),.v (.int .i64 0),.z],.st [(0,3),(1,3),(2,33)]⟩
def ti48:TI:=⟨3,40,[.v (.int .i64 0),.v (.int .i64 0),.z],.st [(0,3),(1,3),(2,33)]⟩
def ti49:TI:=⟨5,56,[.v (.int .i64 0),.v (.int .i64 0),.z,.v (.int .i64 0),.v (.int .i64 0)],.st [(0,48),(3,3),(4,3)]⟩
def ti50:TI:=⟨5,56,[.v (.int .i64 0),.v (.int .i64 0),.z,.v (.int .i64 0),.v (.int .i64 0)],.st [(0,48),(3,3),(4,3)]⟩
def ti51:TI:=⟨24,400,[.z,.z,.z,.v (.int .i64 0),.z,.z,.z,.z,.z,.z,.z,.z,.v (.int .i64 0),.z,.v (.int .i64 0),.v (.int .i64 0),.v (.int .i64 0),.v (.int .i64 0),.v (.bool false),.v (.int .i64 0),.v (.int .i64 0),.z,.v (.int .i64 0),.v (.int .i64 0)],.st [(0,35),(5,36),(6,37),(7,38),(8,39),(9,40),(10,43),(12,46),(14,3),(15,3),(16,3),(17,3),(18,4),(19,50)]⟩
def ti52:TI:=⟨24,400,[.z,.z,.z,.v (.int .i64 0),.z,.z,.z,.z,.z,.z,.z,.z,.v (.int .i64 0),.z,.v (.int .i64 0),.v (.int .i64 0),.v (.int .i64 0),.v (.int .i64 0),.v (.bool false),.v (.int .i64 0),.v (.int .i64 0),.z,.v (.int .i64 0),.v (.int .i64 0)],.st [(0,35),(5,36),(6,37),(7,38),(8,39),(9,40),(10,43),(12,46),(14,3),(15,3),(16,3),(17,3),(18,4),(19,50)]⟩
def ti53:TI:=⟨1,24,[.z],.sl 325⟩
def ti54:TI:=⟨2,32,[.v (.int .i64 0),.z],.st [(0,3),(1,53)]⟩
def ti55:TI:=⟨2,32,[.v (.int .i64 0),.z],.st [(0,3),(1,53)]⟩
def ti56:TI:=⟨26,432,[.z,.z,.z,.v (.int .i64 0),.z,.z,.z,.z,.z,.z,.z,.z,.v (.int .i64 0),.z,.v (.int .i64 0),.v (.int .i64 0),.v (.int .i64 0),.v (.int .i64 0),.v (.bool false),.v (.int .i64 0),.v (.int .i64 0),.z,.v (.int .i64 0),.v (.int .i64 0),.v (.int .i64 0),.z],.st [(0,52),(24,55)]⟩
def ti57:TI:=⟨26,432,[.z,.z,.z,.v (.int .i64 0),.z,.z,.z,.z,.z,.z,.z,.z,.v (.int .i64 0),.z,.v (.int .i64 0),.v (.int .i64 0),.v (.int .i64 0),.v (.int .i64 0),.v (.bool false),.v (.int .i64 0),.v (.int .i64 0),.z,.v (.int .i64 0),.v (.int .i64 0),.v (.int .i64 0),.z],.st [(0,52),(24,55)]⟩
def ti73:TI:=⟨4,32,[.v (.int .i64 0),.v (.int .i64 0),.v (.int .i64 0),.v (.int .i64 0)],.st [(0,3),(1,3),(2,3),(3,3)]⟩
def ti74:TI:=⟨4,32,[.v (.int .i64 0),.v (.int .i64 0),.v (.int .i64 0),.v (.int .i64 0)],.st [(0,3),(1,3),(2,3),(3,3)]⟩
def ti77:TI:=⟨1,24,[.z],.sl 168⟩
def ti81:TI:=⟨2,16,[.v (.int .i64 0),.v (.int .i64 0)],.st [(0,3),(1,3)]⟩
def ti82:TI:=⟨2,16,[.v (.int .i64 0),.v (.int .i64 0)],.st [(0,3),(1,3)]⟩
def ti86:TI:=⟨5,56,[.v (.int .i64 0),.v (.int .i64 0),.v (.int .i64 0),.v (.int .i64 0),.z],.st [(0,3),(1,3),(2,3),(3,3),(4,33)]⟩
def ti87:TI:=⟨5,56,[.v (.int .i64 0),.v (.int .i64 0),.v (.int .i64 0),.v (.int .i64 0),.z],.st [(0,3),(1,3),(2,3),(3,3),(4,33)]⟩
def ti88:TI:=⟨1,24,[.z],.sl 199⟩
def ti97:TI:=⟨2,48,[.z,.z],.st [(0,24),(1,25)]⟩
def ti98:TI:=⟨1,24,[.z],.sl 515⟩
def ti99:TI:=⟨1,24,[.z],.st [(0,98)]⟩
def ti100:TI:=⟨1,24,[.z],.st [(0,98)]⟩
def ti101:TI:=⟨3,72,[.z,.z,.z],.st [(0,97),(2,100)]⟩
def ti102:TI:=⟨3,72,[.z,.z,.z],.st [(0,97),(2,100)]⟩
def ti103:TI:=⟨5,104,[.z,.z,.z,.v (.int .i64 0),.z],.st [(0,102),(3,3),(4,33)]⟩
def ti104:TI:=⟨5,104,[.z,.z,.z,.v (.int .i64 0),.z],.st [(0,102),(3,3),(4,33)]⟩
def ti105:TI:=⟨1,24,[.z],.sl 343⟩
def ti106:TI:=⟨1,24,[.z],.sl 345⟩
def ti107:TI:=⟨1,24,[.z],.sl 347⟩
def ti108:TI:=⟨1,24,[.z],.sl 349⟩
def ti109:TI:=⟨1,24,[.z],.sl 336⟩
def ti110:TI:=⟨1,24,[.z],.sl 436⟩
def ti111:TI:=⟨2,48,[.z,.z],.st [(0,110),(1,24)]⟩
def ti112:TI:=⟨2,48,[.z,.z],.st [(0,110),(1,24)]⟩
def ti113:TI:=⟨1,24,[.z],.sl 441⟩
def ti114:TI:=⟨2,32,[.v (.int .i64 0),.z],.st [(0,3),(1,113)]⟩
def ti115:TI:=⟨2,32,[.v (.int .i64 0),.z],.st [(0,3),(1,113)]⟩
def ti116:TI:=⟨3,40,[.v (.int .i64 0),.v (.int .i64 0),.z],.st [(0,3),(1,3),(2,33)]⟩
def ti117:TI:=⟨5,56,[.v (.int .i64 0),.v (.int .i64 0),.z,.v (.int .i64 0),.v (.int .i64 0)],.st [(0,116),(3,3),(4,3)]⟩
def ti118:TI:=⟨5,56,[.v (.int .i64 0),.v (.int .i64 0),.z,.v (.int .i64 0),.v (.int .i64 0)],.st [(0,116),(3,3),(4,3)]⟩
def ti119:TI:=⟨24,400,[.z,.z,.z,.v (.int .i64 0),.z,.z,.z,.z,.z,.z,.z,.z,.v (.int .i64 0),.z,.v (.int .i64 0),.v (.int .i64 0),.v (.int .i64 0),.v (.int .i64 0),.v (.bool false),.v (.int .i64 0),.v (.int .i64 0),.z,.v (.int .i64 0),.v (.int .i64 0)],.st [(0,104),(5,105),(6,106),(7,107),(8,108),(9,109),(10,112),(12,115),(14,3),(15,3),(16,3),(17,3),(18,4),(19,118)]⟩
def ti120:TI:=⟨24,400,[.z,.z,.z,.v (.int .i64 0),.z,.z,.z,.z,.z,.z,.z,.z,.v (.int .i64 0),.z,.v (.int .i64 0),.v (.int .i64 0),.v (.int .i64 0),.v (.int .i64 0),.v (.bool false),.v (.int .i64 0),.v (.int .i64 0),.z,.v (.int .i64 0),.v (.int .i64 0)],.st [(0,104),(5,105),(6,106),(7,107),(8,108),(9,109),(10,112),(12,115),(14,3),(15,3),(16,3),(17,3),(18,4),(19,118)]⟩
def ti126:TI:=⟨5,56,[.v (.int .i64 0),.v (.int .i64 0),.v (.int .i64 0),.v (.int .i64 0),.z],.st [(0,3),(1,3),(2,3),(3,3),(4,33)]⟩
def ti127:TI:=⟨1,24,[.z],.sl 254⟩
def ti157:TI:=⟨1,24,[.z],.st [(0,24)]⟩
def ti158:TI:=⟨1,24,[.z],.st [(0,24)]⟩
def ti167:TI:=⟨3,24,[.v (.int .i64 0),.v (.int .i64 0),.v (.int .i64 0)],.st [(0,3),(1,3),(2,3)]⟩
def ti168:TI:=⟨3,24,[.v (.int .i64 0),.v (.int .i64 0),.v (.int .i64 0)],.st [(0,3),(1,3),(2,3)]⟩
def ti174:TI:=⟨3,24,[.v (.int .i64 0),.v (.int .i64 0),.v (.int .i64 0)],.st [(0,3),(1,3),(2,3)]⟩
def ti175:TI:=⟨3,24,[.v (.int .i64 0),.v (.int .i64 0),.v (.int .i64 0)],.st [(0,3),(1,3),(2,3)]⟩
def ti179:TI:=⟨2,16,[.v (.int .i64 0),.v (.int .i64 0)],.st [(0,3),(1,3)]⟩
def ti180:TI:=⟨2,16,[.v (.int .i64 0),.v (.int .i64 0)],.st [(0,3),(1,3)]⟩
def ti185:TI:=⟨2,16,[.v (.int .i64 0),.v (.int .i64 0)],.st [(0,3),(1,3)]⟩
def ti186:TI:=⟨2,16,[.v (.int .i64 0),.v (.int .i64 0)],.st [(0,3),(1,3)]⟩
def ti189:TI:=⟨3,24,[.v (.int .i64 0),.v (.int .i64 0),.v (.int .i64 0)],.st [(0,3),(1,3),(2,3)]⟩
def ti190:TI:=⟨3,24,[.v (.int .i64 0),.v (.int .i64 0),.v (.int .i64 0)],.st [(0,3),(1,3),(2,3)]⟩
def ti192:TI:=⟨1,24,[.z],.sl 186⟩
def ti198:TI:=⟨5,40,[.v (.int .i64 0),.v (.int .i64 0),.v (.int .i64 0),.v (.int .i64 0),.v (.int .i64 0)],.st [(0,3),(1,3),(2,3),(3,3),(4,3)]⟩
def ti199:TI:=⟨5,40,[.v (.int .i64 0),.v (.int .i64 0),.v (.int .i64 0),.v (.int .i64 0),.v (.int .i64 0)],.st [(0,3),(1,3),(2,3),(3,3),(4,3)]⟩
def ti210:TI:=⟨8,64,[.v (.int .i64 0),.v (.int .i64 0),.v (.int .i64 0),.v (.int .i64 0),.v (.int .i64 0),.v (.int .i64 0),.v (.int .i64 0),.v (.int .i64 0)],.st [(0,3),(1,3),(2,3),(3,3),(4,3),(5,3),(6,3),(7,3)]⟩
def ti211:TI:=⟨8,64,[.v (.int .i64 0),.v (.int .i64 0),.v (.int .i64 0),.v (.int .i64 0),.v (.int .i64 0),.v (.int .i64 0),.v (.int .i64 0),.v (.int .i64 0)],.st [(0,3),(1,3),(2,3),(3,3),(4,3),(5,3),(6,3),(7,3)]⟩
def ti254:TI:=⟨5,40,[.v (.int .i64 0),.v (.int .i64 0),.v (.int .i64 0),.v (.int .i64 0),.v (.int .i64 0)],.st [(0,3),(1,3),(2,3),(3,3),(4,3)]⟩
def ti256:TI:=⟨3,40,[.z,.v (.int .i64 0),.v (.int .i64 0)],.st [(0,22),(1,3),(2,3)]⟩
def ti257:TI:=⟨3,40,[.z,.v (.int .i64 0),.v (.int .i64 0)],.st [(0,22),(1,3),(2,3)]⟩
def ti266:TI:=⟨3,24,[.v (.int .i64 0),.v (.int .i64 0),.v (.int .i64 0)],.st [(0,3),(1,3),(2,3)]⟩
def ti267:TI:=⟨3,24,[.v (.int .i64 0),.v (.int .i64 0),.v (.int .i64 0)],.st [(0,3),(1,3),(2,3)]⟩
def ti281:TI:=⟨1,8,[.v (.map none)],.mp 3 4 (.bool false)⟩
def ti289:TI:=⟨4,32,[.v (.int .i64 0),.v (.int .i64 0),.v (.int .i64 0),.v (.int .i64 0)],.st [(0,3),(1,3),(2,3),(3,3)]⟩
def ti290:TI:=⟨4,32,[.v (.int .i64 0),.v (.int .i64 0),.v (.int .i64 0),.v (.int .i64 0)],.st [(0,3),(1,3),(2,3),(3,3)]⟩
def ti292:TI:=⟨1,8,[.v (.map none)],.mp 3 3 (.int .i64 0)⟩
def ti304:TI:=⟨1,8,[.v (.int .u64 0)],.sc (.int .u64)⟩
def ti324:TI:=⟨2,32,[.v (.int .i64 0),.z],.st [(0,3),(1,33)]⟩
def ti325:TI:=⟨2,32,[.v (.int .i64 0),.z],.st [(0,3),(1,33)]⟩
def ti336:TI:=⟨1,24,[.z],.st [(0,24)]⟩
def ti343:TI:=⟨2,16,[.v (.int .i64 0),.v (.int .i64 0)],.st [(0,3),(1,3)]⟩
def ti345:TI:=⟨3,24,[.v (.int .i64 0),.v (.int .i64 0),.v (.int .i64 0)],.st [(0,3),(1,3),(2,3)]⟩
def ti347:TI:=⟨3,24,[.v (.int .i64 0),.v (.int .i64 0),.v (.int .i64 0)],.st [(0,3),(1,3),(2,3)]⟩
def ti349:TI:=⟨4,32,[.v (.int .i64 0),.v (.int .i64 0),.v (.int .i64 0),.v (.int .i64 0)],.st [(0,3),(1,3),(2,3),(3,3)]⟩
def ti398:TI:=⟨1,24,[.z],.sl 404⟩
def ti403:TI:=⟨2,16,[.v (.int .i64 0),.v (.int .i64 0)],.st [(0,3),(1,3)]⟩
def ti404:TI:=⟨2,16,[.v (.int .i64 0),.v (.int .i64 0)],.st [(0,3),(1,3)]⟩
def ti408:TI:=⟨1,8,[.v (.int .i64 0)],.sc (.int .i64)⟩
def ti415:TI:=⟨1,4,[.v (.int .u32 0)],.sc (.int .u32)⟩
def ti417:TI:=⟨1,8,[.v (.int .u64 0)],.sc (.int .u64)⟩
def ti436:TI:=⟨1,24,[.z],.sl 491⟩
def ti441:TI:=⟨3,24,[.v (.int .i64 0),.v (.int .i64 0),.v (.int .i64 0)],.st [(0,3),(1,3),(2,3)]⟩
def ti470:TI:=⟨1,8,[.v (.int .u64 0)],.sc (.int .u64)⟩
def ti491:TI:=⟨2,16,[.v (.int .i64 0),.v (.int .i64 0)],.st [(0,3),(1,3)]⟩
def ti515:TI:=⟨2,16,[.v (.int .i64 0),.v (.int .i64 0)],.st [(0,3),(1,3)]⟩
def ti528:TI:=⟨0,0,[],.st [(0,527)]⟩
def ti529:TI:=⟨0,0,[],.st [(0,527)]⟩
def ti531:TI:=⟨1,1,[.v (.int .u8 0)],.sc (.int .u8)⟩
def ti532:TI:=⟨1,1,[.v (.int .u8 0)],.sc (.int .u8)⟩
def ti535:TI:=⟨1,4,[.v (.int .i32 0)],.sc (.int .i32)⟩
def ti536:TI:=⟨1,4,[.v (.int .i32 0)],.sc (.int .i32)⟩
def tab:List (Nat × TI):=[(3,ti3),(4,ti4),(2,ti2),(5,ti5),(6,ti6),(7,ti7),(8,ti8),(9,ti9),(10,ti10),(11,ti11),(12,ti12),(13,ti13),(14,ti14),(21,ti21),(22,ti22),(24,ti24),(25,ti25),(26,ti26),(27,ti27),(28,ti28),(29,ti29),(30,ti30),(31,ti31),(32,ti32),(33,ti33),(34,ti34),(35,ti35),(36,ti36),(37,ti37),(38,ti38),(39,ti39),(40,ti40),(41,ti41),(42,ti42),(43,ti43),(44,ti44),(45,ti45),(46,ti46),(47,ti47),(48,ti48),(49,ti49),(50,ti50),(51,ti51),(52,ti52),(53,ti53),(54,ti54),(55,ti55),(56,ti56),(57,ti57),(73,ti73),(74,ti74),(77,ti77),(81,ti81),(82,ti82),(86,ti86),(87,ti87),(88,ti88),(97,ti97),(98,ti98),(99,ti99),(100,ti100),(101,ti101),(102,ti102),(103,ti103),(104,ti104),(105,ti105),(106,ti106),(107,ti107),(108,ti108),(109,ti109),(110,ti110),(111,ti111),(112,ti112),(113,ti113),(114,ti114),(115,ti115),(116,ti116),(117,ti117),(118,ti118),(119,ti119),(120,ti120),(126,ti126),(127,ti127),(157,ti157),(158,ti158),(167,ti167),(168,ti168),(174,ti174),(175,ti175),(179,ti179),(180,ti180),(185,ti185),(186,ti186),(189,ti189),(190,ti190),(192,ti192),(198,ti198),(199,ti199),(210,ti210),(211,ti211),(254,ti254),(256,ti256),(257,ti257),(266,ti266),(267,ti267),(281,ti281),(289,ti289),(290,ti290),(292,ti292),(304,ti304),(324,ti324),(325,ti325),(336,ti336),(343,ti343),(345,ti345),(347,ti347),(349,ti349),(398,ti398),(403,ti403),(404,ti404),(408,ti408),(415,ti415),(417,ti417),(436,ti436),(441,ti441),(470,ti470),(491,ti491),(515,ti515),(528,ti528),(529,ti529),(531,ti531),(532,ti532),(535,ti535),(536,ti536)]
abbrev zzA:=ar Tryz.prog
abbrev zzB:=bg Tryz.prog
def Vl:UK Tryz.prog tab:=⟨EP Tryz.underlying3,EP Tryz.underlying4,EP Tryz.underlying2,EP Tryz.underlying5,EP Tryz.underlying6,fI Tryz.underlying7,fI Tryz.underlying8,EP Tryz.underlying9,EP Tryz.underlying10,EP Tryz.underlying11,EP Tryz.underlying12,fI Tryz.underlying13,fI Tryz.underlying14,EP Tryz.underlying21,u7 Tryz.underlying22,u7 Tryz.underlying24,u7 Tryz.underlying25,fI Tryz.underlying26,fI Tryz.underlying27,u7 Tryz.underlying28,fI Tryz.underlying29,fI Tryz.underlying30,fI Tryz.underlying31,fI Tryz.underlying32,u7 Tryz.underlying33,fI Tryz.underlying34,fI Tryz.underlying35,u7 Tryz.underlying36,u7 Tryz.underlying37,u7 Tryz.underlying38,u7 Tryz.underlying39,u7 Tryz.underlying40,u7 Tryz.underlying41,fI Tryz.underlying42,fI Tryz.underlying43,u7 Tryz.underlying44,fI Tryz.underlying45,fI Tryz.underlying46,fI Tryz.underlying47,fI Tryz.underlying48,fI Tryz.underlying49,fI Tryz.underlying50,fI Tryz.underlying51,fI Tryz.underlying52,u7 Tryz.underlying53,fI Tryz.underlying54,fI Tryz.underlying55,fI Tryz.underlying56,fI Tryz.underlying57,fI Tryz.underlying73,fI Tryz.underlying74,u7 Tryz.underlying77,fI Tryz.underlying81,fI Tryz.underlying82,fI Tryz.underlying86,fI Tryz.underlying87,u7 Tryz.underlying88,fI Tryz.underlying97,u7 Tryz.underlying98,fI Tryz.underlying99,fI Tryz.underlying100,fI Tryz.underlying101,fI Tryz.underlying102,fI Tryz.underlying103,fI Tryz.underlying104,u7 Tryz.underlying105,u7 Tryz.underlying106,u7 Tryz.underlying107,u7 Tryz.underlying108,u7 Tryz.underlying109,u7 Tryz.underlying110,fI Tryz.underlying111,fI Tryz.underlying112,u7 Tryz.underlying113,fI Tryz.underlying114,fI Tryz.underlying115,fI Tryz.underlying116,fI Tryz.underlying117,fI Tryz.underlying118,fI Tryz.underlying119,fI Tryz.underlying120,fI Tryz.underlying126,u7 Tryz.underlying127,fI Tryz.underlying157,fI Tryz.underlying158,fI Tryz.underlying167,fI Tryz.underlying168,fI Tryz.underlying174,fI Tryz.underlying175,fI Tryz.underlying179,fI Tryz.underlying180,fI Tryz.underlying185,fI Tryz.underlying186,fI Tryz.underlying189,fI Tryz.underlying190,u7 Tryz.underlying192,fI Tryz.underlying198,fI Tryz.underlying199,fI Tryz.underlying210,fI Tryz.underlying211,fI Tryz.underlying254,fI Tryz.underlying256,fI Tryz.underlying257,fI Tryz.underlying266,fI Tryz.underlying267,Wy Tryz.underlying281 Tryz.underlying3,fI Tryz.underlying289,fI Tryz.underlying290,Wy Tryz.underlying292 Tryz.underlying3,EP Tryz.underlying304,fI Tryz.underlying324,fI Tryz.underlying325,fI Tryz.underlying336,fI Tryz.underlying343,fI Tryz.underlying345,fI Tryz.underlying347,fI Tryz.underlying349,u7 Tryz.underlying398,fI Tryz.underlying403,fI Tryz.underlying404,EP Tryz.underlying408,EP Tryz.underlying415,EP Tryz.underlying417,u7 Tryz.underlying436,fI Tryz.underlying441,EP Tryz.underlying470,fI Tryz.underlying491,fI Tryz.underlying515,fI Tryz.underlying528,fI Tryz.underlying529,EP Tryz.underlying531,EP Tryz.underlying532,EP Tryz.underlying535,EP Tryz.underlying536,trivial⟩
def TE:Nat->Option TI:=L8 tab
def mF:∀t i,TE t=some i->iv Tryz.prog t i:=HA Vl
def UW:C->Value->C
 | .s .own rows,v=>.s (.tag v) rows
 | c,_=>c
def A4(u:Nat->Value):Nat->List C->List C
 | _,[]=>[]
 | j,c::cs=>UW c (u j)::A4 u (j+1) cs
def zF(u:Nat->Nat->Value):Nat->List MA->List (Nat × AV)
 | _,[]=>[]
 | i,.val a cs::A=>(i,.H (m7 a) cs)::zF u (i+1) A
 | i,.mut a cs::A=>(i,.H (m7 a) (A4 (u i) 0 cs))::zF u (i+1) A
 | i,.ptr cs::A=>(i,.H .box cs)::zF u (i+1) A
def LB(p:Nat->Value):Nat->List MA->List (Nat × Value)
 | _,[]=>[]
 | i,.ptr _::A=>(i,p i)::LB p (i+1) A
 | i,_::A=>LB p (i+1) A
def G1:Nat->List MA->List (Nat × Nat)->List (Option Nat)
 | i,.val _ _::A,_::pl=>none::G1 (i+1) A pl
 | i,.mut _ _::A,p::pl=>some p.1::G1 (i+1) A pl
 | i,.ptr _::A,_::pl=>some i::G1 (i+1) A pl
 | _,_,_=>[]
def JQ:List (Option Nat)->Bool
 | []=>true
 | none::l=>JQ l
 | some t::l=>l.all (λx=>match x with|some a=>!Nat.beq t a|none=>true)&&JQ l
def sles:List (Option Nat)->List Nat
 | []=>[]
 | none::l=>sles l
 | some t::l=>t::sles l
def Wc(v:Value)(c y o:C):Prop:=
 match c with
 | .s .own _=>(match y with|.s (.tag v') rows=>v'=v/\o=.s .own rows|_=>False)
 | .s (.tag _) _=>False
 | .m _=>False
 | .it _ _=>False
 | c=>o=c
def Ug(u:Nat->Value):Nat->List C->List C->List C->Prop
 | _,[],_,o=>o=[]
 | j,c::cs,y::xs,o::os=>Wc (u j) c y o/\Ug u (j+1) cs xs os
 | _,_,_,_=>False
def ja(u:Nat->Nat->Value)(F:Nat->AV):Nat->List MA->List (Nat × Nat)->List MA->Prop
 | _,[],_,[]=>True
 | i,.val _ _::A,_::pl,.val _ _::B=>ja u F (i+1) A pl B
 | i,.mut ag cs::A,p::pl,.mut a out::B=>(a=ag/\match F p.1 with|.H _ xs=>Ug (u i) 0 cs (xs.drop p.2) out|_=>False)/\ja u F (i+1) A pl B
 | i,.ptr _::A,_::pl,.ptr out::B=>(match F i with|.H .box xs=>xs=out|_=>False)/\ja u F (i+1) A pl B
 | _,_,_,_=>False
inductive cq(k k':Kd)(cs cs':List C)(Q:Prop):Prop
 |mk_ (h:k=k'/\cs=cs'/\Q)
theorem cq.mk{b:Kd}{Q:Prop}(h1:k=b)(c:cs=a)(d:Q):cq k b cs a Q:=by refine .mk_ ?_;grind
def CO:type_of% @cq.mk:=@cq.mk
def cq.out{b:Kd}{Q:Prop}(h:cq k b cs a Q):k=b/\cs=a/\Q:=by obtain⟨h⟩:=h;exact h
def Va(TE:Nat->Option TI)(c:List ResultVar)(k:Kd)(rcs:List C)(u:Nat->Nat->Value)(A B:List MA)(a:List (Nat × Nat)):Exit->(Nat->AV)->Prop:=λe F=>
 match e with
 | .normal=>resA TE F c (sles (G1 0 A a)) λb cs=>cq (lc b) k cs rcs (ja u F 0 A a B)
 | .ret=>resA TE F c (sles (G1 0 A a)) λb cs=>cq (lc b) k cs rcs (ja u F 0 A a B)
 | _=>False
section
variable{P:Program}{w0 w w1:World}{M S0 S:ah}{N:fm}{φ:Nat->ah}{F:Nat->AV}{a:Act}{TE:Nat->Option TI}
theorem dK.tag{Y:ah}{c:C}{v:Value}(h:dK w S Y c v):dK w S Y (UW c v) v:=by
 cases h with
 | nil _ o a B=>cases o with
  | own=>exact .nil _ _ _ rfl
  | _=>exact .nil _ _ _ B
 | own _ o g k n l e u f B D E i p t K L M y=>cases o with
  | own=>exact .own _ _ g k n l e u f rfl D E i p t K L M y
  | S=>exact B.elim
  | tag z=>exact .own _ _ g k n l e u f B D E i p t K L M y
 | v _ x F=>exact .v _ _ F
 | x _ u F=>exact .x _ _ F
 | z _ a=>exact .z _ _
 | S _ g G k n l e u D E i N y=>exact .S _ g G k n l e u D E i N y
 | m _ b d O j t H P J q=>exact .m _ b d O j t H P J q
 | it _ r b since Q d seen j cur left t R H q y J T A=>exact .it _ r b since Q d seen j cur left t R H q y J T A
def dK.untag{Y:ah}{z v:Value}{rows:List (List C)}(h:dK w S Y (.s (.tag z) rows) v):v=z/\dK w S Y (.s .own rows) v:=by
 cases h with
 | nil _ o a d=>exact⟨Eq.symm d,.nil _ _ _ trivial⟩
 | own _ o g k n e rows u f d i j b c l p q r t=>exact⟨Eq.symm d,.own _ _ g k n e rows u f trivial i j b c l p q r t⟩
theorem pJ(u:Nat->Value):∀(j:Nat)(cs:List C),(A4 u j cs).length=cs.length
 | _,[]=>rfl
 | j,c::cs=>by simp[A4,pJ u (j+1) cs]
theorem Gp(u:Nat->Value):∀(a:Nat)(cs:List C)(j:Nat),(A4 u a cs)[j]? = (cs[j]?).map λc=>UW c (u (a+j))
 | _,[],j=>by simp[A4]
 | a,c::cs,0=>by simp[A4]
 | a,c::cs,j+1=>by simp only[A4,List.getElem?_cons_succ];rw[Gp u (a+1) cs j,show a+1+j=a+(j+1) by omega]
variable{u:Nat->Value}
theorem cK.tag{Y:ah}{cs:List C}(h:cK w S Y cs u):cK w S Y (A4 u 0 cs) u:=by
 obtain⟨f,i,b,d⟩:=h;refine⟨f,λj c a=>?_,λj a=>b j (by grind [pJ]),λj e a g=>d j e (by grind [pJ]) (by grind [pJ])⟩
 grind [Gp,dK.tag]
def celF(v:Value)(j:Nat):Value:=v.cells.toList.getD j undef
def br.celF{Y:ah}{ag:Option Nat}{cs:List C}{v:Value}(h:br w S Y ag cs v):cs.length=ag.getD 1/\v=mkv ag (celF v)/\cK w S Y cs (celF v):=by
 obtain⟨b,u,c,d⟩:=h;have g:=qp (ag:=ag) (u:=u) (λe=>by subst e;exact d.one (by simp at b;omega));have f:∀j,j<ag.getD 1->Ab.celF v j=u j:=λj a=>by
  unfold Ab.celF;rw[c,g];simp[List.getD,a]
 exact⟨b,c.trans (jU λj a=>(f j a).symm),d.congr λj a=>f j ω⟩
def Uw(u:Nat->Nat->Value)(i:Nat):MA->AV
 | .val a cs=>.H (m7 a) cs
 | .mut a cs=>.H (m7 a) (A4 (u i) 0 cs)
 | .ptr cs=>.H .box cs
theorem Dn{u:Nat->Nat->Value} : ∀{A:List MA}{vs:List Value}{V:Nat->ah}(i:Nat),NM w S V A vs->∀t,(lay (zF u i A) t=.dead)\/(∃m v,i<=t/\vs[t - i]? = some v/\A[t - i]? = some m/\lay (zF u i A) t=Uw u t m/\qS w S (V (t - i)) m v)
 | [],_,_,i,_,t=>.inl rfl
 | m::A,[],_,i,h,t=>h.elim
 | m::A,v::vs,V,i,h,t=>by
  have b:lay (zF u i (m::A)) t=bif Nat.beq t i then Uw u i m else lay (zF u (i+1) A) t:=by cases m<;>rfl
  rw[b];cases c:Nat.beq t i with
  | true=>
   have:=C3 c;subst this;exact .inr ⟨m,v,O4 _,by simp,by simp,rfl,by rw[Nat.sub_self];exact h.1⟩
  | false=>
   have d:t≠i:=λe=>by simp_all
   rcases Dn (i+1) h.2 t with a|⟨f,g,a,j,k,l,n⟩
   ·exact .inl a
   grind
def LO:∀{A:List MA}{vs:List Value}{V:Nat->ah},NM w S V A vs->A.length=vs.length
 | [],[],_,_=>rfl
 | _::_,_::_,_,h=>by simp[LO h.2]
 | [],_::_,_,h=>h.elim
 | _::_,[],_,h=>h.elim
theorem Lb{p:Nat->Value} : ∀{A:List MA}{i:Nat}{q:Nat × Value},q∈LB p i A->i<=q.1/\q.1<i+A.length/\q.2=p q.1
 | [],_,_,h=>by simp[LB]at h
 | m::A,i,q,h=>by
  have a:q∈LB p (i+1) A->i<=q.1/\q.1<i+(m::A).length/\q.2=p q.1:=λh=>by
   obtain⟨b,c,d⟩:=Lb h
   grind
  cases m with
  | ptr cs=>
   rcases List.mem_cons.1 h with rfl|h
   all_goals grind
  | val=>exact a h
  | «mut»=>exact a h
theorem Md{p:Nat->Value} : ∀{A:List MA}{i n:Nat}{cs:List C},A[n]? = some (.ptr cs)->(i+n,p (i+n))∈LB p i A
 | [],_,n,_,h=>by simp at h
 | m::A,i,0,cs,h=>by grind [LB]
 | m::A,i,n+1,cs,h=>by
  have a:=Md (p:=p) (i:=i+1) (show A[n]? = some (.ptr cs) by simpa using h);rw[show i+1+n=i+(n+1) by omega]at a;cases m with
  | ptr cs=>exact S7 _ a
  | val=>exact a
  | «mut»=>exact a
def UE(φ:Nat->ah):Option (Option Nat)->ah
 | some (some t)=>φ t
 | _=>NO
theorem Ei{u:Nat->Value} : ∀{b:Nat}{cs xs a:List C},Ug u b cs xs a->cs.length=a.length/\∀(j:Nat)(c o:C),cs[j]? = some c->a[j]? = some o->∃y,(fx c=true->xs[j]? = some y)/\Wc (u (b+j)) c y o
 | _,[],xs,a,h=>by grind [Ug]
 | _,_::_,[],_,h=>by grind [Ug]
 | _,_::_,_::_,[],h=>by grind [Ug]
 | b,d::cs,e::xs,f::a,h=>by
  simp only[Ug]at h;obtain⟨g,i⟩:=Ei h.2
  grind
theorem Pp{S' Y r:ah}{E:Nat->Value}{cs xs t:List C}{off:Nat}(g:bq S w w1)(l:∀b o,S b o->S' b o)(h:cK w S Y cs u)(h':cK w1 S' r xs E)(F:Ug u 0 cs (xs.drop off) t):cK w1 S' r t u:=by
 obtain⟨f,G,O,P⟩:=h;obtain⟨A,n,H,J⟩:=h';obtain⟨Q,K⟩:=Ei F;refine⟨λj b o=>off+j<xs.length/\A (off+j) b o,λj c B=>?_,ψ,ψ⟩;have L:=(O3.1 B).1;have i:cs[j]? = some cs[j]:=ψ
 obtain⟨y,k,a⟩:=K j _ c i B;rw[W9]at a;have d:=G j _ i;generalize cs[j]=p at i a d k;have keep:fx p=false->c=p->dK w1 S' (λb o=>off+j<xs.length/\A (off+j) b o) c (u j):=λM e=>by
  subst e;exact((d.bare (F':=NO) M).keep g (λ_ _ h=>h.elim)).mono l (λ_ _ h=>h.elim)
 cases p with
 | v R=>exact keep rfl a
 | x=>exact keep rfl a
 | z=>exact keep rfl a
 | m T=>exact a.elim
 | it=>exact a.elim
 | s o D=>
  cases o with
  | S=>exact keep rfl a
  | tag z=>exact a.elim
  | own=>
   have k:=k rfl;rw[List.getElem?_drop]at k;have N:=(O3.1 k).1;simp only[Wc]at a;split at a
   case h_2=>exact a.elim
   rename_i U q;obtain⟨rfl,rfl⟩:=a;obtain⟨V,W⟩:=(n _ _ k).untag
   simp_all
theorem bf.backs{w':World}{S':ah}{u:Nat->Nat->Value}(h:bf w0 M S0 N S' φ F a w')(d:bq S w w')(f:∀b o,S b o->S' b o):∀{A:List MA}{g:List (Nat × Nat)}{B:List MA}{vs:List Value}{V:Nat->ah}{i:Nat},NM w S V A vs->
  (∀j v,vs[j]? = some v->u (i+j)=celF v)->(∀j v cs,vs[j]? = some v->A[j]? = some (.ptr cs)->tvs a (i+j)=v)->ja u F i A g B->Ef w' S' (λn=>UE φ (G1 i A g)[n]?) B vs
 | [],g,B,vs,V,i,l,r,t,c=>by
  cases vs with
  | cons _ _=>exact l.elim
  | nil=>cases B with
   | nil=>trivial
   | cons _ _=>grind [ja]
 | m::A,[],B,vs,V,i,l,r,t,c=>by grind [ja]
 | m::A,p::g,[],vs,V,i,l,r,t,c=>by grind [ja]
 | m::A,p::g,C::B,[],V,i,l,r,t,c=>l.elim
 | m::A,p::g,C::B,v::vs,V,i,l,r,t,c=>by
  have next:ja u F (i+1) A g B->Ef w' S' (λn=>UE φ (G1 (i+1) A g)[n]?) B vs:=λc=>
   bf.backs h d f l.2 (λj v R=>by rw[show i+1+j=i+(j+1) by omega];simp_all)
    (λj v cs R W=>by rw[show i+1+j=i+(j+1) by omega];simp_all) c
  cases m with
  | val T cs=>
   cases C with
   | val y U=>simp only[ja]at c;exact⟨trivial,next c⟩
   | ptr=>grind [ja]
   | «mut»=>grind [ja]
  | «mut» T cs=>
   cases C with
   | val=>grind [ja]
   | ptr=>grind [ja]
   | «mut» y out=>
    simp only[ja]at c;obtain⟨⟨rfl,e⟩,E⟩:=c;refine⟨?_,next E⟩;have D:=br.celF (show br w S (V 0) y cs v from l.1);have G:u i=celF v:=r 0 v (by simp);have q:=h.slot p.1;cases H:F p.1 with
    | H k xs=>
     rw[H]at e q;simp only at e;rw[G]at e;obtain⟨L,Y,O,J,P,Q,K⟩:=q;refine⟨by grind [Ei],celF v,D.2.1,?_⟩;exact(Pp d f D.2.2 K e).mono (λ_ _ h=>h) (λb o c=>by simpa[G1,UE] using J b o c)
    | _=>grind
  | ptr cs=>
   cases C with
   | val=>grind [ja]
   | «mut»=>grind [ja]
   | ptr out=>
    simp only[ja]at c;refine⟨?_,next c.2⟩;have D:tvs a i=v:=t 0 v cs (by simp) (by simp);have q:=h.slot i;cases H:F i with
    | H k xs=>
     cases k with
     | box=>
      rw[H]at c q;have:=c.1;simp only at this;subst this;rw[D]at q;obtain⟨L,Y,O,J,P,Q,K⟩:=q;exact⟨L,Y,λb o c=>by simpa[G1,UE] using O b o c,λb o c=>by simpa[G1,UE] using J b o c,P,Q,K⟩
     | _=>grind
    | _=>grind
theorem uD:∀{l:List (Option Nat)},JQ l=true->∀(i a t c:Nat),i≠a->l[i]? = some (some t)->l[a]? = some (some c)->t≠c
 | [],_,i,a,t,c,_,h,_=>by simp at h
 | none::l,b,i,a,t,c,f,h,d=>by
  cases i with
  | zero=>simp at h
  | succ i=>cases a with
   | zero=>simp at d
   | succ a=>exact uD (l:=l) b i a t c ω (by simpa using h) (by simpa using d)
 | some g::l,b,i,a,t,c,f,h,d=>by
  simp only[JQ,I0]at b;have k:∀(n s:Nat),l[n]? = some (some s)->g≠s:=λn s j e=>by
   have:=X5.1 b.1 _ (Z2 j)
   simp_all
  cases i with
  | zero=>
   grind
  | succ i=>cases a with
   | zero=>grind
   | succ a=>exact uD b.2 i a t c ω (by simpa using h) (by simpa using d)
theorem zf:∀{l:List (Option Nat)}{i t:Nat},l[i]? = some (some t)->t∈sles l
 | [],i,t,h=>by simp at h
 | none::l,i,t,h=>by
  cases i with
  | zero=>simp at h
  | succ i=>exact zf (l:=l) (i:=i) (by simpa using h)
 | some a::l,i,t,h=>by
  cases i with
  | zero=>grind [sles]
  | succ i=>exact S7 _ (zf (l:=l) (i:=i) (by simpa using h))
theorem zl{φ:Nat->ah}{x:Option (Option Nat)}{b o:Nat}(h:UE φ x b o):∃t,x=some (some t)/\φ t b o:=by
 match x,h with
 | some (some t),h=>exact⟨t,rfl,h⟩
 | some none,h=>exact h.elim
 | none,h=>exact h.elim
theorem M3{f : Nat}{r : Func}{c : Code}{sh : Bool}{A B : List MA}{k : Kd}{rcs : List C}{mo : List (Nat × List Nat)}{n : Nat}(L : List (Nat × Nat))(W : ∀t i, TE t = some i -> iv P t i)(hf : P.funcs[f]? = some r)(hn : (r.name == "runtime.NumGoroutine") = false)(d:r.body=some c){ck:Nat->Array Oper->Bool}{D:fm->Nat->Array Oper->((Nat->AV)->Prop)->(Nat->AV)->Prop}(hD:∀N,yf P N ck (D N))(hc:gw ck c=true)(hN:A.length+(r.ntmps - A.length)=n)(hok:JQ (G1 0 A L)=true)(hsh:sh=true\/iq rcs)(hp:∀(u:Nat->Nat->Value)(p:Nat->Value),aw P TE ⟨n,LB p 0 A,mo⟩ (D ⟨n,LB p 0 A,mo⟩) c (Va TE r.results.toList k rcs u A B L) (lay (zF u 0 A))):bg P f sh A B k rcs:=by
 refine⟨⟨r,hf,hn,by rw[d];rfl⟩,λw S V y hS hV hVd hA=>?_⟩;have hlen:=LO hA;refine calls_of_wp hf d ?_
 let u:Nat->Nat->Value:=λi=>celF (y.getD i undef)
 let p:Nat->Value:=λi=>y.getD i undef
 have htv:∀t v,y[t]? = some v->tvs {tmps:=y.toArray++Array.replicate (r.ntmps - y.toArray.size) undef,defers:=[]} t=v:=λt v l=>by
  have M:=(O3.1 l).1;simp only[tvs,I9]
  grind
 have hst:St w (λb o=>∃i,V i b o) S ⟨n,LB p 0 A,mo⟩ (lay (zF u 0 A)) {tmps:=y.toArray++Array.replicate (r.ntmps - y.toArray.size) undef,defers:=[]} w:=by
  refine⟨S,V,λt=>?_,hVd,ψ,ψ,λ_ _ h=>h,ψ,CY _ _,by simp;omega,rfl,λq hq=>?_⟩
  ·rcases Dn (u:=u) 0 hA t with G|⟨m,v,-,l,h2',H,R⟩
   ·rw[G];trivial
   rw[H];rw[Nat.sub_zero]at l R;rw[htv t v l];have hu:u t=celF v:=ψ
   cases m with
   | val K cs=>exact(br.mono (show br w S NO K cs v from R) (λ_ _ h=>h) (λ_ _ h=>h.elim)).slot
   | «mut» K cs=>
    obtain⟨e1,e2,e3⟩:=br.celF (show br w S (V t) K cs v from R);refine br.slot ⟨by grind [pJ],celF v,e2,?_⟩
    grind [cK.tag]
   | ptr cs=>exact R
  obtain⟨-,G,l⟩:=Lb hq
  grind
 refine j8 W (hD _) c hc _ _ _ _ w (hp u p) hst λe F' T w' he hs'=>?_
 obtain⟨S',φ',h⟩:=hs';have fin:resA TE F' r.results.toList (sles (G1 0 A L)) (λsh cs=>cq (lc sh) k cs rcs (ja u F' 0 A L B))->T.defers=[]/\∃v,(results r T.tmps).run P w'=.ok v w'/\(∃v',Ending.returned v=.returned v'/\bw (λb o=>∃i,V i b o) w w'/\∃(X:ah)(U:Nat->ah)(S1:ah),
     (∀b o,X b o->(∃i,V i b o)\/(b<w'.heap.size/\w.heap.size<=b))/\(∀i b o,U i b o->(∃i,V i b o)\/(b<w'.heap.size/\w.heap.size<=b))/\
     (∀b o,S1 b o->(sh=true/\S b o)\/(∃i,V i b o)\/(b<w'.heap.size/\w.heap.size<=b))/\
     (∀i i',i≠i'->∀b o,U i b o->¬U i' b o)/\(∀i b o,X b o->¬U i b o)/\(∀b o,X b o->¬S1 b o)/\(∀i b o,U i b o->¬S1 b o)/\
     fN w' NO k rcs.length v'/\cK w' S1 X rcs (cn w' k v')/\Ef w' (λb o=>S b o\/S1 b o) U B y):=by
  intro hr;obtain⟨shs,cs,a,u',Z,hrun,J,hln,hL,hcells,E,hrow⟩:=h.resA W hr;obtain⟨rfl,rfl,O⟩:=Z.out;refine⟨h.defers,?_⟩;have Q:(results r T.tmps).run P w'=.ok (if h:a.toArray.size=1 then a.toArray[0] else .tuple a.toArray) w':=by
   have e:results r T.tmps=(do let y <-r.results.mapM (Hd T.tmps);pure (if h:y.size=1 then y[0] else .tuple y)):=by
    unfold results
    congr 1
   rw[e,<-Array.toArray_toList (xs:=r.results),List.mapM_toArray]
   simp_all
  have hex:∀t b o,φ' t b o->(∃i,V i b o)\/(b<w'.heap.size/\w.heap.size<=b):=λt b o d=>(h.ex t b o d).2.elim (λh'=>.inr ⟨(h.ex t b o d).1,h'⟩) .inl
  have hsameS:bq S w w':=λb o d=>by
   have M:=hS b o d;exact⟨h.old.cel b o M ψ,h.old.fro b o M ψ⟩
  have hm:=h.backs (u:=u) hsameS h.sub hA ψ (λj v cs hj hc=>by
    have:=h.par _ (Md (p:=p) (i:=0) hc)
    grind) O
  refine⟨_,Q,_,rfl,h.old,λb o=>∃t,t∉sles (G1 0 A L)/\φ' t b o,λi=>UE φ' (G1 0 A L)[i]?,λb o=>(sh=true/\S' b o)\/(S' b o/\((∃i,V i b o)\/w.heap.size<=b)),ψ,λi b o d=>?_,λb o d=>?_,λi i' hne b o d g=>?_,λi b o ⟨t,ht,d⟩ g=>?_,λb o ⟨t,_,d⟩ g=>h.disS t b o d ψ,λi b o d g=>?_,?_⟩
  ·grind [zl]
  ·rcases d with⟨G,l⟩|⟨G,l⟩
   ·rcases(h.sup b o l).2 with H|H|H
    ·grind
    ·exact .inr (.inr ⟨(h.sup b o l).1,H⟩)
    grind
   rcases l with l|l
   ·grind
   exact .inr (.inr ⟨(h.sup b o G).1,l⟩)
  ·obtain⟨t,e1,d⟩:=zl d
   obtain⟨t',e2,g⟩:=zl g;exact h.dis t t' (uD hok i i' t t' hne e1 e2) b o d g
  ·obtain⟨t',e2,g⟩:=zl g
   exact h.dis t t' (λe=>ht (by grind [zf])) b o d g
  ·obtain⟨t,-,d⟩:=zl d
   exact h.disS t b o d ψ
  have hk:fN w' NO (lc shs) cs.length (if h:a.toArray.size=1 then a.toArray[0] else .tuple a.toArray)/\cK w' S' (λb o=>∃t,t∉sles (G1 0 A L)/\φ' t b o) cs (cn w' (lc shs) (if h:a.toArray.size=1 then a.toArray[0] else .tuple a.toArray)):=by
   match shs,J,E,hL with
   | [],J,_,hL=>
    cases a with
    | cons _ _=>exact J.elim
    | nil=>
     have:cs=[]:=ψ
     subst this;exact⟨⟨_,rfl,trivial,rfl⟩,cK.nil _ _ _ _⟩
   | [K],_,E,_=>
    obtain⟨v,rfl,hv⟩:=E K rfl;have:=hv.slot (F:=F') (tv:=tvs T);obtain⟨X1,Y,G,l,H,R,h5⟩:=this;refine⟨?_,h5.mono (λ_ _ h=>h) l⟩;cases K<;>exact R
   | K::ag2::sh,J,_,hL=>
    have hsz:¬a.toArray.size=1:=by
     match a,J with
     | [],J=>simp
     | [v],J=>cases K<;>cases ag2<;>exact J.2.elim
     | _::_::_,_=>simp
    rw[dif_neg hsz];refine⟨⟨_,rfl,J,hL⟩,hrow.congr λj hj=>?_⟩;simp only[cn,lc,nD,hcells];simp[List.getD,hj]
  refine⟨hk.1,?_,hm.mono λb o d=>?_⟩
  ·rcases hsh with G|G
   ·exact hk.2.mono ψ (λ_ _ h=>h)
   exact(hk.2.fresh G).mono (λ_ _ h=>h.elim) (λ_ _ h=>h)
  rcases(h.sup b o d).2 with H|H|H
  all_goals grind
 cases e with
 | normal=>exact fin he
 | ret=>exact fin he
 | _=>exact he.elim
end
abbrev I(z:Int):C:=.v (.int .i64 z)
abbrev B(b:Bool):C:=.v (.bool b)
def rI(_:dQ)(z:Int):List C:=[I z]
def rB(_:dQ)(b:Bool):List C:=[B b]
def rg(z:Int):iq (rI .own z):=⟨trivial,trivial⟩
def FY(b:Bool):iq (rB .own b):=⟨trivial,trivial⟩
def pd(z:Int):Prop:=-9223372036854775808<=z/\z<=9223372036854775807
def Wv(_:Bool):Prop:=True
def rH : Tryz.prog.follows .mixedOrders=true:=by kernel_rfl
variable{tb: List (Nat × Nat × List Nat)}{rcs: List C}{A: List RA}{sh: Bool}{c: Code}{mo: List (Nat × List Nat)}{f: Nat}
def VA{a : Func}(d : Tryz.prog.funcs[f]? = some a)(e : (a.name == "runtime.NumGoroutine") = false)(g : a.body = some c)(h : gw (od tb) c = true)(i:A.length+(a.ntmps - A.length)=n)(b:sh=true\/iq rcs)(j:aw Tryz.prog TE ⟨n,[],mo⟩ (DF Tryz.prog TE ⟨n,[],mo⟩ tb) c (TF TE a.results.toList k rcs) (lay (wE 0 A))):zzA f sh A k rcs:=
 Nb mF d e g (rN mF rH ⟨n,[],mo⟩ tb) h i rfl b j
def V9{a : Func}{A B : List MA}(b : List (Nat × Nat))(g : Tryz.prog.funcs[f]? = some a)(h : (a.name == "runtime.NumGoroutine") = false)(i : a.body = some c)(j : gw (od tb) c = true)(l:A.length+(a.ntmps - A.length)=n)(d:JQ (G1 0 A b)=true)(e:sh=true\/iq rcs)(o:∀(u:Nat->Nat->Value)(p:Nat->Value),aw Tryz.prog TE ⟨n,LB p 0 A,mo⟩ (DF Tryz.prog TE ⟨n,LB p 0 A,mo⟩ tb) c (Va TE a.results.toList k rcs u A B b) (lay (zF u 0 A))):zzB f sh A B k rcs:=
 M3 b mF g h i (λN=>rN mF rH N tb) j l d e o
def V4{a : Func}(b : Tryz.prog.funcs[f]? = some a)(d : (a.name == "runtime.NumGoroutine") = false)(e : a.body = some c)(g : gw (od tb) c = true)(h:A.length+(a.ntmps - A.length)=n)(i:a.results = #[.tmp t])(j:aw Tryz.prog TE ⟨n,[],mo⟩ (DF Tryz.prog TE ⟨n,[],mo⟩ tb) c (VP t rcs) (lay (wE 0 A))):sC Tryz.prog f true A .box rcs:=
 ND mF b d e (rN mF rH ⟨n,[],mo⟩ tb) g h rfl i j
theorem fJ{x:Int}(h1 : -9223372036854775808<=x)(a:x<=9223372036854775807):IntKind.i64.wrap x=x:=IntWalk.i64_in x ω
def Qb:RA->RA->Prop
 | .val ag cs,.val ag' cs'=>ag=ag'/\cs=cs'
 | .ptr cs,.ptr cs'=>cs=cs'
 | A,a=>A=a
theorem Qb.eq{A a:RA}(h:Qb A a):A=a:=by
 unfold Qb at h
 grind
def Bq:List RA->List RA->Prop
 | [],[]=>True
 | A::As,B::Bs=>Qb A B/\Bq As Bs
 | _,_=>False
theorem Bq.eq:∀{A a:List RA},Bq A a->A=a
 | [],[],_=>rfl
 | A::As,B::Bs,h=>by rw[Qb.eq h.1,Bq.eq h.2]
 | [],_::_,h=>h.elim
 | _::_,[],h=>h.elim
theorem Cl.eq{b:Bool}{a:List RA}{K:AV->Prop}(h:ar P f false a k rcs)(c:Bq A a)(d:K (.H k rcs)):Cl P f b A K:=by grind [Bq.eq,CB]
def CN:type_of% @Cl.eq:=@Cl.eq
def Eh{b:Nat}(h:n<=1048576)(a:b<=1000):n*b<=140737488355328:=Z6 (Nat.mul_le_mul h a) (by decide)
variable{X Y:Prop}
theorem Bf.NB{a b:Bool}(h1:a≠b->X)(c:a=b->Y):Bf (a != b) X Y:=by grind [Bf.P]
theorem Rw.one{off k j:Nat}{K:List C->Nat->Prop}{o:dQ}{rows:List (List C)}{r:List C}(h1:a[off]? = some (.s o rows))(c:rows[i]? = some r)(d:r.length=k)(b:K r j):Rw a off [(i,k,j)] K:=
 Rw.mk (r:=r) (j:=j) (by grind [co]) b
def CJ:type_of% @Rw.one:=@Rw.one
section
variable{α:Type}{A B:List α}
end
def aa{β:Type}{f:α->β}{l:List α}{k:Nat}{x:α}(h:l[k]? = some x):(l.map f)[k]? = some (f x):=by simp[h]
def aJ(o:dQ)(x:List Int):List C:=[.s o (x.map (rI o))]
def dm(x:List Int):ed (aJ .own x)=aJ .S x:=by simp[ed,aJ,rI,ed]
theorem bQ(x:List Int):iq (aJ .own x):=⟨⟨.inl ψ,bc _ _ λy _=>rg y⟩,trivial⟩
def kj(x:List Int):Prop:=x.length<=9223372036854775807/\∀y∈x,pd y
def tC(x:List Int):Prop:=x.length<=1048576
def kn(o:dQ)(x:List (List Int)):List C:=[.s o (x.map (aJ o))]
def Vo(x:List (List Int)):ed (kn .own x)=kn .S x:=by simp[ed,kn,dm,<-cg,I8]
def Fk(x:List (List Int)):Prop:=x.length<=9223372036854775807/\∀y∈x,kj y
def xZ(x:List (List Int)):Prop:=x.length<=1048576/\∀y∈x,tC y
def PE(o:dQ)(x:List Bool):List C:=[.s o (x.map (rB o))]
def Uf(x:List Bool):Prop:=x.length<=9223372036854775807/\∀y∈x,Wv y
def Qo(x:List Bool):Prop:=x.length<=1048576
structure bi where
 V:List (List Int)
 a4:List Bool
deriving DecidableEq,Inhabited
def bi.enc(o:dQ)(x:bi):List C:=[.s o (x.V.map (aJ o)),.s o (x.a4.map (rB o))]
theorem bi.enc_fr(x:bi):iq (bi.enc .own x):=⟨⟨.inl ψ,bc _ _ λy _=>bQ y⟩,⟨.inl ψ,bc _ _ λy _=>FY y⟩,trivial⟩
def bi.wf(x:bi):Prop:=Fk x.V/\Uf x.a4
def bi.sml(x:bi):Prop:=xZ x.V/\Qo x.a4
structure bm where
 e:Int
 j:Int
deriving DecidableEq,Inhabited
def bm.enc(o:dQ)(x:bm):List C:=[I x.e,I x.j]
def bm.enc_fz(x:bm):ed (bm.enc .own x)=bm.enc .S x:=by simp[ed,bm.enc]
def bm.enc_fr(x:bm):iq (bm.enc .own x):=⟨trivial,trivial,trivial⟩
def bm.wf(x:bm):Prop:=pd x.e/\pd x.j
def bm.sml(_:bm):Prop:=True
def HW(o:dQ)(x:List bm):List C:=[.s o (x.map (bm.enc o))]
def Nv(x:List bm):Prop:=x.length<=9223372036854775807/\∀y∈x,bm.wf y
def KF(x:List bm):Prop:=x.length<=1048576/\∀y∈x,bm.sml y
structure aL where
 J:List bm
deriving DecidableEq,Inhabited
def aL.enc(o:dQ)(x:aL):List C:=[.s o (x.J.map (bm.enc o))]
def aL.enc_fz(x:aL):ed (aL.enc .own x)=aL.enc .S x:=by simp[ed,aL.enc,bm.enc_fz,<-cg,I8]
theorem aL.enc_fr(x:aL):iq (aL.enc .own x):=⟨⟨.inl ψ,bc _ _ λy _=>bm.enc_fr y⟩,trivial⟩
def aL.wf(x:aL):Prop:=Nv x.J
def aL.sml(x:aL):Prop:=KF x.J
structure aV where
 X:bi
 Q:aL
deriving DecidableEq,Inhabited
def aV.enc(o:dQ)(x:aV):List C:=[.s o (x.X.V.map (aJ o)),.s o (x.X.a4.map (rB o)),.s o (x.Q.J.map (bm.enc o))]
theorem aV.enc_fr(x:aV):iq (aV.enc .own x):=⟨⟨.inl ψ,bc _ _ λy _=>bQ y⟩,⟨.inl ψ,bc _ _ λy _=>FY y⟩,⟨.inl ψ,bc _ _ λy _=>bm.enc_fr y⟩,trivial⟩
def aV.wf(x:aV):Prop:=bi.wf x.X/\aL.wf x.Q
def aV.sml(x:aV):Prop:=bi.sml x.X/\aL.sml x.Q
structure am where
 F:aV
 Calls:Int
 w:List Int
deriving DecidableEq,Inhabited
def am.enc(o:dQ)(x:am):List C:=[.s o (x.F.X.V.map (aJ o)),.s o (x.F.X.a4.map (rB o)),.s o (x.F.Q.J.map (bm.enc o)),I x.Calls,.s o (x.w.map (rI o))]
def am.enc_fz(x:am):ed (am.enc .own x)=am.enc .S x:=by simp[ed,am.enc,bm.enc_fz,rB,rI,dm,<-cg,I8]
theorem am.enc_fr(x:am):iq (am.enc .own x):=⟨⟨.inl ψ,bc _ _ λy _=>bQ y⟩,⟨.inl ψ,bc _ _ λy _=>FY y⟩,⟨.inl ψ,bc _ _ λy _=>bm.enc_fr y⟩,trivial,⟨.inl ψ,bc _ _ λy _=>rg y⟩,trivial⟩
def CZ:type_of% @am.enc_fr:=@am.enc_fr
def am.wf(x:am):Prop:=aV.wf x.F/\pd x.Calls/\kj x.w
def am.sml(x:am):Prop:=aV.sml x.F/\tC x.w
structure aC where
 At:Int
 a6:Int
deriving DecidableEq,Inhabited
def aC.enc(o:dQ)(x:aC):List C:=[I x.At,I x.a6]
def aC.enc_fz(x:aC):ed (aC.enc .own x)=aC.enc .S x:=by simp[ed,aC.enc]
def aC.enc_fr(x:aC):iq (aC.enc .own x):=⟨trivial,trivial,trivial⟩
def aC.wf(x:aC):Prop:=pd x.At/\pd x.a6
def aC.sml(_:aC):Prop:=True
def bF(o:dQ)(x:List aC):List C:=[.s o (x.map (aC.enc o))]
def kG(x:List aC):ed (bF .own x)=bF .S x:=by simp[ed,bF,aC.enc_fz,<-cg,I8]
theorem kM(x:List aC):iq (bF .own x):=⟨⟨.inl ψ,bc _ _ λy _=>aC.enc_fr y⟩,trivial⟩
def N5(x:List aC):Prop:=x.length<=9223372036854775807/\∀y∈x,aC.wf y
def gM(x:List aC):Prop:=x.length<=1048576/\∀y∈x,aC.sml y
structure aA where
 R:Int
 d:Int
 a8:Int
deriving DecidableEq,Inhabited
def aA.enc(o:dQ)(x:aA):List C:=[I x.R,I x.d,I x.a8]
def aA.enc_fz(x:aA):ed (aA.enc .own x)=aA.enc .S x:=by simp[ed,aA.enc]
def aA.enc_fr(x:aA):iq (aA.enc .own x):=⟨trivial,trivial,trivial,trivial⟩
def aA.wf(x:aA):Prop:=pd x.R/\pd x.d/\pd x.a8
def aA.sml(_:aA):Prop:=True
def cw(o:dQ)(x:List aA):List C:=[.s o (x.map (aA.enc o))]
def eJ(x:List aA):ed (cw .own x)=cw .S x:=by simp[ed,cw,aA.enc_fz,<-cg,I8]
theorem yr(x:List aA):iq (cw .own x):=⟨⟨.inl ψ,bc _ _ λy _=>aA.enc_fr y⟩,trivial⟩
def Pd(x:List aA):Prop:=x.length<=9223372036854775807/\∀y∈x,aA.wf y
def fL(x:List aA):Prop:=x.length<=1048576/\∀y∈x,aA.sml y
structure aB where
 R:Int
 a2:Int
 q:Int
deriving DecidableEq,Inhabited
def aB.enc(o:dQ)(x:aB):List C:=[I x.R,I x.a2,I x.q]
def aB.enc_fz(x:aB):ed (aB.enc .own x)=aB.enc .S x:=by simp[ed,aB.enc]
def aB.enc_fr(x:aB):iq (aB.enc .own x):=⟨trivial,trivial,trivial,trivial⟩
def aB.wf(x:aB):Prop:=pd x.R/\pd x.a2/\pd x.q
def aB.sml(_:aB):Prop:=True
def cA(o:dQ)(x:List aB):List C:=[.s o (x.map (aB.enc o))]
def iT(x:List aB):ed (cA .own x)=cA .S x:=by simp[ed,cA,aB.enc_fz,<-cg,I8]
def MY(x:List aB):Prop:=x.length<=9223372036854775807/\∀y∈x,aB.wf y
def fG(x:List aB):Prop:=x.length<=1048576/\∀y∈x,aB.sml y
structure aU where
 Id:Int
 Addr:Int
 q:Int
 y:Int
deriving DecidableEq,Inhabited
def aU.enc(o:dQ)(x:aU):List C:=[I x.Id,I x.Addr,I x.q,I x.y]
def aU.enc_fz(x:aU):ed (aU.enc .own x)=aU.enc .S x:=by simp[ed,aU.enc]
def aU.enc_fr(x:aU):iq (aU.enc .own x):=⟨trivial,trivial,trivial,trivial,trivial⟩
def aU.wf(x:aU):Prop:=pd x.Id/\pd x.Addr/\pd x.q/\pd x.y
def aU.sml(_:aU):Prop:=True
def ml(o:dQ)(x:List aU):List C:=[.s o (x.map (aU.enc o))]
def Ns(x:List aU):ed (ml .own x)=ml .S x:=by simp[ed,ml,aU.enc_fz,<-cg,I8]
def RV(x:List aU):Prop:=x.length<=9223372036854775807/\∀y∈x,aU.wf y
def PP(x:List aU):Prop:=x.length<=1048576/\∀y∈x,aU.sml y
structure aE where
 a:List (List Int)
deriving DecidableEq,Inhabited
def aE.enc(o:dQ)(x:aE):List C:=[.s o (x.a.map (aJ o))]
def aE.enc_fz(x:aE):ed (aE.enc .own x)=aE.enc .S x:=by simp[ed,aE.enc,dm,<-cg,I8]
def Cb:type_of% @aE.enc_fz:=@aE.enc_fz
theorem aE.enc_fr(x:aE):iq (aE.enc .own x):=⟨⟨.inl ψ,bc _ _ λy _=>bQ y⟩,trivial⟩
def aE.wf(x:aE):Prop:=Fk x.a
def aE.sml(x:aE):Prop:=xZ x.a
def qd(o:dQ)(x:List aE):List C:=[.s o (x.map (aE.enc o))]
def Mw(x:List aE):Prop:=x.length<=9223372036854775807/\∀y∈x,aE.wf y
def JH(x:List aE):Prop:=x.length<=1048576/\∀y∈x,aE.sml y
structure cW where
 To:Int
 Addr:Int
deriving DecidableEq,Inhabited
def cW.enc(o:dQ)(x:cW):List C:=[I x.To,I x.Addr]
def cW.enc_fz(x:cW):ed (cW.enc .own x)=cW.enc .S x:=by simp[ed,cW.enc]
def cW.enc_fr(x:cW):iq (cW.enc .own x):=⟨trivial,trivial,trivial⟩
def cW.wf(x:cW):Prop:=pd x.To/\pd x.Addr
def cW.sml(_:cW):Prop:=True
def bO(o:dQ)(x:List cW):List C:=[.s o (x.map (cW.enc o))]
def lR(x:List cW):ed (bO .own x)=bO .S x:=by simp[ed,bO,cW.enc_fz,<-cg,I8]
theorem sf(x:List cW):iq (bO .own x):=⟨⟨.inl ψ,bc _ _ λy _=>cW.enc_fr y⟩,trivial⟩
def Ru(x:List cW):Prop:=x.length<=9223372036854775807/\∀y∈x,cW.wf y
def Nz(x:List cW):Prop:=x.length<=1048576/\∀y∈x,cW.sml y
def xU(o:dQ)(x:List (List cW)):List C:=[.s o (x.map (bO o))]
def N4(x:List (List cW)):Prop:=x.length<=9223372036854775807/\∀y∈x,Ru y
def J3(x:List (List cW)):Prop:=x.length<=1048576/\∀y∈x,Nz y
structure aM where
 U:List (List cW)
 u:List (List Int)
deriving DecidableEq,Inhabited
def aM.enc(o:dQ)(x:aM):List C:=[.s o (x.U.map (bO o)),.s o (x.u.map (aJ o))]
def aM.enc_fz(x:aM):ed (aM.enc .own x)=aM.enc .S x:=by simp[ed,aM.enc,lR,dm,<-cg,I8]
theorem aM.enc_fr(x:aM):iq (aM.enc .own x):=⟨⟨.inl ψ,bc _ _ λy _=>sf y⟩,⟨.inl ψ,bc _ _ λy _=>bQ y⟩,trivial⟩
def aM.wf(x:aM):Prop:=N4 x.U/\Fk x.u
def aM.sml(x:aM):Prop:=J3 x.U/\xZ x.u
structure aO where
 Addr:Int
 d:Int
 b5:Int
deriving DecidableEq,Inhabited
def aO.enc(o:dQ)(x:aO):List C:=[I x.Addr,I x.d,I x.b5]
def aO.enc_fz(x:aO):ed (aO.enc .own x)=aO.enc .S x:=by simp[ed,aO.enc]
def aO.enc_fr(x:aO):iq (aO.enc .own x):=⟨trivial,trivial,trivial,trivial⟩
def aO.wf(x:aO):Prop:=pd x.Addr/\pd x.d/\pd x.b5
def aO.sml(_:aO):Prop:=True
def dX(o:dQ)(x:List aO):List C:=[.s o (x.map (aO.enc o))]
theorem pW(x:List aO):iq (dX .own x):=⟨⟨.inl ψ,bc _ _ λy _=>aO.enc_fr y⟩,trivial⟩
def NI(x:List aO):Prop:=x.length<=9223372036854775807/\∀y∈x,aO.wf y
def mi(x:List aO):Prop:=x.length<=1048576/\∀y∈x,aO.sml y
structure bD where
 b7:Int
 a5:List aO
deriving DecidableEq,Inhabited
def bD.enc(o:dQ)(x:bD):List C:=[I x.b7,.s o (x.a5.map (aO.enc o))]
def bD.enc_fz(x:bD):ed (bD.enc .own x)=bD.enc .S x:=by simp[ed,bD.enc,aO.enc_fz,<-cg,I8]
theorem bD.enc_fr(x:bD):iq (bD.enc .own x):=⟨trivial,⟨.inl ψ,bc _ _ λy _=>aO.enc_fr y⟩,trivial⟩
def bD.wf(x:bD):Prop:=pd x.b7/\NI x.a5
def bD.sml(x:bD):Prop:=mi x.a5
structure cH where
 a3:Int
 a0:Int
 V:List Int
deriving DecidableEq,Inhabited
def cH.enc(o:dQ)(x:cH):List C:=[I x.a3,I x.a0,.s o (x.V.map (rI o))]
def cH.enc_fz(x:cH):ed (cH.enc .own x)=cH.enc .S x:=by simp[ed,cH.enc,rI,<-cg,I8]
theorem cH.enc_fr(x:cH):iq (cH.enc .own x):=⟨trivial,trivial,⟨.inl ψ,bc _ _ λy _=>rg y⟩,trivial⟩
def cH.wf(x:cH):Prop:=pd x.a3/\pd x.a0/\kj x.V
def cH.sml(x:cH):Prop:=tC x.V
structure dE where
 W:cH
 a9:Int
 b:Int
deriving DecidableEq,Inhabited
def dE.enc(o:dQ)(x:dE):List C:=[I x.W.a3,I x.W.a0,.s o (x.W.V.map (rI o)),I x.a9,I x.b]
theorem dE.enc_fr(x:dE):iq (dE.enc .own x):=⟨trivial,trivial,⟨.inl ψ,bc _ _ λy _=>rg y⟩,trivial,trivial,trivial⟩
def dE.wf(x:dE):Prop:=cH.wf x.W/\pd x.a9/\pd x.b
def dE.sml(x:dE):Prop:=cH.sml x.W
structure ac where
 G:am
 o:List aC
 K:List aA
 M:List aB
 O:List aU
 T:List aE
 a1:aM
 a7:bD
 b3:Int
 b1:Int
 c0:Int
 b:Int
 k:Bool
 Y:dE
deriving DecidableEq,Inhabited
def ac.enc(o:dQ)(x:ac):List C:=[.s o (x.G.F.X.V.map (aJ o)),.s o (x.G.F.X.a4.map (rB o)),.s o (x.G.F.Q.J.map (bm.enc o)),I x.G.Calls,.s o (x.G.w.map (rI o)),.s o (x.o.map (aC.enc o)),.s o (x.K.map (aA.enc o)),.s o (x.M.map (aB.enc o)),.s o (x.O.map (aU.enc o)),.s o (x.T.map (aE.enc o)),.s o (x.a1.U.map (bO o)),.s o (x.a1.u.map (aJ o)),I x.a7.b7,.s o (x.a7.a5.map (aO.enc o)),I x.b3,I x.b1,I x.c0,I x.b,B x.k,I x.Y.W.a3,I x.Y.W.a0,.s o (x.Y.W.V.map (rI o)),I x.Y.a9,I x.Y.b]
def ac.enc_fz(x:ac):ed (ac.enc .own x)=ac.enc .S x:=by simp[ed,ac.enc,Cb,bm.enc_fz,aB.enc_fz,aU.enc_fz,aC.enc_fz,aA.enc_fz,aO.enc_fz,rB,lR,rI,dm,<-cg,I8]
theorem ac.enc_fr(x:ac):iq (ac.enc .own x):=⟨⟨.inl ψ,bc _ _ λy _=>bQ y⟩,⟨.inl ψ,bc _ _ λy _=>FY y⟩,⟨.inl ψ,bc _ _ λy _=>bm.enc_fr y⟩,trivial,⟨.inl ψ,bc _ _ λy _=>rg y⟩,⟨.inl ψ,bc _ _ λy _=>aC.enc_fr y⟩,⟨.inl ψ,bc _ _ λy _=>aA.enc_fr y⟩,⟨.inl ψ,bc _ _ λy _=>aB.enc_fr y⟩,⟨.inl ψ,bc _ _ λy _=>aU.enc_fr y⟩,⟨.inl ψ,bc _ _ λy _=>aE.enc_fr y⟩,⟨.inl ψ,bc _ _ λy _=>sf y⟩,⟨.inl ψ,bc _ _ λy _=>bQ y⟩,trivial,⟨.inl ψ,bc _ _ λy _=>aO.enc_fr y⟩,trivial,trivial,trivial,trivial,trivial,trivial,trivial,⟨.inl ψ,bc _ _ λy _=>rg y⟩,trivial,trivial,trivial⟩
def ac.wf(x:ac):Prop:=am.wf x.G/\N5 x.o/\Pd x.K/\MY x.M/\RV x.O/\Mw x.T/\aM.wf x.a1/\bD.wf x.a7/\pd x.b3/\pd x.b1/\pd x.c0/\pd x.b/\Wv x.k/\dE.wf x.Y
def ac.sml(x:ac):Prop:=am.sml x.G/\gM x.o/\fL x.K/\fG x.M/\PP x.O/\JH x.T/\aM.sml x.a1/\bD.sml x.a7/\dE.sml x.Y
structure kb where
 b0:Int
 c2:Int
 c6:Int
 c4:Int
deriving DecidableEq,Inhabited
def kb.enc(o:dQ)(x:kb):List C:=[I x.b0,I x.c2,I x.c6,I x.c4]
def kb.enc_fr(x:kb):iq (kb.enc .own x):=⟨trivial,trivial,trivial,trivial,trivial⟩
structure db where
 Id:Int
 q:Int
 c5:Int
deriving DecidableEq,Inhabited
def db.enc(o:dQ)(x:db):List C:=[I x.Id,I x.q,I x.c5]
def db.enc_fz(x:db):ed (db.enc .own x)=db.enc .S x:=by simp[ed,db.enc]
def db.enc_fr(x:db):iq (db.enc .own x):=⟨trivial,trivial,trivial,trivial⟩
structure aQ where
 Id:Int
 V:List Int
deriving DecidableEq,Inhabited
def aQ.enc(o:dQ)(x:aQ):List C:=[I x.Id,.s o (x.V.map (rI o))]
def aQ.enc_fz(x:aQ):ed (aQ.enc .own x)=aQ.enc .S x:=by simp[ed,aQ.enc,rI,<-cg,I8]
theorem aQ.enc_fr(x:aQ):iq (aQ.enc .own x):=⟨trivial,⟨.inl ψ,bc _ _ λy _=>rg y⟩,trivial⟩
def aQ.sml(x:aQ):Prop:=tC x.V
def F5(x:List aQ):Prop:=x.length<=1048576/\∀y∈x,aQ.sml y
structure aI where
 b:Int
 O:List aQ
deriving DecidableEq,Inhabited
def aI.enc(o:dQ)(x:aI):List C:=[I x.b,.s o (x.O.map (aQ.enc o))]
def aI.enc_fz(x:aI):ed (aI.enc .own x)=aI.enc .S x:=by simp[ed,aI.enc,aQ.enc_fz,<-cg,I8]
theorem aI.enc_fr(x:aI):iq (aI.enc .own x):=⟨trivial,⟨.inl ψ,bc _ _ λy _=>aQ.enc_fr y⟩,trivial⟩
def aI.sml(x:aI):Prop:=F5 x.O
structure bj where
 Z:ac
 b2:aI
deriving DecidableEq,Inhabited
def bj.enc(o:dQ)(x:bj):List C:=[.s o (x.Z.G.F.X.V.map (aJ o)),.s o (x.Z.G.F.X.a4.map (rB o)),.s o (x.Z.G.F.Q.J.map (bm.enc o)),I x.Z.G.Calls,.s o (x.Z.G.w.map (rI o)),.s o (x.Z.o.map (aC.enc o)),.s o (x.Z.K.map (aA.enc o)),.s o (x.Z.M.map (aB.enc o)),.s o (x.Z.O.map (aU.enc o)),.s o (x.Z.T.map (aE.enc o)),.s o (x.Z.a1.U.map (bO o)),.s o (x.Z.a1.u.map (aJ o)),I x.Z.a7.b7,.s o (x.Z.a7.a5.map (aO.enc o)),I x.Z.b3,I x.Z.b1,I x.Z.c0,I x.Z.b,B x.Z.k,I x.Z.Y.W.a3,I x.Z.Y.W.a0,.s o (x.Z.Y.W.V.map (rI o)),I x.Z.Y.a9,I x.Z.Y.b,I x.b2.b,.s o (x.b2.O.map (aQ.enc o))]
def bj.enc_fz(x:bj):ed (bj.enc .own x)=bj.enc .S x:=by simp[ed,bj.enc,Cb,bm.enc_fz,aB.enc_fz,aU.enc_fz,aC.enc_fz,aQ.enc_fz,aA.enc_fz,aO.enc_fz,rB,lR,rI,dm,<-cg,I8]
theorem bj.enc_fr(x:bj):iq (bj.enc .own x):=⟨⟨.inl ψ,bc _ _ λy _=>bQ y⟩,⟨.inl ψ,bc _ _ λy _=>FY y⟩,⟨.inl ψ,bc _ _ λy _=>bm.enc_fr y⟩,trivial,⟨.inl ψ,bc _ _ λy _=>rg y⟩,⟨.inl ψ,bc _ _ λy _=>aC.enc_fr y⟩,⟨.inl ψ,bc _ _ λy _=>aA.enc_fr y⟩,⟨.inl ψ,bc _ _ λy _=>aB.enc_fr y⟩,⟨.inl ψ,bc _ _ λy _=>aU.enc_fr y⟩,⟨.inl ψ,bc _ _ λy _=>aE.enc_fr y⟩,⟨.inl ψ,bc _ _ λy _=>sf y⟩,⟨.inl ψ,bc _ _ λy _=>bQ y⟩,trivial,⟨.inl ψ,bc _ _ λy _=>aO.enc_fr y⟩,trivial,trivial,trivial,trivial,trivial,trivial,trivial,⟨.inl ψ,bc _ _ λy _=>rg y⟩,trivial,trivial,trivial,⟨.inl ψ,bc _ _ λy _=>aQ.enc_fr y⟩,trivial⟩
structure Vv where
 a2:Int
 Mapped:Int
 X:Int
 Held:Int
 nA:Int
 Cached:Int
 b6:Int
 Posted:Int
deriving DecidableEq,Inhabited
def Lm{β:Type}{f:α->β}{l:List α}{K:Nat->Prop}(h:K l.length):Ln (l.map f).length K:=Ln.mk (O1 ..) h
def Wm{z:Int}{K:Int->Prop}(h : -9223372036854775808<=z/\z<=9223372036854775807)(a:K z):Wr .i64 z K:=CM (fJ h.1 h.2) a
variable{p:Prop}
def dT[Decidable p](h:p)(a:p->X):Bf (decide p) X Y:=.D a λe=>absurd h e
def dF[Decidable p](h:¬p)(a:¬p->Y):Bf (decide p) X Y:=.D (λe=>absurd e h) a
variable{b:Int}
def nT{a:Int}(h:a≠b)(c:a≠b->X):Bf (a != b) X Y:=.N c λe=>absurd e h
def nF{a:Int}(h:a=b)(c:a=b->Y):Bf (a != b) X Y:=.N (λe=>absurd h e) c
def eT{a:Int}(h:a=b)(c:a=b->X):Bf (a == b) X Y:=.E c λe=>absurd h e
def eF{a:Int}(h:a≠b)(c:a≠b->Y):Bf (a == b) X Y:=.E (λe=>absurd e h) c
def Bn{b:Bool}(h:Bf b Y X):Bf (!b) X Y:=.not h
def Bt(h:X):Bf true X Y:=.t rfl h
def Bu(h:Y):Bf false X Y:=.f rfl h
def Fm{b:Kd}(h1:k=b)(h:cs=a):js k b cs a:=.mk h1 h
def dV[Decidable p](h:p)(a:X):Bf (decide p) X Y:=.D (λ_=>a) λe=>absurd h e
def dW[Decidable p](h:¬p)(a:Y):Bf (decide p) X Y:=.D (λe=>absurd e h) λ_=>a
def nV{a:Int}(h:a≠b)(c:X):Bf (a != b) X Y:=.N (λ_=>c) λe=>absurd e h
def nW{a:Int}(h:a=b)(c:Y):Bf (a != b) X Y:=.N (λe=>absurd h e) λ_=>c
def eV{a:Int}(h:a=b)(c:X):Bf (a == b) X Y:=.E (λ_=>c) λe=>absurd h e
def eW{a:Int}(h:a≠b)(c:Y):Bf (a == b) X Y:=.E (λe=>absurd e h) λ_=>c
structure MR(Y:Prop):Prop where
 out:Y
def gO(y:Y)(h:MR Y->X:=by intro y;(conv=>whnf);(first|with_reducible (first|refine Lm ?_|refine Wm ω ?_|refine Bn ?_|refine Fm rfl ?_)|refine Bt ?_|refine Bu ?_|fail);exact y.out):X:=h ⟨y⟩
def gP(y:Y)(h:MR Y->X:=by intro y;(conv=>whnf);(first|with_reducible (first|refine Lm ?_|refine Wm ω ?_|refine Bn ?_|refine Fm rfl ?_)|refine Bt ?_|refine Bu ?_|refine CB (by assumption) ?_|refine CF (aa (by assumption)) ?_|refine CJ rfl (aa (by assumption)) rfl ?_|refine CE ?_|fail);exact y.out):X:=h ⟨y⟩
def gD(y:Y)(h:MR Y->X:=by intro y;(conv=>whnf);(first|with_reducible (first|refine Lm ?_|refine Wm ω ?_|refine dV ω ?_|refine dW ω ?_|refine Bn ?_|refine Fm rfl ?_)|refine Bt ?_|refine Bu ?_|fail);exact y.out):X:=h ⟨y⟩
def gE(y:Y)(h:MR Y->X:=by intro y;(conv=>whnf);(first|with_reducible (first|refine Lm ?_|refine Wm ω ?_|refine dV ω ?_|refine dW ω ?_|refine Bn ?_|refine Fm rfl ?_)|refine Bt ?_|refine Bu ?_|refine CB (by assumption) ?_|refine CF (aa (by assumption)) ?_|refine CJ rfl (aa (by assumption)) rfl ?_|refine CE ?_|fail);exact y.out):X:=h ⟨y⟩
def gA(y:Y)(h:MR Y->X:=by intro y;(conv=>whnf);(first|with_reducible (first|refine Lm ?_|refine Wm ω ?_|refine dV ω ?_|refine dW ω ?_|refine nV ω ?_|refine nW ω ?_|refine eV ω ?_|refine eW ω ?_|refine Bn ?_|refine Fm rfl ?_)|refine Bt ?_|refine Bu ?_|fail);exact y.out):X:=h ⟨y⟩
def gB(y:Y)(h:MR Y->X:=by intro y;(conv=>whnf);(first|with_reducible (first|refine Lm ?_|refine Wm ω ?_|refine dV ω ?_|refine dW ω ?_|refine nV ω ?_|refine nW ω ?_|refine eV ω ?_|refine eW ω ?_|refine Bn ?_|refine Fm rfl ?_)|refine Bt ?_|refine Bu ?_|refine CB (by assumption) ?_|refine CF (aa (by assumption)) ?_|refine CJ rfl (aa (by assumption)) rfl ?_|refine CE ?_|fail);exact y.out):X:=h ⟨y⟩
def V5{z1 z2:Int}(h:z1=z2):Tb (I z1) (I z2):=by subst h;rfl
def Wi(c:C):Tb c c:=(nB [c]).1
def wA(h:X:=by repeat'(first|exact trivial|rfl|refine CL ?_ ?_)):X:=h
def wB(h:X:=by repeat'(first|exact trivial|rfl|refine CL ?_ ?_|(exact V5 (by first|omega|(simp only;omega)|(simp;omega))))):X:=h
def wC(h:X:=by repeat'(first|exact trivial|rfl|exact Wi _|refine CL ?_ ?_|(exact V5 (by first|omega|(simp only;omega)|(simp;omega))))):X:=h
def fO(n : Nat){a : Func}(tb : List (Nat × Nat × List Nat))(d : Tryz.prog.funcs[f]? = some a)(e : a.body = some c)(g : aw Tryz.prog TE ⟨n, [], []⟩ (DF Tryz.prog TE ⟨n, [], []⟩ tb) c (TF TE a.results.toList k rcs) (lay (wE 0 A)))(b : sh = true \/ iq rcs := by exact .inr ⟨trivial, trivial⟩)(h : (a.name == "runtime.NumGoroutine") = false := by kernel_rfl)(i : gw (od tb) c = true := by kernel_rfl)(j : A.length + (a.ntmps - A.length) = n := by rfl) : zzA f sh A k rcs := VA d h e i j b g
def fP(n : Nat){a : Func}(mo : List (Nat × List Nat))(tb : List (Nat × Nat × List Nat))(d : Tryz.prog.funcs[f]? = some a)(e : a.body = some c)(g : aw Tryz.prog TE ⟨n, [], mo⟩ (DF Tryz.prog TE ⟨n, [], mo⟩ tb) c (TF TE a.results.toList k rcs) (lay (wE 0 A)))(b : sh = true \/ iq rcs := by exact .inr ⟨trivial, trivial⟩)(h : (a.name == "runtime.NumGoroutine") = false := by kernel_rfl)(i : gw (od tb) c = true := by kernel_rfl)(j : A.length + (a.ntmps - A.length) = n := by rfl) : zzA f sh A k rcs := VA d h e i j b g
def fM(n : Nat){a : Func}{A B : List MA}(mo : List (Nat × List Nat))(tb : List (Nat × Nat × List Nat))(b : List (Nat × Nat))(g : Tryz.prog.funcs[f]? = some a)(h : a.body = some c)(i : ∀(u : Nat -> Nat -> Value)(p : Nat -> Value), aw Tryz.prog TE ⟨n, LB p 0 A, mo⟩ (DF Tryz.prog TE ⟨n, LB p 0 A, mo⟩ tb) c (Va TE a.results.toList k rcs u A B b) (lay (zF u 0 A)))(d : sh = true \/ iq rcs := by exact .inr ⟨trivial, trivial⟩)(j : (a.name == "runtime.NumGoroutine") = false := by kernel_rfl)(l : gw (od tb) c = true := by kernel_rfl)(o : A.length + (a.ntmps - A.length) = n := by rfl)(e : JQ (G1 0 A b) = true := by rfl) : zzB f sh A B k rcs := V9 b g j h l o e d i
end Go.Proofs.YtiopgblagimpmaaGreat.Ab
