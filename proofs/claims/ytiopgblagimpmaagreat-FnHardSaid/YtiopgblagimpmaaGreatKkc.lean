/- A region that draws its order may be run in the text's order, where its operations are apart. No condition. -/
import Derived.Test.YtiopgblagimpmaaGreatKkb
import Derived.Orders
import Derived.Test.YtiopgblagimpmaaGreatKka
import Derived.KernelRfl
import Derived.Test.YtiopgblagimpmaaGreatProg
set_option linter.unusedVariables false
set_option linter.defProp false
set_option linter.unusedSimpArgs false
set_option linter.constructorNameAsVariable false
namespace Go.Proofs.YtiopgblagimpmaaGreat.Ab
open Go.RowKit
def dt(o:Oper)(i:Nat):Bool:=o.after.toList.any λe=>Region.binds .any e&&Nat.beq e.on i
def dD(ops:Array Oper)(i:Nat):Oper:=ops.getD i default
def below(n:Nat)(p:Nat->Bool):Bool:=(List.range n).all p
def vV(ops:Array Oper)(i j:Nat):Bool:=match(dD ops i).dst with|some d=>((dD ops j).looksAt ops).any (Nat.beq d)|none=>false
def J8:List Nat->Nat
 | []=>0
 | k::a=>2 ^ k ||| J8 a
def ons(o:Oper):List Nat:=(o.after.toList.filter λe=>Region.binds .any e).map (·.on)
variable{α:Type}
def frc(n:Nat)(K:Nat->α):α:=match n with|0=>K 0|n+1=>K (n+1)
def PN(n:Nat)(K:Nat->α):frc n K=K n:=by cases n<;>rfl
def clo(ops:Array Oper):Nat->Nat->Nat
 | 0,S=>S
 | k+1,S=>bif S.testBit k then frc (S ||| J8 (ons (dD ops k))) (clo ops k) else clo ops k S
def FY(ops:Array Oper)(m:Nat):Bool:=
 below ops.size λj=>((dD ops j).after.toList.all λe=>!Region.binds .any e || Nat.blt e.on j) &&
  (bif Nat.blt j m then below m (λi=>Nat.beq i j || ((dt (dD ops j) i || dt (dD ops i) j || (dD ops i).apart ops (dD ops j))&&(!vV ops i j || dt (dD ops j) i))) else frc (clo ops j (J8 (ons (dD ops j)))) λS=>below j λi=>S.testBit i)
def zD:List (Nat × Nat × List Nat)->Nat->Option (Nat × List Nat)
 | [],_=>none
 | p::l,id=>bif Nat.beq id p.1 then some p.2 else zD l id
def ix(P:Program)(TE:Nat->Option TI)(N:fN)(ops:Array Oper)(o:Oper)(K:(Nat->AV)->Prop)(F:Nat->AV):Prop:=
 gr F ops o.guard (λF=>match o.dst with|some d=>d9 P TE F o.op λa=>bU N F d a K|none=>False)
  (λF=>match o.dst with|some d=>bU N F d (.H (.tup []) []) K|none=>False)
def oU:Op->Option (Option Nat × Nat)
 | .buildSlice T 1 ps=>(match ps.toList with|[(0,.tmp s)]=>some (some T,s)|_=>none)
 | .move (.tmp s)=>some (none,s)
 | _=>none
def own1(T:Option Nat)(k:Kd)(cs:List C):Bool:=match T with
 | some _=>(match k with
   | .one=>(match cs with|[c]=>eG c|_=>false)
   | .agg=>(match cs with|[c]=>eG c|_=>false)
   | _=>false)
 | none=>(match k with|.tup _=>!bn cs|_=>false)
def VI(TE:Nat->Option TI)(N:fN)(F:Nat->AV)(d:Nat)(T:Option Nat)(s:Nat)(K:(Nat->AV)->Prop):Prop:=match T with
 | some T=>gV TE N F d T 1 [(0,.tmp s)] K
 | none=>jB N F d (.tmp s) K
def LZ(F:Nat->AV)(o:Oper):Option (Option Nat × Nat):=
 match o.guard with
 | some _=>none
 | none=>match oU o.op with
  | none=>none
  | some p=>match F p.2 with
   | .H k cs=>bif own1 p.1 k cs then some p else none
   | .dead=>none
   | .ref ..=>none
   | .c0 ..=>none
   | .iref ..=>none
   | .fn ..=>none
   | .fv _=>none
def kg(ops:Array Oper)(o:Oper)(s:Nat):Bool:=
 ((List.range ops.size).any λk=>dt o k&&(match(dD ops k).dst with|some a=>Nat.beq a s|none=>false))&&Nat.ble (ops.toList.filter λk=>(k.looksAt ops).any (Nat.beq s)).length 1
def rN(ds:List Nat)(o:Oper):Bool:=match o.dst with|some d=>ds.any (Nat.beq d)|none=>false
def twk:List Nat->List Nat
 | []=>[]
 | e::l=>bif Nat.ble 1000 e then(e - 1000)::twk l else []
def dec:List Nat->List (Nat × List Nat)
 | []=>[]
 | e::l=>bif Nat.ble 1000 e then dec l else(e,twk l)::dec l
def UN:Op->Bool
 | .move (.tmp _)=>true
 | .assign _=>true
 | .extract ..=>true
 | .build ..=>true
 | .buildSlice ..=>true
 | .store ..=>true
 | .load ..=>true
 | .fieldAddr ..=>true
 | .field ..=>true
 | .binOp ..=>true
 | .unOp ..=>true
 | .call c=>(ss c).isSome
 | .slice _ _ none (some _) none=>true
 | _=>false
def qi:Op->Bool
 | .call c=>(match c.callee with|.value (.func _)=>true|_=>false)
 | _=>false
def yG(l:List (Nat × List Nat))(i:Nat):Bool:=l.any λp=>Nat.beq p.1 i
def x6(ops:Array Oper)(j i:Nat):Bool:=(clo ops j (J8 (ons (dD ops j)))).testBit i
def VT(o:Oper):Bool:=match o.guard with|none=>true|some _=>false
def W8(sch:List (Nat × List Nat))(i:Nat):Bool:=sch.any λp=>Nat.beq p.1 i&&!p.2.isEmpty
def Wt(ops:Array Oper)(a b:Oper)(nm:Bool):Bool:=match b.dst with
 | none=>false
 | some c=>VT a&&(UN a.op || qi a.op)&&!(match a.dst with|some d=>Nat.beq d c|none=>false)&&!(a.looksAt ops).any (Nat.beq c)&&VT b&&!(b.looksAt ops).any (Nat.beq c)&&(nm || match oU b.op with|none=>true|some p=>!kg ops b p.2)
def El(ops:Array Oper)(ds:List Nat)(nm:Nat->Bool)(i j:Nat):Bool:=
 bif rN ds (dD ops j) then(bif rN ds (dD ops i) then(dt (dD ops j) i || dt (dD ops i) j || (dD ops i).apart ops (dD ops j))&&(!vV ops i j || dt (dD ops j) i)&&!(match(dD ops i).dst with|some d=>(match(dD ops j).dst with|some e=>Nat.beq d e|none=>false)|none=>false) else true)
 else(bif rN ds (dD ops i) then(x6 ops j i || x6 ops i j || Wt ops (dD ops j) (dD ops i) (nm i))&&(!vV ops i j || dt (dD ops j) i) else true)
def G6(ops:Array Oper)(ds:List Nat):List (Nat × List Nat)->Bool
 | []=>true
 | k::l=>Nat.blt k.1 ops.size&&!yG l k.1&&((dD ops k.1).after.toList.all λe=>!Region.binds .any e || !(Nat.beq k.1 e.on || yG l e.on)) &&
  (rN ds (dD ops k.1) || ((l.all λj=>x6 ops j.1 k.1)&&(below ops.size λp=>!rN ds (dD ops p) || yG l p || x6 ops k.1 p || k.2.any (Nat.beq p))&&(!(l.any λj=>rN ds (dD ops j.1)) || (VT (dD ops k.1)&&(UN (dD ops k.1).op || qi (dD ops k.1).op)))))&&G6 ops ds l
def EJ(ops:Array Oper)(ds:List Nat)(sch:List (Nat × List Nat)):Bool:=
 (below ops.size λj=>((dD ops j).after.toList.all λe=>!Region.binds .any e || Nat.blt e.on j)&&yG sch j&&(!rN ds (dD ops j) || (match oU (dD ops j).op with|none=>true|some p=>!kg ops (dD ops j) p.2 || ds.any (Nat.beq p.2)))&&below ops.size λi=>Nat.beq i j || El ops ds (W8 sch) i j)&&Nat.beq sch.length ops.size&&G6 ops ds sch
def nB(tb:List (Nat × Nat × List Nat))(id:Nat)(ops:Array Oper):Bool:=
 match zD tb id with
 | some (m,ds)=>bif Nat.ble 65536 m then true else bif Nat.ble 256 m then EJ ops (ds.take (m - 256)) (dec (ds.drop (m - 256))) else(Nat.ble m ops.size&&below m λj=>match(dD ops j).dst with|some d=>ds.any (Nat.beq d)|none=>true)&&FY ops m
 | none=>false
def mD(P:Program)(TE:Nat->Option TI)(N:fN)(ops:Array Oper)(o:Oper)(K:(Nat->AV)->Prop)(F:Nat->AV):Prop:=
 match LZ F o with
 | some p=>(match o.dst with|some d=>bif kg ops o p.2 then VI TE N F d p.1 p.2 K else False|none=>False)
 | none=>ix P TE N ops o K F
def Q0(P:Program)(TE:Nat->Option TI)(N:fN)(ops:Array Oper):Nat->List Oper->((Nat->AV)->Prop)->(Nat->AV)->Prop
 | 0,l,K,F=>N7 P TE N ops l K F
 | _+1,[],K,F=>K F
 | m+1,o::l,K,F=>mD P TE N ops o (Q0 P TE N ops m l K) F
def U1(ds:List Nat)(t:Nat):Bool:=ds.any (Nat.beq t)
def WH(ds:List Nat):AV->AV
 | .ref t off st=>bif U1 ds t then .dead else .ref t off st
 | .c0 t off st ag=>bif U1 ds t then .dead else .c0 t off st ag
 | .fn f caps=>bif caps.any (U1 ds) then .dead else .fn f caps
 | .H k cs=>.H k cs
 | .iref r off=>.iref r off
 | .fv Ok=>.fv Ok
 | .dead=>.dead
def clr(ds:List Nat)(F:Nat->AV):Nat->AV:=λt=>WH ds (F t)
theorem F7(ds:List Nat)(F:Nat->AV)(t:Nat):clr ds F t=bif ds.any (λd=>(F t).uses d) then .dead else F t:=by
 unfold clr;cases F t with
 | dead=>cases ds.any λd=>AV.uses d .dead<;>rfl
 | H k i=>
  have:ds.any (λd=>(AV.H k i).uses d)=false:=by
   rw[<-S7,t5]
   rintro⟨d,_,h⟩
   cases h
  rw[this];rfl
 | iref r a=>
  have:ds.any (λd=>(AV.iref r a).uses d)=false:=by
   rw[<-S7,t5]
   rintro⟨d,_,h⟩
   cases h
  rw[this];rfl
 | fv Ok=>
  have:ds.any (λd=>(AV.fv Ok).uses d)=false:=by
   rw[<-S7,t5]
   rintro⟨d,_,h⟩
   cases h
  rw[this];rfl
 | ref j a l=>rfl
 | c0 j a l n=>rfl
 | fn f caps=>
  have:ds.any (λd=>(AV.fn f caps).uses d)=caps.any (U1 ds):=by
   rw[I6,t5,t5];constructor
   ·rintro⟨d,b,h⟩
    simp only[AV.uses,t5]at h;obtain⟨c,e,g⟩:=h;exact⟨c,e,t5.2 ⟨d,b,g⟩⟩
   rintro⟨c,e,h⟩
   obtain⟨d,b,g⟩:=t5.1 h
   grind [AV.uses]
  rw[this];rfl
inductive Sm(a b:AV)(K:Prop):Prop
 |mk_ (h:a=b/\K)
def Sm.rf{a:AV}{K:Prop}(h:K):Sm a a K:=.mk_ ⟨rfl,h⟩
def CD:type_of% @Sm.rf:=@Sm.rf
def Sm.out{a b:AV}{K:Prop}(h:Sm a b K):a=b/\K:=h.1
def VV(P:Program)(TE:Nat->Option TI)(ops:Array Oper)(p:Nat)(K:Prop)(F:Nat->AV):Prop:=
 match(dD ops p).dst with
 | none=>False
 | some d=>(match LZ F (dD ops p) with
   | some _=>False
   | none=>d9 P TE F (dD ops p).op λa=>Sm a (F d) K)
def Ro(P:Program)(TE:Nat->Option TI)(ops:Array Oper):List Nat->Prop->(Nat->AV)->Prop
 | [],K,_=>K
 | p::l,K,F=>VV P TE ops p (Ro P TE ops l K F) F
def PP(P:Program)(TE:Nat->Option TI)(N:fN)(ops:Array Oper)(nm:Bool)(o:Oper)(K:(Nat->AV)->Prop)(F:Nat->AV):Prop:=
 match nm with
 | false=>mD P TE N ops o K F
 | true=>(match LZ F o with
   | some _=>False
   | none=>ix P TE N ops o K F)
def N2(P:Program)(TE:Nat->Option TI)(N:fN)(ops:Array Oper)(ds:List Nat)(nm:Nat->Bool):List (Nat × List Nat)->((Nat->AV)->Prop)->(Nat->AV)->Prop
 | [],K,F=>K F
 | k::l,K,F=>bif rN ds (dD ops k.1) then PP P TE N ops (nm k.1) (dD ops k.1) (N2 P TE N ops ds nm l K) F else jR P TE N ops (dD ops k.1) (λa=>Ro P TE ops k.2 (N2 P TE N ops ds nm l K a) a) F
def Ug:List Nat->(List Nat->Prop)->Prop
 | [],K=>K []
 | a::l,K=>Ug l λb=>K (a::b)
def M5:∀(l:List Nat)(K:List Nat->Prop),Ug l K=K l
 | [],_=>rfl
 | a::l,K=>by rw[Ug,M5 l]
def EF(l:List Nat)(j:Nat):Bool:=l.any (Nat.beq j)
def Qx(ops:Array Oper)(done:List Nat):List Nat:=(List.range ops.size).filter λj=>!EF done j&&((dD ops j).after.toList.all λe=>!Region.binds .any e || EF done e.on)
def WS(p:Nat->Prop):Nat->List Nat->Prop
 | i,[]=>p i
 | i,j::l=>p i/\WS p j l
def WO(l:List Nat)(K:Prop)(p:Nat->Prop):Prop:=match l with
 | []=>K
 | i::l=>WS p i l
def Vr(P:Program)(TE:Nat->Option TI)(N:fN)(ops:Array Oper)(K:(Nat->AV)->Prop):Nat->List Nat->(Nat->AV)->Prop
 | 0,done,F=>WO (Qx ops done) (K F) λ_=>False
 | n+1,done,F=>WO (Qx ops done) (K F) λi=>jR P TE N ops (dD ops i) (Vr P TE N ops K n (i::done)) F
def DD(P:Program)(TE:Nat->Option TI)(N:fN)(tb:List (Nat × Nat × List Nat))(id:Nat)(ops:Array Oper)(K:(Nat->AV)->Prop)(F:Nat->AV):Prop:=
 match zD tb id with
 | some (m,ds)=>bif Nat.ble 65536 m then Vr P TE N ops K ops.size [] F else bif Nat.ble 256 m then Ug (ds.take (m - 256)) λa=>N2 P TE N ops a (W8 (dec (ds.drop (m - 256)))) (dec (ds.drop (m - 256))) K (clr a F) else Q0 P TE N ops m ops.toList K (clr ds F)
 | none=>False
variable{i n:Nat}
theorem i7{p:Nat->Bool}(h:below n p=true)(a:i<n):p i=true:=v5.1 h i ψ
theorem cG{o:Oper} : dt o i=true↔∃e,e∈o.after/\Region.binds .any e=true/\e.on=i:=by grind [z3,Nat.beq_refl,dt]
theorem bE{ops:Array Oper}{o:Oper}(h:ops[i]? = some o):dD ops i=o:=by simp[dD,t9,h]
section
variable{P:Program}{w0 w w1:World}{M S0 S:am}{N:fN}{φ:Nat->am}{F:Nat->AV}{a:Act}{TE:Nat->Option TI}{ops:Array Oper}
variable{d:Nat}
theorem Eg{b:Bool}(a:F d=.H .one [.v (.bool b)]):G4 F d b=F:=by grind [z3,G4]
theorem jm(o:Oper)(t:Nat)(h:t∈dJ o.op):t∈o.looksAt ops:=by grind [Go.Oper.looksAt,dJ,tm]
structure WE(P:Program)(TE:Nat->Option TI)(N:fN)(ops:Array Oper)(o:Oper)(F:Nat->AV)(d:Nat)(av:AV):Prop where
 dst:o.dst=some d
 lt:N.free d=true
 self:av.uses d=false
 from_:eX F (o.looksAt ops) av
 at_:∀F':Nat->AV,iN F F' (o.looksAt ops)->∀K':(Nat->AV)->Prop,K' (put F' d av)->ix P TE N ops o K' F'
def iN.refl(F:Nat->AV)(ts:List Nat):iN F F ts:=λ_ _=>⟨rfl,λ_ _ _ _ h=>h⟩
theorem Ci:type_of% @iN.refl:=@iN.refl
variable{K:(Nat->AV)->Prop}{o:Oper}
theorem zo(h:ix P TE N ops o K F):∃d av,WE P TE N ops o F d av/\K (put F d av):=by
 cases e:o.dst with
 | none=>
  exfalso;unfold ix at h;rw[e]at h;unfold gr at h
  grind [Bf.out]
 | some d=>
  have put1:∀{a:Nat->AV}{av:AV}{c:(Nat->AV)->Prop},N.free d=true->av.uses d=false->c (put a d av)->bU N a d av c:=λA B E=>by grind [bU]
  have put2:∀{a:Nat->AV}{av:AV}{c:(Nat->AV)->Prop},bU N a d av c->N.free d=true/\av.uses d=false/\c (put a d av):=fun {a av c} n=>by grind [bU]
  have pure1:d9 P TE F o.op (λav=>bU N F d av K)->∃av,N.free d=true/\av.uses d=false/\K (put F d av)/\eX F (o.looksAt ops) av/\∀a:Nat->AV,iN F a (o.looksAt ops)->∀c:(Nat->AV)->Prop,c (put a d av)->d9 P TE a o.op (λav=>bU N a d av c):=λn=>by
   obtain⟨av,A,B,E⟩:=kN n
   grind [eX.mono,jm,iN.mono]
  unfold ix at h;rw[e]at h;unfold gr at h;cases r:o.guard with
  | none=>
   rw[r]at h;obtain⟨av,i,k,l,w,C⟩:=pure1 h;exact⟨d,av,⟨e,i,k,w,λa f c t=>by unfold ix gr;simp_all⟩,l⟩
  | some p=>
   obtain⟨j,want⟩:=p;rw[r]at h;simp only at h;cases y:(ops[j]?).bind (·.dst) with
   | none=>grind
   | some u=>
    rw[y]at h;simp only at h;have q:u∈o.looksAt ops:=by grind [Go.Oper.looksAt]
    split at h
    case h_3=>exact h.elim
    case h_2=>
     rename_i J L g;obtain⟨i,k,l⟩:=put2 h;refine⟨d,.H (.tup []) [],⟨e,i,k,(λd e=>by cases e),λa f c t=>?_⟩,l⟩;unfold ix gr;rw[r,e];simp only;rw[y];simp only;rw[(f u q).1.trans g];exact put1 i k t
    rename_i b g;have same:∀{a:Nat->AV},iN F a (o.looksAt ops)->a u=.H .one [.v (.bool b)]:=λf=>(f u q).1.trans g
    have back:∀{a:Nat->AV}{c:(Nat->AV)->Prop},iN F a (o.looksAt ops)->(b=want->d9 P TE a o.op (λav=>bU N a d av c))->(b = !want->bU N a d (.H (.tup []) []) c)->ix P TE N ops o c a:=fun {a c} f A B=>by
     unfold ix gr;rw[r,e];simp only;rw[y];simp only;rw[same f];simp only;refine Bf.P (λG=>?_) (λG=>?_)
     all_goals grind [Eg]
    have D:=Eg g;replace h:=Bf.out h;by_cases H:b=want
    ·have n:d9 P TE F o.op (λav=>bU N F d av K):=ψ
     obtain⟨av,i,k,l,w,C⟩:=pure1 n;exact⟨d,av,⟨e,i,k,w,λa f c t=>back f (λ_=>C a f c t) ψ⟩,l⟩
    have n:bU N F d (.H (.tup []) []) K:=ψ
    obtain⟨i,k,l⟩:=put2 n;exact⟨d,.H (.tup []) [],⟨e,i,k,(λd e=>by cases e),ψ⟩,l⟩
def aft:AV->AV
 | .H k a=>.H k (splice a 0 (List.replicate a.length .x))
 | _=>.H .one [.x]
theorem Qy(v:AV)(e:Nat):(aft v).uses e=false:=by unfold aft;split<;>rfl
def eff(a:Option Nat)(d:Nat)(av:AV)(F:Nat->AV):Nat->AV:=λt=>if t=d then av else if a=some t then aft (F t) else F t
theorem FH(av:AV)(a:∀t,(F t).uses d=false):put F d av=eff none d av F:=by grind [qh,jt,Du,eff]
variable{s:Nat}
theorem Vk{v:AV}(h:v.uses s=false):tN s v=v:=by
 cases v with
 | c0 t a b c=>grind [AV.uses,tN]
 | ref t a b=>simp only[AV.uses]at h;cases b<;>simp[tN,h]
 | _=>rfl
theorem Qi{k:Kd}{cs:List C}(av:AV)(a:F s=.H k cs)(c:∀t,(F t).uses d=false)(e:∀t,(F t).uses s=false):put (updH F s k (splice cs 0 (List.replicate cs.length .x))) d av=eff (some s) d av F:=by
 funext t
 unfold eff;by_cases h:t=d
 ·grind [qh]
 rw[jt _ _ h,CC h];by_cases b:t=s
 ·subst b;rw[ju,CE rfl,a];rfl
 grind [Nat.beq_eq,Vk,Du,updH]
theorem KZ{T:Nat}{k:Kd}{c:C}(o:k=.one\/k=.agg)(p:F s=.H k [c])(q:eG c=true)(h:gV TE N F d T 1 [(0,.tmp s)] K) :
  ∃av,N.free d=true/\(∀e,av.uses e=false)/\K (put (updH F s k [.x]) d av)/\∀(F':Nat->AV)(b:(Nat->AV)->Prop),F' s=.H k [c]->b (put (updH F' s k [.x]) d av)->gV TE N F' d T 1 [(0,.tmp s)] b:=by
 have key:∀F':Nat->AV,F' s=.H k [c]->∀b:(Nat->AV)->Prop,gV TE N F' d T 1 [(0,.tmp s)] b=JV TE T λ_ a=>bif Nat.ble (1*a.size) 16777216 then(bif Nat.beq 1 a.size&&Nat.ble (0*a.size+a.size) (rep a.zero 1).length then bU N (updH F' s k [.x]) d (.H .one [.s .own (chunk a.size 1 (splice (rep a.zero 1) (0*a.size) [c]))]) b else False) else False:=by
  intro F' f b;unfold gV
  congr 1
  funext e a
  rcases o with rfl|rfl<;>simp only[dB,fillW,WC,wZ,ox,f,jj,bn,q,cond_true,cond_false,iu,qN,List.length_singleton,List.replicate]
  all_goals rfl
 rw[key F p]at h;obtain⟨e,a,g,n⟩:=ja h;cases i:Nat.ble (1*a.size) 16777216 with
 | false=>grind
 | true=>
  cases j:(Nat.beq 1 a.size&&Nat.ble (0*a.size+a.size) (rep a.zero 1).length) with
  | false=>grind
  | true=>
   rw[i,j]at g;simp only[cond_true]at g;unfold bU at g;cases l:N.free d with
   | false=>grind
   | true=>
    rw[l]at g;refine⟨_,rfl,λ_=>rfl,g,λF' b f r=>?_⟩
    grind [bU]
variable{T:Option Nat}
theorem V6{k:Kd}{cs:List C}(j:F s=.H k cs)(l:own1 T k cs=true)(h:VI TE N F d T s K) :
  ∃av,N.free d=true/\(∀e,av.uses e=false)/\K (put (updH F s k (splice cs 0 (List.replicate cs.length .x))) d av)/\∀(F':Nat->AV)(a:(Nat->AV)->Prop),F' s=.H k cs->a (put (updH F' s k (splice cs 0 (List.replicate cs.length .x))) d av)->VI TE N F' d T s a:=by
 cases T with
 | some T=>
  have f:(k=.one\/k=.agg)/\∃c,cs=[c]/\eG c=true:=by
   unfold own1 at l
   grind
  obtain⟨n,c,rfl,o⟩:=f;exact KZ n j o h
 | none=>
  have f:∃b,k=.tup b/\bn cs=false:=by
   unfold own1 at l
   grind
  obtain⟨b,rfl,p⟩:=f;have key:∀F':Nat->AV,F' s=.H (.tup b) cs->∀a,VI TE N F' d none s a=bU N (updH F' s (.tup b) (splice cs 0 (List.replicate cs.length .x))) d (.H (.tup b) cs) a:=λF' g a=>by grind [VI,jB]
  rw[key F j]at h;unfold bU at h;cases i:N.free d with
  | false=>grind
  | true=>
   rw[i]at h;refine⟨_,rfl,λ_=>rfl,h,λF' a g q=>?_⟩
   grind [bU]
structure Yl(P:Program)(TE:Nat->Option TI)(N:fN)(ops:Array Oper)(o:Oper)(F:Nat->AV)(mv:Option Nat)(d:Nat)(av:AV):Prop where
 dst:o.dst=some d
 lt:N.free d=true
 self:av.uses d=false
 from_:eX F (o.looksAt ops) av
 mvl:∀s,mv=some s->o.guard=none/\(∃T,oU o.op=some (T,s))/\kg ops o s=true
 at_:∀F':Nat->AV,iN F F' (o.looksAt ops)->(∀t,(F' t).uses d=false)->(∀s,mv=some s->∀t,(F' t).uses s=false)->∀K':(Nat->AV)->Prop,K' (eff mv d av F')->mD P TE N ops o K' F'
theorem MG{o:Op}(h:oU o=some (T,s)):(∃a ps,T=some a/\o=.buildSlice a 1 ps/\ps.toList=[(0,.tmp s)])\/(T=none/\o=.move (.tmp s)):=by
 unfold oU at h
 grind
theorem dn(h:oU o.op=some (T,s)):s∈o.looksAt ops:=by
 refine jm o s ?_;unfold dJ;refine List.mem_flatMap.2 ⟨.tmp s,?_,by simp[tm]⟩
 grind [MG,Go.Op.operands]
theorem Ja{p:Option Nat × Nat}(h:LZ F o=some p):o.guard=none/\oU o.op=some p/\∃k cs,F p.2=.H k cs/\own1 p.1 k cs=true:=by grind [LZ]
theorem xS{F':Nat->AV}(a:iN F F' (o.looksAt ops)):LZ F' o=LZ F o:=by
 unfold LZ;cases c:o.guard with
 | some _=>rfl
 | none=>
  cases b:oU o.op with
  | none=>rfl
  | some p=>simp only;rw[(a p.2 (dn b)).1]
theorem uF(c:LZ F o=none)(h:ix P TE N ops o K F)(e:∀d,o.dst=some d->∀t,(F t).uses d=false):∃d av,Yl P TE N ops o F none d av/\K (eff none d av F):=by
 obtain⟨d,av,a,f⟩:=zo h;refine⟨d,av,⟨a.dst,a.lt,a.self,a.from_,ψ,λg i j _ k b=>?_⟩,by grind [FH,WE.dst]⟩
 grind [xS,WE.at_,FH,mD]
theorem rz(h:mD P TE N ops o K F)(E:∀d,o.dst=some d->∀t,(F t).uses d=false)(y:∀T s,o.guard=none->oU o.op=some (T,s)->kg ops o s=true->∀t,(F t).uses s=false) :
  ∃r d av,Yl P TE N ops o F r d av/\K (eff r d av F):=by
 unfold mD at h;cases f:LZ F o with
 | none=>
  grind [uF]
 | some p=>
  rw[f]at h;obtain⟨G,a,k,H,g,b⟩:=Ja f;simp only at h;cases i:o.dst with
  | none=>grind
  | some d=>
   rw[i]at h;simp only at h;cases c:kg ops o p.2 with
   | false=>grind
   | true=>
    rw[c]at h;simp only[cond_true]at h;obtain⟨av,A,u,J,B⟩:=V6 g b h;refine⟨some p.2,d,av,⟨i,A,u d,λe w=>(by rw[u e]at w;cases w),λs y=>?_,λC j l n D q=>?_⟩,?_⟩
    ·grind
    ·unfold mD
     rw[xS j,f];simp only;rw[i];simp only;rw[c];refine B C D ((j p.2 (dn a)).1.trans g) ?_;rw[Qi av ((j p.2 (dn a)).1.trans g) l (n p.2 rfl)];exact q
    grind [Qi]
theorem Pz{nm:Bool}(h:PP P TE N ops nm o K F)(b:∀d,o.dst=some d->∀t,(F t).uses d=false)(c:∀T s,o.guard=none->oU o.op=some (T,s)->kg ops o s=true->∀t,(F t).uses s=false) :
  ∃a d av,Yl P TE N ops o F a d av/\K (eff a d av F)/\(nm=true->a=none):=by
 unfold PP at h
 grind [rz,uF]
end
section
variable{P:Program}{w0 w w1:World}{M S0 S:am}{N:fN}{φ:Nat->am}{F:Nat->AV}{a:Act}{TE:Nat->Option TI}{ops:Array Oper}
def zy(P:Program)(TE:Nat->Option TI)(N:fN)(ops:Array Oper)(m i:Nat)(K:(Nat->AV)->Prop)(F:Nat->AV):Prop:=
 match ops[i]? with
 | none=>K F
 | some o=>if i<m then mD P TE N ops o K F else jR P TE N ops o K F
def Kf(P:Program)(TE:Nat->Option TI)(N:fN)(ops:Array Oper)(m:Nat)(K:(Nat->AV)->Prop):Nat->Array Bool->(Nat->AV)->Prop
 | 0,listed,F=>Region.ready .any ops listed=[]/\K F
 | fuel+1,listed,F=>(Region.ready .any ops listed=[]->K F)/\∀i,i∈Region.ready .any ops listed->zy P TE N ops m i (Kf P TE N ops m K fuel (listed.setIfInBounds i true)) F
variable{Q:Exit->Act->World->Prop}{Kc:Act->World->Prop}{K:(Nat->AV)->Prop}{o:Oper}
theorem bj.oneP0(h:bj w0 M S0 N S φ F a w)(c:∀t i,TE t=some i->iO P t i)(b:ix P TE N ops o K F)(p:∀F' j e,K F'->St w0 M S0 N F' j e->Kc j e) :
  if Region.wanted o (yielded ops a.tmps) then o.wp P a w Kc Q else Kc (a.put o.dst undef) w:=by
 unfold ix at b;rcases zQ h b with⟨f,b⟩|⟨f,b⟩
 ·rw[f,CE rfl]
  cases g:o.dst with
  | none=>grind
  | some d=>
   rw[g]at b;obtain⟨av,k,l⟩:=h.pure_ c b;refine l Kc Q λv e q=>?_
   grind [bj.putD_new]
 rw[f,CC (by simp)];cases g:o.dst with
 | none=>grind
 | some d=>
  rw[g]at b;obtain⟨F',k,n⟩:=h.putD_new (v:=undef) (mK.same (av:=.H (.tup []) []) Tl) b
  grind
variable{d:Nat}
def Nq{p:Option Nat × Nat}(f:LZ F o=some p)(c:o.dst=some d)(h:VI TE N F d p.1 p.2 K):jR P TE N ops o K F:=by
 obtain⟨e,a,-⟩:=Ja f;obtain⟨T,s⟩:=p;rcases MG a with⟨i,j,rfl,b,g⟩|⟨rfl,b⟩
 ·unfold jR gr
  rw[e];simp only;rw[b];simp only[Ef];rw[c];simp only[l9,g];exact h
 unfold jR gr;rw[e];simp only;rw[b];simp only[Ef];rw[c];simp only[l9];exact h
theorem bj.oneP(h:bj w0 M S0 N S φ F a w)(c:∀t i,TE t=some i->iO P t i)(b:mD P TE N ops o K F)(g:∀F' j k,K F'->St w0 M S0 N F' j k->Kc j k) :
  if Region.wanted o (yielded ops a.tmps) then o.wp P a w Kc Q else Kc (a.put o.dst undef) w:=by
 unfold mD at b;cases e:LZ F o with
 | none=>rw[e]at b;exact h.oneP0 c b g
 | some p=>
  rw[e]at b;simp only at b;cases l:o.dst with
  | none=>grind
  | some d=>
   rw[l]at b;simp only at b;cases f:kg ops o p.2 with
   | false=>grind
   | true=>
    rw[f]at b;have:=h.one c (Nq (P:=P) (ops:=ops) e l b) (Q:=Q) g
    grind
variable{m i:Nat}
theorem LD(c:∀t i,TE t=some i->iO P t i)(b:zy P TE N ops m i K F)(g:St w0 M S0 N F a w)(d:∀F' e f,K F'->St w0 M S0 N F' e f->Kc e f):wpOp P ops Q i Kc a w:=by
 unfold zy at b;unfold wpOp;cases j:ops[i]? with
 | none=>grind
 | some o=>
  rw[j]at b;simp only at b |-;obtain⟨S,φ,h⟩:=g;have:if Region.wanted o (yielded ops a.tmps) then o.wp P a w Kc Q else Kc (a.put o.dst undef) w:=by
   split at b
   ·exact h.oneP c b d
   exact h.one c b d
  grind
def Em(b:∀t i,TE t=some i->iO P t i){m:Nat}{K:(Nat->AV)->Prop}{Q:Exit->Act->World->Prop}(g:∀F' d e,K F'->St w0 M S0 N F' d e->Q .normal d e) :
  ∀(fuel:Nat)(listed:Array Bool)(F:Nat->AV)(a:Act)(w:World),Kf P TE N ops m K fuel listed F->St w0 M S0 N F a w->wpAny P .any ops Q fuel listed a w
 | 0,_,F,a,w,c,f=>⟨c.1,g F a w c.2 f⟩
 | fuel+1,_,F,a,w,c,f=>⟨λj=>g F a w (c.1 j) f,λi k=>LD b (c.2 i k) f λF' d e l h=>Em b g fuel _ F' d e l h⟩
structure Ei(ops:Array Oper)(m:Nat)(F:Nat->AV)(listed:Array Bool):Prop where
 dst:∀j o d,j<m->ops[j]? = some o->listed.getD j true=false->o.dst=some d->∀t,(F t).uses d=false
 mv:∀j o T s,j<m->ops[j]? = some o->listed.getD j true=false->o.guard=none->oU o.op=some (T,s)->kg ops o s=true->∀t,(F t).uses s=false
def DC(ops:Array Oper)(listed:Array Bool):Prop:=∀j a,ops[j]? = some a->listed.getD j false=true->∀k,dt a k=true->listed.getD k false=true
variable{e:Nat}
theorem Ut{v:AV}(h:(kl d v).uses e=true):v.uses e=true/\v.uses d=false:=by
 rw[Du]at h;cases a:v.uses d with
 | true=>rw[a]at h;cases h
 | false=>grind
theorem A2{α:Type}{p:α->Bool} : ∀{l:List α}{i j:Nat}{x y:α},(l.filter p).length<=1->l[i]? = some x->l[j]? = some y->p x=true->p y=true->i=j
 | [],_,_,_,_,_,h,_,_,_=>by simp at h
 | a::l,0,0,_,_,_,_,_,_,_=>rfl
 | a::l,i+1,j+1,x,y,h,b,c,d,e=>by
  rw[A2 (l:=l) (O6 (List.Sublist.length_le ((List.sublist_cons_self a l).filter p)) h) b c d e]
 | a::l,0,j+1,x,y,h,b,c,d,e=>by
  simp only[List.getElem?_cons_zero,I1]at b;subst b;rw[List.filter_cons_of_pos d]at h;have:y∈l.filter p:=X5.2 ⟨Z2 c,e⟩;have:=List.length_pos_of_mem this;rw[List.length_cons]at h;omega
 | a::l,i+1,0,x,y,h,b,c,d,e=>by
  simp only[List.getElem?_cons_zero,I1]at c;subst c;rw[List.filter_cons_of_pos e]at h;have:x∈l.filter p:=X5.2 ⟨Z2 b,d⟩;have:=List.length_pos_of_mem this;rw[List.length_cons]at h;omega
variable{j:Nat}{listed:Array Bool}
theorem j7{a:Nat}(b:(listed.setIfInBounds j true).getD a true=false):a≠j:=λe=>by simp_all
variable{av:AV}{t:Nat}
theorem kK{a:Option Nat}(b:av.uses e=false)(c:(F t).uses e=false):(eff a d av F t).uses e=false:=by grind [Qy,eff]
theorem Ei.put{o:Option Nat}(h:Ei ops m F listed)(p:∀a b g,a<m->a≠j->ops[a]? = some b->listed.getD a true=false->b.dst=some g->av.uses g=false)(q:∀a b T s,a<m->a≠j->ops[a]? = some b->listed.getD a true=false->b.guard=none->oU b.op=some (T,s)->kg ops b s=true->av.uses s=false) :
  Ei ops m (eff o d av F) (listed.setIfInBounds j true):=by
 refine⟨λa b g i c e k t=>?_,λa b T s i c e r l n t=>?_⟩
 ·have f:=j7 e
  rw[getD_set_ne true (Ne.symm f)]at e;exact kK ψ (h.dst a b g i c e k t)
 have f:=j7 e;rw[getD_set_ne true (Ne.symm f)]at e;exact kK ψ (h.mv a b T s i c e r l n t)
inductive pL(ops:Array Oper):Nat->Nat->Prop
 |one {j i:Nat} (h:dt (dD ops j) i=true):pL ops j i
 |step {j k i:Nat} (h:dt (dD ops j) k=true) (h2:pL ops k i):pL ops j i
def pL.trans{k:Nat}(h:pL ops j k)(a:pL ops k i):pL ops j i:=by
 induction h with
 | one h=>exact .step h a
 | step h _ b=>exact .step h (b a)
theorem Jj{i:Nat} : ∀{a:List Nat},(J8 a).testBit i=true->i∈a
 | [],h=>by simp[J8]at h
 | k::a,h=>by
  rw[J8,Nat.testBit_or,X8]at h;rcases h with h|h
  ·grind
  exact O7 _ (Jj h)
theorem yW(h:(J8 (ons o)).testBit i=true):dt o i=true:=by
 have:=Jj h
 grind [cG,ons]
def u7{j:Nat} : ∀(k S:Nat),(∀i,S.testBit i=true->pL ops j i)->∀i,(clo ops k S).testBit i=true->pL ops j i
 | 0,_,h,i,a=>h i a
 | k+1,S,h,i,a=>by
  rw[clo,PN]at a;cases c:S.testBit k with
  | false=>rw[c]at a;exact u7 k S h i a
  | true=>
   rw[c]at a;refine u7 k _ (λe b=>?_) i a;rw[Nat.testBit_or,X8]at b;rcases b with d|d
   ·exact h e d
   exact(h k c).trans (.one (yW d))
theorem oN(d:DC ops listed)(b:∀j n,ops[j]? = some n->∀e∈n.after,Region.binds .any e=true->e.on<j)(o:pL ops j i):j<ops.size->(∀k,dt (dD ops j) k=true->listed.getD k false=true)->listed.getD i false=true:=by
 induction o with
 | one h=>grind
 | @step j k i h h2 ih=>
  intro f p;have r:k<j:=by
   have c:=(show ops[j]? = some ops[j] from Y8 f)
   rw[bE c]at h;obtain⟨e,g,l,rfl⟩:=cG.1 h;exact b j _ c e g l
  have a:k<ops.size:=ω
  have c:=(show ops[k]? = some ops[k] from Y8 a)
  exact ih a λq a=>d k _ c (p k h) q (by rw[bE c]at a;exact a)
theorem DC.put(h:DC ops listed)(d:j∈Region.ready .any ops listed):DC ops (listed.setIfInBounds j true):=by
 obtain⟨l,n,f,b⟩:=mem_ready.1 d;intro k ok g c e i;by_cases a:k=j
 ·grind [cG,Go.getD_set_true]
 rw[getD_set_ne false (Ne.symm a)]at c;exact getD_set_true (h k ok g c e i)
theorem gX{s:Nat}(h:kg ops o s=true):(∃k ok,dt o k=true/\ops[k]? = some ok/\ok.dst=some s)/\∀(i j:Nat)(a b:Oper),ops[i]? = some a->ops[j]? = some b->s∈a.looksAt ops->s∈b.looksAt ops->i=j:=by
 unfold kg at h;rw[I0]at h;obtain⟨q,c⟩:=h;constructor
 ·grind [bE,z3]
 intro i j a b d e f g;have l:=Z1 c;have n:ops.toList[i]? = some a:=by simpa using d
 have p:ops.toList[j]? = some b:=by simpa using e
 grind [Nat.beq_refl,A2]
structure Vj(ops:Array Oper)(m:Nat):Prop where
 back:∀j oj,ops[j]? = some oj->∀e∈oj.after,Region.binds .any e=true->e.on<j
 tail:∀j,m<=j->j<ops.size->∀i,i<j->pL ops j i
 apart:∀i j oi oj,i<m->j<m->i≠j->ops[i]? = some oi->ops[j]? = some oj->dt oj i=true\/dt oi j=true\/oi.apart ops oj=true
 look:∀i j oi oj d,i<m->j<m->i≠j->ops[i]? = some oi->ops[j]? = some oj->oi.dst=some d->d∈oj.looksAt ops->dt oj i=true
theorem Hb(h:FY ops m=true):Vj ops m:=by
 have o:∀j b,ops[j]? = some b->_:=λj b a=>i7 h (O4.1 a).1
 refine⟨λj b a e t p=>?_,λj u a i f=>?_,λi j q b f a g r k=>?_,λi j q b d f a g r k w y=>?_⟩
 ·grind [bE,Nat.blt_eq]
 ·have l:=(show ops[j]? = some ops[j] from Y8 a)
  have:=o j _ l;simp only[I0]at this;have c:=this.2;rw[show Nat.blt j m=false by rw[<-S7,Nat.blt_eq];omega]at c;simp only[cond_false,PN]at c;exact u7 j _ (λA n=>.one (yW n)) i (i7 c f)
 ·grind [bE,Nat.blt_eq,i7,Nat.beq_eq]
 have:=o j b k;rw[bE k]at this;simp only[I0]at this;have c:=this.2;rw[show Nat.blt j m=true by simpa[Nat.blt_eq] using a]at c
 grind [i7,bE,Nat.beq_eq,vV]
theorem Nw(V:Vj ops m){c:Oper}{u:Option Nat}(R:ops[i]? = some c)(w:i<m) :
  ∀(fuel:Nat)(listed:Array Bool)(F:Nat->AV),i∈Region.ready .any ops listed->Ei ops m F listed->DC ops listed->Yl P TE N ops c F u d av->Kf P TE N ops m K fuel (listed.setIfInBounds i true) (eff u d av F)->Kf P TE N ops m K (fuel+1) listed F:=by
 have self:∀(listed:Array Bool)(F:Nat->AV),i∈Region.ready .any ops listed->Ei ops m F listed->Yl P TE N ops c F u d av->∀S:(Nat->AV)->Prop,S (eff u d av F)->mD P TE N ops c S F:=λlisted F W a g S hK=>by
  have b:=(mem_ready.1 W).1;refine g.at_ F (Ci _ _) (a.dst i c d w R b g.dst) (λs X=>?_) S hK;obtain⟨A,⟨T,h2⟩,h3⟩:=g.mvl s X;exact a.mv i c T s w R b A h2 h3
 intro fuel
 induction fuel with
 | zero=>
  intro listed F W a E g H;refine⟨ψ,λj Y=>?_⟩;by_cases n:j=i
  ·grind [zy]
  have:=ready_mono Y n;rw[H.1]at this;cases this
 | succ fuel ih=>
  intro listed F W a E g H;refine⟨ψ,λj Y=>?_⟩;by_cases n:j=i
  ·grind [zy]
  have A:=H.2 j (ready_mono Y n);obtain⟨B,f,o,hall⟩:=mem_ready.1 Y;have b:=(mem_ready.1 W).1;have unl:∀k,listed.getD k true=false->listed.getD k false=true->False:=ψ
  have noedge:∀k ok,ops[k]? = some ok->listed.getD k true=false->dt f k=false:=λk ok hk Z=>by grind [cG]
  have noedge':∀k ok,ops[k]? = some ok->listed.getD k true=false->dt c k=false:=λk ok hk Z=>by grind [cG,Go.mem_ready]
  have G:j<m:=by
   rcases Nat.lt_or_ge j m with h|h
   ·exact h
   have C:=(O4.1 o).1;refine(unl i b (oN E V.back (V.tail j h C i ω) C λk hk=>?_)).elim
   grind [bE,cG]
  have hap:c.apart ops f=true:=by grind [Vj.apart]
  obtain⟨ap1,ap2,ap3⟩:=Oper.apart_spec hap;unfold zy at A |-;rw[o]at A |-;simp only[CE G]at A |-;have hdl:d∉f.looksAt ops:=ap1 d g.dst;have cd:∀t,(F t).uses d=false:=a.dst i c d w R b g.dst
  have cdj':∀l,f.dst=some l->∀t,(F t).uses l=false:=λl J=>a.dst j f l G o B J
  have cmv:∀s,u=some s->(∀t,(F t).uses s=false)/\s∉f.looksAt ops/\s∈c.looksAt ops:=λs X=>by
   obtain⟨L,⟨T,q⟩,r⟩:=g.mvl s X;exact⟨a.mv i c T s w R b L q r,λhl=>n ((gX r).2 i j c f R o (dn q) hl).symm,dn q⟩
  have cmvj:∀T s,f.guard=none->oU f.op=some (T,s)->kg ops f s=true->(∀t,(F t).uses s=false)/\s∉c.looksAt ops/\s∈f.looksAt ops:=λT s L q r=>
   ⟨a.mv j f T s G o B L q r,λhl=>n ((gX r).2 i j c f R o hl (dn q)).symm,dn q⟩
  have avno:∀e,e∉c.looksAt ops->(∀t,(F t).uses e=false)->av.uses e=false:=λe A h2=>by
   cases hu:av.uses e with
   | false=>rfl
   | true=>
    rcases g.from_ e hu with h|⟨t,_,h⟩
    all_goals grind
  obtain⟨mvj,l,avj,p,hKj⟩:=rz A (λl J t=>kK ψ (cdj' l J t)) (λT s L q r t=>by grind [kK]);have hdne:d≠l:=λe=>ap2 d g.dst (by rw[p.dst,e])
  have hdjl:l∉c.looksAt ops:=ap3 l p.dst;have cdj:∀t,(F t).uses l=false:=cdj' l p.dst
  have cmj:∀s,mvj=some s->(∀t,(F t).uses s=false)/\s∉c.looksAt ops/\s∈f.looksAt ops:=λs X=>by
   obtain⟨L,⟨T,q⟩,r⟩:=p.mvl s X
   grind
  have lookj:∀t,t∈f.looksAt ops->eff u d av F t=F t:=λt U=>by grind [eff]
  have looki:∀t,t∈c.looksAt ops->eff mvj l avj F t=F t:=λt U=>by grind [eff]
  have avjno:∀e,e∉f.looksAt ops->(∀t,(F t).uses e=false)->avj.uses e=false:=λe A h2=>by
   cases hu:avj.uses e with
   | false=>rfl
   | true=>
    rcases p.from_ e hu with h|⟨t,U,h⟩
    all_goals grind
  have agrj:iN (eff u d av F) F (f.looksAt ops):=λt U=>by grind [eff]
  refine p.at_ F agrj cdj ψ _ (ih (listed.setIfInBounds j true) (eff mvj l avj F) (ready_mono W (Ne.symm n)) (a.put (λj' o' d' M D y O Q=>?_) (λj' o' T s M D y O L q r=>?_)) (E.put Y) ?_ ?_)
  ·refine avjno d' (λh=>?_) (a.dst j' o' d' M y O Q)
   grind [Vj.look]
  ·exact avjno s (λh=>D ((gX r).2 j' j o' f y o (dn q) h)) (a.mv j' o' T s M y O L q r)
  ·refine⟨g.dst,g.lt,g.self,λe he=>?_,g.mvl,λF' hA Q hs' S hK=>g.at_ F' (λt U=>?_) Q hs' S hK⟩
   ·rcases g.from_ e he with h|⟨t,U,h⟩
    all_goals grind
   obtain⟨a1,a2⟩:=hA t U
   grind [eff]
  rw[Array.setIfInBounds_comm _ _ n];have:eff u d av (eff mvj l avj F)=eff mvj l avj (eff u d av F):=by grind [eff]
  grind
theorem ky{o:Op}{K a:AV->Prop}(h:d9 P TE F o K)(b:∀av,K av->a av):d9 P TE F o a:=by
 obtain⟨av,c,-,d⟩:=kN h
 grind [Ci]
theorem bz{a:(Nat->AV)->Prop}(h:bU N F d av K)(b:∀F',K F'->a F'):bU N F d av a:=by grind [bU]
variable{y:Operand}
theorem fS{K b:(Nat->AV)->Option Nat->List C->Prop}(h:iu F y K)(g:∀F' ag cs,K F' ag cs->b F' ag cs):iu F y b:=by
 cases y with
 | tmp t=>
  simp only[iu]at h |-;cases d:F t with
  | H k cs=>
   grind
  | c0 e f c ag=>
   rw[d]at h;cases c with
   | cons s c=>
    simp only at h |-;cases a:F e with
    | H k cs=>
     rw[a]at h;obtain⟨r,j,i,l,n,o⟩:=Lq.out h;exact .mk_ ψ
    | _=>grind
   | nil=>
    grind
  | _=>grind
 | _=>exact h.elim
variable{x:Operand}
theorem DR{K a:AV->Prop}(h:bH F x K)(b:∀av,K av->a av):bH F x a:=by
 obtain⟨av,c,-,d⟩:=kX h
 grind [Ci]
theorem J7{a:(Nat->AV)->Prop}(h:lP N F d x K)(j:∀F',K F'->a F'):lP N F d x a:=by
 have i:∀y,bH F y (λb=>bU N F d b K)->bH F y (λb=>bU N F d b a):=λy h=>DR h λb h=>bz h j
 have k:∀y,iu F y (λF' c e=>bU N F' d (.H (kY c) e) K)->iu F y (λF' c e=>bU N F' d (.H (kY c) e) a):=λy h=>fS h λF' c e h=>bz h j
 cases x with
 | tmp t=>
  grind [lP]
 | const v=>exact i (.const v) h
 | global g=>exact i (.global g) h
 | func f=>exact i (.func f) h
theorem R4{a:(Nat->AV)->Prop}(h:FT N F d x K)(b:∀F',K F'->a F'):FT N F d x a:=by grind [bz,J7,FT,ME]
variable{b:(Nat->AV)->Prop}
theorem Dm{cs:List C}(h:su F x cs K)(d:∀F',K F'->b F'):su F x cs b:=by
 cases x with
 | tmp t=>
  simp only[su]at h |-;cases e:F t with
  | H k f=>
   grind [dB]
  | ref g i c=>
   rw[e]at h;cases c with
   | cons s c=>
    simp only at h |-;cases a:F g with
    | H k f=>
     rw[a]at h;obtain⟨r,j,l,n,o,p⟩:=Pu.out h;exact Pu.mk l n o rfl (d _ p)
    | _=>grind
   | nil=>
    grind [dB]
  | _=>grind
 | _=>exact h.elim
variable{T:Nat}
theorem yZ{a:(Nat->AV)->Prop}(h:n6 TE F T x y K)(b:∀F',K F'->a F'):n6 TE F T x y a:=by
 unfold n6 at h |-;split at h
 all_goals grind [cH,Ci,Dm,fS]
theorem LA{g:Option (Nat × Bool)}{a K1' K0':(Nat->AV)->Prop}(h:gr F ops g a b)(h1:∀F,a F->K1' F)(c:∀F,b F->K0' F):gr F ops g K1' K0':=by
 unfold gr at h |-;split at h
 ·exact h1 _ h
 rename_i j want;split at h
 all_goals grind [Bf.out,Bf.in_]
theorem wc{K a:(Nat->AV)->Option Nat->List C->Prop}(h:wZ F x K)(c:∀F' ag cs,K F' ag cs->a F' ag cs):wZ F x a:=by
 obtain⟨ag,cs,d,b⟩:=cH h;refine b F (Ci _ _) _ ?_
 grind [fS]
theorem ko{c:Nat->Option (Nat × Nat)} : ∀{parts:List (Nat × Operand)}{cs:List C}{K a:(Nat->AV)->List C->Prop}{F:Nat->AV},fillW c parts cs K F->(∀F' cs,K F' cs->a F' cs)->fillW c parts cs a F
 | [],cs,K,a,F,h,b=>b _ _ h
 | p::rest,cs,K,a,F,h,b=>by
  simp only[fillW]at h |-;split at h
  case h_2=>exact h.elim
  rename_i q e;refine wc h λF' f xs h=>?_
  cases d:(Nat.beq xs.length q.2&&Nat.ble (q.1+q.2) cs.length) with
  | false=>grind
  | true=>
   rw[d]at h;simp only[cond_true,dB]at h |-;exact ko h b
variable{parts:List (Nat × Operand)}
theorem GM{a:(Nat->AV)->Prop}(h:lL TE N F d T parts K)(b:∀F',K F'->a F'):lL TE N F d T parts a:=by grind [ko,bz,lL]
theorem G1{n:Nat}{a:(Nat->AV)->Prop}(h:gV TE N F d T n parts K)(c:∀F',K F'->a F'):gV TE N F d T n parts a:=by
 obtain⟨e,f,h,b⟩:=ja h;refine b _ ?_
 grind [bz,dB,ko,qN]
theorem GN{K a:Bool->(Nat->AV)->List (List C)->Prop}(h:Gp F y K)(c:∀b F' xr,K b F' xr->a b F' xr):Gp F y a:=by
 unfold Gp at h |-;split at h
 all_goals grind [fS,cH,Ci]
theorem Dr{K a:(Nat->AV)->List (List C)->Prop}(h:DG F x K)(c:∀F' xr,K F' xr->a F' xr):DG F x a:=by
 obtain⟨d,e,f,b⟩:=cH h;refine b F (Ci _ _) _ ?_
 grind [fS]
theorem N4{a:(Nat->AV)->Prop}(h:Dz TE N F d T x y K)(f:∀F',K F'->a F'):Dz TE N F d T x y a:=by
 obtain⟨e,p,h,g⟩:=ja h;refine g _ (GN h λb F' q h=>Dr h λF'' c h=>?_);obtain⟨i,j,k,l,n,o⟩:=h.out;exact CV i j k l n rfl (bz o f)
theorem GE{a:(Nat->AV)->Prop}(h:ry TE N F d T x K)(b:∀F',K F'->a F'):ry TE N F d T x a:=by
 unfold ry at h |-;split at h
 all_goals grind [fS,bz]
theorem JZ(h:jB N F d x K)(c:∀F',K F'->b F'):jB N F d x b:=by
 have std:∀{y:Operand},bH F y (λa=>bU N F d a K)->bH F y (λa=>bU N F d a b):=λh=>DR h λa h=>bz h c
 cases x with
 | tmp t=>
  simp only[jB]at h |-
  grind [bz]
 | const v=>grind [jB]
 | global g=>grind [jB]
 | func f=>grind [jB]
theorem Lk{a:(Nat->AV)->Prop}(h:wu N F d x K)(b:∀F',K F'->a F'):wu N F d x a:=by
 unfold wu at h |-;split at h
 case h_2=>exact h.elim
 split at h
 all_goals grind [Nt.out,Nt.mk,bz]
theorem H9{a:(Nat->AV)->Prop}(h:rq N F d x K)(b:∀F',K F'->a F'):rq N F d x a:=by
 unfold rq at h |-
 grind [bz]
variable{c:(Nat->AV)->Prop}
theorem R7{b:Operand}(h:Jh TE N F d T x b K)(f:∀F',K F'->c F'):Jh TE N F d T x b c:=by
 unfold Jh at h |-;obtain⟨e,q,h,a⟩:=ja h;refine a _ ?_;obtain⟨n,g,i⟩:=oW h;refine i F (Ci _ _) _ (fS g λF' r t h=>?_);split at h
 case h_2=>exact h.elim
 obtain⟨m,y,j,k,l,o,p,h⟩:=h.out;exact .mk_ ⟨m,y,j,k,l,o,p,_,rfl,bz h f⟩
theorem Hh{b:Op}{e:(Nat->AV)->Prop}(h:l9 P TE N d b K F)(a:∀F',K F'->e F'):l9 P TE N d b e F:=by
 cases b with
 | assign x=>exact R4 h a
 | box T x=>grind [wc,bz,l9,RD]
 | build T g=>exact GM h a
 | buildSlice T n g=>exact G1 h a
 | range T x=>exact GE h a
 | move x=>exact JZ h a
 | next x str=>
  cases str with
  | true=>exact h.elim
  | false=>exact Lk h a
 | entry x=>exact H9 h a
 | call c=>
  grind [ky,bz,N4,l9]
 | slice T x i f j=>
  cases i with
  | some _=>grind [ky,bz,l9]
  | none=>
   cases f with
   | none=>grind [ky,bz,l9]
   | some f=>
    cases j with
    | some _=>grind [ky,bz,l9]
    | none=>
     grind [ky,bz,R7,l9]
 | _=>grind [ky,bz,l9]
theorem fV{off n:Nat}{st:cM}{K a:(Nat->AV)->List C->Prop}(h:lendAt F t off st n K)(b:∀F' cs,K F' cs->a F' cs):lendAt F t off st n a:=by
 unfold lendAt at h |-;split at h
 case h_2=>exact h.elim
 split at h
 ·grind [dB]
 obtain⟨r,j,c,d,e,f⟩:=Lq.out h;refine .mk_ ?_
 grind
theorem cF:∀{xs:List (Operand × Nat)}{K a:(Nat->AV)->List (MA × tn)->Prop}{F:Nat->AV},lendP xs K F->(∀F' l,K F' l->a F' l)->lendP xs a F
 | [],K,a,F,h,b=>b _ _ h
 | (x,0)::xs,K,a,F,h,b=>cF (xs:=xs) h ψ
 | (x,1)::xs,K,a,F,h,b=>by
  simp only[lendP]at h |-;split at h
  case h_2=>exact h.elim
  split at h
  ·exact fV h λF' c h=>cF h ψ
  ·exact fV h λF' c h=>cF h ψ
  ·exact fV h λF' c h=>cF h ψ
  exact h.elim
 | (x,n+2)::xs,K,a,F,h,b=>by
  simp only[lendP]at h |-;split at h
  case h_2=>exact h.elim
  split at h
  ·split at h
   ·exact cF h ψ
   exact h.elim
  ·exact cF h ψ
  exact h.elim
theorem kr:∀{l:List (MA × tn)}{xs:List Operand}{K a:Bool->List MA->Prop},valsP F l xs K->(∀b A,K b A->a b A)->valsP F l xs a
 | [],[],K,a,h,c=>c _ _ h
 | (m,.no)::l,x::xs,K,a,h,c=>by
  obtain⟨f,g,d,e⟩:=cH h;refine e F (Ci _ _) _ (kr d λb A h=>?_)
  grind
 | (m,.at_ t off st)::l,x::xs,K,a,h,c=>kr (l:=l) (xs:=xs) h ψ
 | (m,.box t)::l,x::xs,K,a,h,c=>kr (l:=l) (xs:=xs) h ψ
 | [],_::_,K,a,h,c=>h.elim
 | (m,.no)::l,[],K,a,h,c=>h.elim
 | (m,.at_ t off st)::l,[],K,a,h,c=>h.elim
 | (m,.box t)::l,[],K,a,h,c=>h.elim
theorem dC{K b:(Nat->AV)->Prop}(a:∀F',K F'->b F'):∀{l:List (MA × tn)}{B:List MA}{F:Nat->AV},iL l B K F->iL l B b F
 | [],[],F,h=>a _ h
 | [],_::_,F,h=>h.elim
 | (m,.no)::l,[],F,h=>h.elim
 | (m,.at_ t off st)::l,[],F,h=>h.elim
 | (m,.box t)::l,[],F,h=>h.elim
 | (m,.no)::l,.val _ _::B,F,h=>dC a (l:=l) (B:=B) h
 | (m,.no)::l,.mut _ _::B,F,h=>dC a (l:=l) (B:=B) h
 | (m,.no)::l,.ptr _::B,F,h=>dC a (l:=l) (B:=B) h
 | (m,.at_ t off st)::l,.val _ _::B,F,h=>h.elim
 | (m,.at_ t off st)::l,.ptr _::B,F,h=>h.elim
 | (m,.box t)::l,.val _ _::B,F,h=>h.elim
 | (m,.box t)::l,.mut _ _::B,F,h=>h.elim
 | (m,.at_ t off st)::l,.mut ag out::B,F,h=>by
  simp only[iL]at h |-;split at h
  case h_2=>exact h.elim
  split at h
  ·rename_i k c _ _
   cases d:Nat.ble (off+out.length) c.length with
   | false=>grind
   | true=>
    rw[d]at h;simp only[cond_true,dB]at h |-;exact dC a h
  obtain⟨r,j,e,f,g,i⟩:=Pu.out h;exact Pu.mk e f g rfl (dC a i)
 | (m,.box t)::l,.ptr out::B,F,h=>by
  simp only[iL]at h |-;split at h
  ·exact dC a h
  exact h.elim
variable{modes:List Nat}{args:List Operand}{f:Nat}
theorem Kk{d:Option Nat}{a:(Nat->AV)->Prop}(h:mr P N F d f args modes K)(j:∀F',K F'->a F'):mr P N F d f args modes a:=by
 unfold mr at h |-;refine cF h λF' l h=>?_
 cases c:(wN l&&Nat.beq args.length modes.length) with
 | false=>grind
 | true=>
  rw[c]at h;refine kr h λb A h=>?_
  obtain⟨n,B,k,rcs,e,g,i⟩:=cj.out h;refine CM e g (dC (λF'' h=>?_) i)
  grind [bz]
theorem lU{F:Nat->AV}{K a:Nat->Nat->Prop}(h:Dj F x K)(b:∀t o,K t o->a t o):Dj F x a:=by grind [uo,Dj]
theorem Pj{d:Option Nat}{cs:List C}{c a b:Nat}{f:(Nat->AV)->Prop}{k:Kd}{rcs:List C}{B:List MA}(h:A6 N F d t cs c a e b K k rcs B)(l:∀F',K F'->f F'):A6 N F d t cs c a e b f k rcs B:=by
 unfold A6 at h |-;split at h
 case h_2=>exact h.elim
 rename_i g i;cases j:(Nat.beq g.length a&&Nat.beq i.length b) with
 | false=>grind
 | true=>
  rw[j]at h;simp only[cond_true,dB]at h |-
  grind [bz]
theorem KE{d:Option Nat}{a b:Nat}(h:lA P N F d f args a b K)(e:∀F',K F'->c F'):lA P N F d f args a b c:=by
 unfold lA at h |-;split at h
 case h_2=>exact h.elim
 refine lU h λt g h=>lU h λi j h=>?_
 split at h
 all_goals grind [dB,cj.out,CM,Pj]
theorem tf{d:Option Nat}{a:(Nat->AV)->Prop}(h:lw P N F d f args modes K)(b:∀F',K F'->a F'):lw P N F d f args modes a:=by grind [KE,Kk,lw]
theorem HZ{off:Nat}{z:Int}{v:Value}{a:(Nat->AV)->Prop}(h:putMap F t off z v K)(f:∀F',K F'->a F'):putMap F t off z v a:=by
 unfold putMap at h |-;cases b:F t with
 | H k d=>
  rw[b]at h;simp only at h |-;cases e:d[off]? with
  | none=>grind
  | some c=>
   rw[e]at h;cases c with
   | m g=>
    simp only at h |-;have:=h.out;refine Mu.mk rfl ?_
    grind [dB]
   | _=>exact h.elim
 | _=>grind
theorem wD{v:Operand}(h:pv TE F T x y v K)(f:∀F',K F'->b F'):pv TE F T x y v b:=by
 unfold pv at h |-;split at h
 case h_2=>exact h.elim
 obtain⟨z,c,d⟩:=jO h;refine d F (Ci F _) _ ?_;obtain⟨g,a,e⟩:=jO c;refine e F (Ci F _) _ ?_;split at a
 case h_2=>exact a.elim
 split at a
 all_goals grind [HZ]
theorem kU{a:(Nat->AV)->Prop}(h:jR P TE N ops o K F)(c:∀F',K F'->a F'):jR P TE N ops o a F:=by
 unfold jR at h |-;refine LA h (λF h=>?_) (λF h=>?_)
 ·split at h
  ·rename_i p _
   have lt:uI P N F o.dst p.1 p.2.1 p.2.2 K->uI P N F o.dst p.1 p.2.1 p.2.2 a:=λh=>tf h λF' h=>by grind [oK]
   cases b:RO N o.op with
   | false=>grind
   | true=>
    rw[b]at h;rcases h with h|h
    ·refine .pl ?_
     grind [yZ,wD,Hh,lB]
    exact .lt (lt h)
  grind [yZ,wD,Hh]
 grind [bz]
theorem FJ{m:Nat}(a:Vj ops m){K:(Nat->AV)->Prop}(hm:m<=ops.size):∀(l:List Oper)(k:Nat)(listed:Array Bool)(F:Nat->AV),(∀j,l[j]? = ops[k+j]?)->listed.size=ops.size->(∀j,j<ops.size->listed.getD j true=decide (j<k))->Ei ops m F listed->DC ops listed->
  Q0 P TE N ops (m - k) l K F->Kf P TE N ops m K l.length listed F
 | [],k,listed,F,C,L,b,_,_,i=>by
  have D:ops.size<=k:=by
   rcases Nat.lt_or_ge k ops.size with h|h
   ·have:=C 0;simp[h]at this
   exact h
  refine⟨?_,?_⟩
  ·apply List.eq_nil_iff_forall_not_mem.2
   grind [Go.mem_ready]
  cases M:m - k with
  | zero=>rw[M]at i;exact i
  | succ x=>omega
 | o::l,k,listed,F,C,L,b,c,n,i=>by
  have w:ops[k]? = some o:=by simpa using (C 0).symm
  have D:=(O4.1 w).1;have hready:k∈Region.ready .any ops listed:=mem_ready.2 ⟨by rw[b k D];simp,o,w,λe he hb=>by grind [Vj.back]⟩;have A:∀j,l[j]? = ops[k+1+j]?:=λj=>by have:=C (j+1);grind
  have r:∀j,j<ops.size->(listed.setIfInBounds k true).getD j true=decide (j<k+1):=λj O=>by
   by_cases y:j=k
   ·simp_all
   rw[getD_set_ne true (Ne.symm y),b j O]
   grind
  show Kf P TE N ops m K (l.length+1) listed F;by_cases f:k<m
  ·have e1:m - k=(m - (k+1))+1:=ω
   rw[e1]at i;obtain⟨mv,d,av,Q,i⟩:=rz (show mD P TE N ops o (Q0 P TE N ops (m - (k+1)) l K) F from i) (λd hd=>c.dst k o d f w (by rw[b k D];simp) hd) (λT s R S U=>c.mv k o T s f w (by rw[b k D];simp) R S U);refine Nw a w f l.length listed F hready c n Q (FJ a hm l (k+1) _ _ A (by simpa using L) r (c.put (λE G H p u q hl'' B=>?_) (λE G T s p u q hl'' R S U=>?_)) (n.put hready) i)
   ·cases V:av.uses H with
    | false=>rfl
    | true=>
     rcases Q.from_ H V with h|⟨t,_,h⟩
     ·have:=a.look E k G o H p f u q w B h
      grind [cG,Vj.back]
     rw[c.dst E G H p q hl'' B t]at h;cases h
   cases V:av.uses s with
   | false=>rfl
   | true=>
    rcases Q.from_ s V with h|⟨t,_,h⟩
    ·grind [gX,dn]
    rw[c.mv E G T s p q hl'' R S U t]at h;cases h
  refine⟨ψ,λj O=>?_⟩;have y:j=k:=by
   obtain⟨h1,oj,W,hall⟩:=mem_ready.1 O;have g:=(O4.1 W).1;rw[b j g]at h1;simp at h1;rcases Nat.lt_or_ge k j with X|hge
   ·exfalso
    have h2:=oN n a.back (a.tail j ω g k X) g λk' hk'=>by grind [bE,cG]
    grind
   omega
  subst y;unfold zy;rw[w];simp only[CC f];have e0:m - j=0:=ω
  rw[e0]at i;have hp':jR P TE N ops o (N7 P TE N ops l K) F:=i;have Y:∀J,N7 P TE N ops l K J->Kf P TE N ops m K l.length (listed.setIfInBounds j true) J:=λJ Z=>
   FJ a hm l (j+1) _ J A (by simpa using L) r ⟨ψ,ψ⟩ (n.put hready) (by rw[show m - (j+1)=0 by omega];cases l<;>exact Z)
  grind [kU]
theorem St.clr(h:St w0 M S0 N F a w)(ds:List Nat):St w0 M S0 N (Ab.clr ds F) a w:=by
 obtain⟨S,φ,h⟩:=h;refine⟨S,φ,λt=>?_,h.dis,h.disS,h.ex,h.sub,h.sup,h.old,h.size,h.defers,h.par⟩;rw[F7];cases b:ds.any (λd=>(F t).uses d) with
 | true=>trivial
 | false=>
  simp only[cond_false];refine(h.slot t).keep (φ:=φ) (λt _ _ _=>h.slot t) (λc _=>⟨λk e f=>?_,rfl,λ_ _ _=>⟨rfl,rfl⟩⟩) (λ_ _ _=>⟨rfl,rfl⟩) (λ_ _ _=>⟨rfl,rfl⟩) (λ_ _ h=>h) (λ_ _ h=>h)
  grind [F7,AV.uses]
theorem EV(g:∀t i,TE t=some i->iO P t i)(E:P.follows .mixedOrders=true){id:Nat}{ds:List Nat}(b:((Nat.ble m ops.size&&below m λj=>match(dD ops j).dst with|some d=>ds.any (Nat.beq d)|none=>true)&&FY ops m)=true)(G:Q0 P TE N ops m ops.toList K (Ab.clr ds F))(H:St w0 M S0 N F a w)(J:∀F' u y,K F'->St w0 M S0 N F' u y->Q .normal u y):(Code.region id ops true).wp P Q a w:=by
 simp only[I0]at b;obtain⟨⟨A,L⟩,b⟩:=b;have c:m<=ops.size:=by simp_all
 refine wp_region_any E ?_;have l:St w0 M S0 N (Ab.clr ds F) a {w with drawn:=w.drawn+1}:=by
  have O:=H.clr ds;obtain⟨S,φ,h⟩:=O;exact⟨S,φ,h.more (w1:={w with drawn:=w.drawn+1}) (λ_ _ h=>h) ψ ⟨rfl,rfl,rfl,v4 _,λ_ _ _=>rfl,λ_ _ _ _=>rfl,λ_ _ _ _=>rfl⟩⟩
 refine Em g (m:=m) J ops.size (Array.replicate ops.size false) _ a _ ?_ l;have R:∀d,ds.any (Nat.beq d)=true->∀t,(Ab.clr ds F t).uses d=false:=λd U t=>by
  rw[F7];cases Z:ds.any (λd=>(F t).uses d) with
  | true=>rfl
  | false=>
   simp_all
 have B:∀j o d,j<m->ops[j]? = some o->o.dst=some d->ds.any (Nat.beq d)=true:=λj o d f C U=>by grind [i7,bE]
 have D:=Hb b;have:=FJ (P:=P) (TE:=TE) (N:=N) D (K:=K) c ops.toList 0 (Array.replicate ops.size false) (Ab.clr ds F) (by simp) (by simp) (λj f=>by simp[f]) ⟨ψ,λj o T s f C _ _ _ V t=>by
   obtain⟨k,ok,n,W,X⟩:=(gX V).1;obtain⟨e,p,q,rfl⟩:=cG.1 n;have:=D.back j o C e p q
   grind⟩ (λj oj f Y=>by
   have r:=(O4.1 f).1;simp[r]at Y) G
 simpa using this
end
section
variable{P:Program}{w0 w w1:World}{M S0 S:am}{N:fN}{φ:Nat->am}{F:Nat->AV}{a:Act}{TE:Nat->Option TI}{ops:Array Oper}{ds:List Nat}{nm:Nat->Bool}
def Vn(P:Program)(TE:Nat->Option TI)(ops:Array Oper)(p:Nat)(F:Nat->AV):Prop:=∃d,(dD ops p).dst=some d/\LZ F (dD ops p)=none/\d9 P TE F (dD ops p).op λa=>a=F d
def wU(P:Program)(TE:Nat->Option TI)(N:fN)(ops:Array Oper)(ds:List Nat)(listed:Array Bool)(i:Nat)(K:(Nat->AV)->Prop)(F:Nat->AV):Prop:=
 match ops[i]? with
 | none=>K F
 | some o=>if rN ds o=true then mD P TE N ops o K F else jR P TE N ops o (λa=>(∀p,listed.getD p false=true->rN ds (dD ops p)=true->x6 ops i p=false->Vn P TE ops p a)/\K a) F
def Hi(P:Program)(TE:Nat->Option TI)(N:fN)(ops:Array Oper)(ds:List Nat)(K:(Nat->AV)->Prop):Nat->Array Bool->(Nat->AV)->Prop
 | 0,listed,F=>Region.ready .any ops listed=[]/\K F
 | fuel+1,listed,F=>(Region.ready .any ops listed=[]->K F)/\∀i,i∈Region.ready .any ops listed->wU P TE N ops ds listed i (Hi P TE N ops ds K fuel (listed.setIfInBounds i true)) F
variable{Q:Exit->Act->World->Prop}{K:(Nat->AV)->Prop}{i:Nat}{listed:Array Bool}
theorem HA(c:∀t i,TE t=some i->iO P t i)(b:wU P TE N ops ds listed i K F)(g:St w0 M S0 N F a w){Kc:Act->World->Prop}(d:∀F' e f,K F'->St w0 M S0 N F' e f->Kc e f):wpOp P ops Q i Kc a w:=by
 unfold wU at b;unfold wpOp;cases j:ops[i]? with
 | none=>grind
 | some o=>
  rw[j]at b;simp only at b |-;obtain⟨S,φ,h⟩:=g;have:if Region.wanted o (yielded ops a.tmps) then o.wp P a w Kc Q else Kc (a.put o.dst undef) w:=by
   split at b
   ·exact h.oneP c b d
   exact h.one c (kU b λF' h=>h.2) d
  grind
def tD(b:∀t i,TE t=some i->iO P t i){K:(Nat->AV)->Prop}{Q:Exit->Act->World->Prop}(g:∀F' d e,K F'->St w0 M S0 N F' d e->Q .normal d e) :
  ∀(fuel:Nat)(listed:Array Bool)(F:Nat->AV)(a:Act)(w:World),Hi P TE N ops ds K fuel listed F->St w0 M S0 N F a w->wpAny P .any ops Q fuel listed a w
 | 0,_,F,a,w,c,f=>⟨c.1,g F a w c.2 f⟩
 | fuel+1,_,F,a,w,c,f=>⟨λj=>g F a w (c.1 j) f,λi k=>HA b (c.2 i k) f λF' d e l h=>tD b g fuel _ F' d e l h⟩
def ch(ts:List Nat)(F F1:Nat->AV):Prop:=∀t e,(F1 t).uses e=true->e∈ts\/∃a,(F a).uses e=true
theorem ch.refl(ts:List Nat)(F:Nat->AV):ch ts F F:=λt _ h=>.inr ⟨t,h⟩
variable{F1:Nat->AV}{ts:List Nat}
theorem ch.trans{F a:Nat->AV}(h1:ch ts F F1)(b:ch ts F1 a):ch ts F a:=λt e h=>by
 rcases b t e h with h|⟨c,h⟩
 ·exact .inl h
 exact h1 c e h
variable{d:Nat}
theorem ch.clean(h:ch ts F F1)(b:d∉ts)(c:∀t,(F t).uses d=false):∀t,(F1 t).uses d=false:=λt=>by
 cases a:(F1 t).uses d with
 | false=>rfl
 | true=>
  rcases h t d a with h|⟨e,h⟩
  all_goals grind
theorem ch.put{ts:List Nat}{dj:Nat}{av:AV}(h:∀e,av.uses e=true->e∈ts\/∃b,(F b).uses e=true):ch ts F (put F dj av):=λt e a=>by
 by_cases c:t=dj
 ·grind [qh]
 rw[jt _ _ c]at a;exact .inr ⟨t,(Ut a).1⟩
variable{v:AV}{t e:Nat}
theorem R9(h:(tN t v).uses e=true):v.uses e=true:=by
 cases v with
 | c0 a b d f=>simp only[tN]at h;cases c:Nat.beq a t<;>rw[c]at h<;>first|exact h|cases h
 | ref a b d=>cases d<;>simp only[tN]at h<;>first|exact h|(cases c:Nat.beq a t<;>rw[c]at h<;>first|exact h|cases h)
 | _=>exact h
theorem ch.updH{ts:List Nat}{t:Nat}{k:Kd}{cs:List C} : ch ts F (updH F t k cs):=λs e a=>by
 unfold Ab.updH at a;cases b:Nat.beq s t with
 | true=>rw[b]at a;cases a
 | false=>grind [R9]
theorem Rn(h:(Tu t v).uses e=true):v.uses e=true:=by
 cases v with
 | c0 a b d f=>simp only[Tu]at h;cases c:Nat.beq a t<;>rw[c]at h<;>first|exact h|cases h
 | ref a b d=>simp only[Tu]at h;cases c:Nat.beq a t<;>rw[c]at h<;>first|exact h|cases h
 | _=>exact h
theorem ch.kill{ts:List Nat}{t:Nat} : ch ts F (kill F t):=λs e a=>by
 unfold Ab.kill at a;cases b:Nat.beq s t with
 | true=>rw[b]at a;cases a
 | false=>grind [Rn]
variable{av:AV}
theorem cy(h:t≠d):eff none d av F t=F t:=by grind [eff]
theorem nA{a:Option Nat} : eff a d av F d=av:=by grind [eff]
theorem PD : eff none d (F d) F=F:=by grind [nA,cy]
theorem nI(a:d∉ts)(b:∀t,(F t).uses d=false):iN (eff none d av F) F ts:=λt c=>by grind [cy]
variable{dj:Nat}
theorem Vw(a:dj≠d):put (eff none d v F) dj av=eff none d (kl dj v) (put F dj av):=by grind [qh,cy,jt,nA]
variable{b:Kd}
theorem pi{a:List C}(c:t≠d):updH (eff none d v F) t b a=eff none d (tN t v) (updH F t b a):=by grind [nA,Nat.beq_eq,cy,updH]
theorem y3{a:List C}(c:t≠d):updH F t b a d=tN t (F d):=by grind [Nat.beq_eq,updH]
theorem MF{a:List C}(c:t≠d):updN (eff none d v F) t b a=eff none d (Tp t v) (updN F t b a):=by grind [nA,Nat.beq_eq,cy,updN]
theorem Hl{a:List C}(c:t≠d):updN F t b a d=Tp t (F d):=by grind [Nat.beq_eq,updN]
theorem Qd(h:(Tp t v).uses e=true):v.uses e=true:=by
 cases v with
 | c0 b c a f=>
  cases a with
  | nil=>exact h
  | cons s a=>simp only[Tp]at h;cases d:Nat.beq b t<;>rw[d]at h<;>first|exact h|cases h
 | ref b c a=>
  cases a with
  | nil=>exact h
  | cons s a=>simp only[Tp]at h;cases d:Nat.beq b t<;>rw[d]at h<;>first|exact h|cases h
 | _=>exact h
theorem ch.updN{ts:List Nat}{t:Nat}{k:Kd}{cs:List C} : ch ts F (updN F t k cs):=λs e a=>by
 unfold Ab.updN at a;cases b:Nat.beq s t with
 | true=>rw[b]at a;cases a
 | false=>grind [Qd]
def Fq(d:Nat)(ts:List Nat)(v:AV)(F:Nat->AV)(K:(Nat->AV)->Prop)(F1:Nat->AV):Prop:=∃a,(v=F d->a=F1 d)/\K (eff none d a F1)/\ch ts F F1
def W5(d:Nat)(ts:List Nat)(v:AV)(F:Nat->AV)(K:(Nat->AV)->Option Nat->List C->Prop)(F1:Nat->AV)(ag:Option Nat)(cs:List C):Prop:=∃a,(v=F d->a=F1 d)/\K (eff none d a F1) ag cs/\ch ts F F1
def Fq.trans{v1:AV}{a:Nat->AV}(h1:v=F d->v1=F1 d)(b:ch ts F F1)(h:Fq d ts v1 F1 K a):Fq d ts v F K a:=by
 obtain⟨c,f,g,i⟩:=h;exact⟨c,λe=>f (h1 e),g,b.trans i⟩
theorem iE(h:bU N (eff none d v F) dj av K)(a:dj≠d)(b:∀e,av.uses e=true->e∈ts\/∃c,(F c).uses e=true):bU N F dj av (Fq d ts v F K):=by
 unfold bU at h |-;cases f:(N.free dj&&!av.uses dj) with
 | false=>grind
 | true=>
  rw[f]at h;simp only[cond_true]at h |-;rw[Vw a]at h;exact⟨kl dj v,λe=>by grind [jt],h,ch.put b⟩
variable{cs:List C}{k:Kd}
def jJ : ∀e,(AV.H k cs).uses e=true->e∈ts\/∃a,(F a).uses e=true:=λe h=>by cases h
theorem Fy{p:(Nat->AV)->(AV->Prop)->Prop}{ts0:List Nat}(h:pS p (eff none d v F) ts0 λav=>bU N (eff none d v F) dj av K)(a:dj≠d)(j:∀t,t∈ts0->t∈ts)(k:d∉ts)(b:∀t,(F t).uses d=false) :
  p F λav=>bU N F dj av (Fq d ts v F K):=by
 obtain⟨av,c,f,g⟩:=h;refine g F (nI ψ b) _ (iE c a λe i=>?_);rcases f e i with h|⟨t,l,h⟩
 all_goals grind [cy]
variable{y:Operand}
theorem qZ{K:(Nat->AV)->Option Nat->List C->Prop}(h:iu (eff none d v F) y K)(n:d∉tm y)(o:∀t,(F t).uses d=false):iu F y (W5 d ts v F K):=by
 have fin:∀{t:Nat}{k:Kd}{b:List C}{a:Option Nat}{xs:List C},t≠d->K (updH (eff none d v F) t k b) a xs->W5 d ts v F K (updH F t k b) a xs:=fun {t k b a xs} c h=>by
  rw[pi c]at h;exact⟨_,λe=>by rw[y3 c,e],h,ch.updH⟩
 have f9:∀{t:Nat}{k:Kd}{b:List C}{a:Option Nat}{xs:List C},t≠d->K (updN (eff none d v F) t k b) a xs->W5 d ts v F K (updN F t k b) a xs:=fun {t k b a xs} c h=>by
  rw[MF c]at h;exact⟨_,λe=>by rw[Hl c,e],h,ch.updN⟩
 cases y with
 | tmp t=>
  have c:t≠d:=λe=>n (by simp[tm,e])
  simp only[iu]at h |-;rw[cy c]at h;cases g:F t with
  | H p q=>
   grind
  | c0 i u l a=>
   rw[g]at h;have w:i≠d:=λe=>by have:=o t;rw[g,e]at this;simp[AV.uses]at this
   cases l with
   | cons s l=>
    simp only at h |-;rw[cy w]at h;cases f:F i with
    | H p q=>
     rw[f]at h;obtain⟨r,j,A,B,D,E⟩:=Lq.out h;exact .mk_ ψ
    | _=>grind
   | nil=>
    grind [cy]
  | _=>grind
 | _=>exact h.elim
theorem TU{K:(Nat->AV)->Option Nat->List C->Prop}(h:wZ (eff none d v F) y K)(b:d∉tm y)(c:∀t,(F t).uses d=false):wZ F y (W5 d ts v F K):=by
 obtain⟨i,xs,a,f⟩:=cH h;refine f F (nI b c) _ ?_;cases g:bn xs with
 | true=>rw[g]at a;exact⟨v,λe=>e,a,ch.refl _ _⟩
 | false=>grind [qZ]
def Xi(d:Nat)(ts:List Nat)(v:AV)(F:Nat->AV)(K:(Nat->AV)->List C->Prop)(F1:Nat->AV)(cs:List C):Prop:=∃a,(v=F d->a=F1 d)/\K (eff none d a F1) cs/\ch ts F F1
theorem Bd{d:Nat}{ts:List Nat}{c:Nat->Option (Nat × Nat)}(a:d∉ts):∀{parts:List (Nat × Operand)}{cs:List C}{K:(Nat->AV)->List C->Prop}{F:Nat->AV}{v:AV},fillW c parts cs K (eff none d v F)->(∀p,p∈parts->d∉tm p.2)->(∀t,(F t).uses d=false)->
  fillW c parts cs (Xi d ts v F K) F
 | [],cs,K,F,v,h,_,b=>⟨v,λe=>e,h,ch.refl _ _⟩
 | p::rest,cs,K,F,v,h,r,b=>by
  simp only[fillW]at h |-;split at h
  case h_2=>exact h.elim
  rename_i q u;refine wc (TU (ts:=ts) h ψ b) λw y xs h=>?_
  obtain⟨A,g,h,f⟩:=h;cases i:(Nat.beq xs.length q.2&&Nat.ble (q.1+q.2) cs.length) with
  | false=>grind
  | true=>
   rw[i]at h;simp only[cond_true,dB]at h |-;refine ko (Bd a h ψ (f.clean a b)) λB cs2 j=>?_
   obtain⟨k,l,n,o⟩:=j;exact⟨k,λe=>l (g e),n,f.trans o⟩
variable{parts:List (Nat × Operand)}{T:Nat}
theorem Pk(h:lL TE N (eff none d v F) dj T parts K)(a:dj≠d)(b:d∉ts)(c:∀p,p∈parts->d∉tm p.2)(e:∀t,(F t).uses d=false) :
  lL TE N F dj T parts (Fq d ts v F K):=by
 unfold lL at h |-;split at h
 case h_2=>exact h.elim
 rename_i size bytes zero flds k;cases f:Fp TE flds with
 | false=>grind
 | true=>
  rw[f]at h;refine ko (Bd b h c e) λl n h=>?_
  obtain⟨o,g,h,i⟩:=h;exact bz (iE (ts:=ts) h a jJ) λq j=>Fq.trans g i j
variable{n:Nat}
theorem Lf(h:gV TE N (eff none d v F) dj T n parts K)(a:dj≠d)(c:d∉ts)(f:∀p,p∈parts->d∉tm p.2)(g:∀t,(F t).uses d=false) :
  gV TE N F dj T n parts (Fq d ts v F K):=by
 unfold gV at h |-;obtain⟨e,i,h,b⟩:=ja h;refine b _ ?_;cases j:Nat.ble (n*i.size) 16777216 with
 | false=>grind
 | true=>
  rw[j]at h;simp only[cond_true]at h |-;cases n with
  | zero=>
   cases parts with
   | nil=>exact iE h a jJ
   | cons=>exact h.elim
  | succ n=>
   simp only[dB]at h |-;refine ko (Bd c h f g) λq r h=>?_
   obtain⟨u,k,h,l⟩:=h;rw[qN]at h |-;exact bz (iE (ts:=ts) h a jJ) λw o=>Fq.trans k l o
theorem Rb(h:jB N (eff none d v F) dj (.tmp t) K)(a:dj≠d)(c:d∉ts)(l:t∈ts)(g:∀t,(F t).uses d=false):jB N F dj (.tmp t) (Fq d ts v F K):=by
 have b:t≠d:=ψ
 have std:bH (eff none d v F) (.tmp t) (λf=>bU N (eff none d v F) dj f K)->bH F (.tmp t) (λf=>bU N F dj f (Fq d ts v F K)):=λh=>
  Fy (p:=λF K=>bH F (.tmp t) K) (kX h) a (λn o=>by grind [tm]) c g
 simp only[jB]at h |-;rw[cy b]at h;split at h
 ·rename_i i xs q
  cases j:bn xs with
  | true=>grind [iE]
  | false=>
   rw[j]at h;simp only[cond_false]at h |-;rw[pi b]at h;exact bz (iE (ts:=ts) h a jJ) λr k=>Fq.trans (F1:=updH F t (.tup i) _) (λe=>by grind [y3]) ch.updH k
 all_goals exact std h
variable{x:Operand}
theorem Va{b:Operand}(h:Jh TE N (eff none d v F) dj T x b K)(c:dj≠d)(f:d∉tm x)(g:d∉tm b)(j:∀t,(F t).uses d=false):Jh TE N F dj T x b (Fq d ts v F K):=by
 unfold Jh at h |-;obtain⟨e,A,h,a⟩:=ja h;refine a _ ?_;obtain⟨n,k,i⟩:=oW h;refine i F (nI g j) _ ?_;refine fS (qZ (ts:=ts) k f j) λB C D h=>?_
 obtain⟨E,l,h,o⟩:=h;split at h
 case h_2=>exact h.elim
 obtain⟨m,y,p,q,r,u,w,h⟩:=h.out;exact .mk_ ⟨m,y,p,q,r,u,w,_,rfl,bz (iE (ts:=ts) h c jJ) λG i=>Fq.trans l o i⟩
theorem P5(h:lP N (eff none d v F) dj x K)(a:dj≠d)(j:d∉ts)(k:∀t,t∈tm x->t∈ts)(o:∀t,(F t).uses d=false):lP N F dj x (Fq d ts v F K):=by
 have l:∀y,(∀t,t∈tm y->t∈ts)->bH (eff none d v F) y (λn=>bU N (eff none d v F) dj n K)->bH F y (λn=>bU N F dj n (Fq d ts v F K)):=λy q h=>Fy (p:=λF K=>bH F y K) (kX h) a q j o
 have A:∀y,(∀t,t∈tm y->t∈ts)->iu (eff none d v F) y (λb e i=>bU N b dj (.H (kY e) i) K)->iu F y (λb e i=>bU N b dj (.H (kY e) i) (Fq d ts v F K)):=λy q h=>
  fS (qZ (ts:=ts) h ψ o) λb e i h=>by
   obtain⟨B,r,h,u⟩:=h;exact bz (iE (ts:=ts) h a jJ) λC w=>Fq.trans r u w
 cases x with
 | tmp t=>
  grind [cy,tm,lP]
 | const c=>exact l (.const c) k h
 | global g=>exact l (.global g) k h
 | func f=>exact l (.func f) k h
theorem Fz(a:t≠d):kill (eff none d v F) t=eff none d (Tu t v) (kill F t):=by grind [nA,mB,cy,rd]
theorem UW(h:FT N (eff none d v F) dj x K)(a:dj≠d)(c:d∉ts)(j:∀t,t∈tm x->t∈ts)(l:∀t,(F t).uses d=false):FT N F dj x (Fq d ts v F K):=by
 have f:JQ N (eff none d v F) dj x=JQ N F dj x:=by
  cases x with
  | tmp t=>
   grind [cy,tm,JQ]
  | _=>rfl
 unfold FT at h |-;cases b:Ql N dj x with
 | true=>
  rw[b]at h;simp only[cond_true]at h |-;exact iE (ts:=ts) h a jJ
 | false=>
 rw[b]at h;simp only[cond_false]at h |-;unfold ME at h |-;rw[f]at h;cases i:JQ N F dj x with
 | none=>grind [P5]
 | some p=>
  rw[i]at h;simp only at h |-;obtain⟨rfl,n⟩:=Dp i;have g:p.1≠d:=λe=>c (e ▸ j p.1 (by simp[tm]))
  rw[Fz g]at h;exact bz (iE (ts:=ts) h a jJ) λo k=>Fq.trans (F1:=kill F p.1) (λe=>by grind [mB]) ch.kill k
theorem MR(h:su (eff none d v F) x cs K)(l:d∉tm x)(n:∀t,(F t).uses d=false):su F x cs (Fq d ts v F K):=by
 have fin:∀{t:Nat}{k:Kd}{cs:List C},t≠d->K (updH (eff none d v F) t k cs)->Fq d ts v F K (updH F t k cs):=fun {t k cs} a h=>by
  rw[pi a]at h;exact⟨_,λe=>by rw[y3 a,e],h,ch.updH⟩
 have f9:∀{t:Nat}{k:Kd}{cs:List C},t≠d->K (updN (eff none d v F) t k cs)->Fq d ts v F K (updN F t k cs):=fun {t k cs} a h=>by
  rw[MF a]at h;exact⟨_,λe=>by rw[Hl a,e],h,ch.updN⟩
 have finP:∀{t:Nat}{k:Kd}{cs:List C},t≠d->K (TH (eff none d v F) t k cs)->Fq d ts v F K (TH F t k cs):=fun {t k cs} a h=>by
  cases k with
  | box=>exact fin a h
  | _=>exact f9 a h
 cases x with
 | tmp t=>
  have a:t≠d:=λe=>l (by simp[tm,e])
  simp only[su]at h |-;rw[cy a]at h;cases c:F t with
  | H k o=>
   grind [dB]
  | ref f p g=>
   rw[c]at h;have i:f≠d:=λe=>by have:=n t;rw[c,e]at this;simp[AV.uses]at this
   cases g with
   | cons s g=>
    simp only at h |-;rw[cy i]at h;cases b:F f with
    | H k o=>
     rw[b]at h;obtain⟨r,j,q,u,w,y⟩:=Pu.out h;exact Pu.mk q u w rfl (finP i y)
    | _=>grind
   | nil=>
    grind [cy,dB]
  | _=>grind
 | _=>exact h.elim
theorem Tf(h:n6 TE (eff none d v F) T x y K)(b:d∉ts)(n:d∉tm x)(j:d∉tm y)(c:∀t,(F t).uses d=false):n6 TE F T x y (Fq d ts v F K):=by
 unfold n6 at h |-;split at h
 ·rename_i i r
  obtain⟨u,k,a,e⟩:=cH h;refine e F (nI j c) _ ?_;cases o:Nat.beq k.length i.size with
  | false=>grind
  | true=>
   rw[o]at a;simp only[cond_true]at a |-;cases p:bn k with
   | true=>grind [MR]
   | false=>
    rw[p]at a;simp only[cond_false]at a |-;refine fS (qZ (ts:=ts) a j c) λw q f h=>?_
    obtain⟨A,a,h,l⟩:=h;cases g:Nat.beq f.length i.size with
    | false=>grind
    | true=>rw[g]at h;exact Dm (MR (ts:=ts) h n (l.clean b c)) λB e=>Fq.trans a l e
 exact h.elim
def Vl(a:d∉tm y):ox (eff none d v F) y=ox F y:=by
 cases y with
 | tmp t=>exact cy λe=>a (by simp[tm,e])
 | _=>rfl
theorem UX{K:Bool->(Nat->AV)->List (List C)->Prop}(h:Gp (eff none d v F) y K)(b:d∉tm y)(c:∀t,(F t).uses d=false):Gp F y λe F1 rows=>∃v1,(v=F d->v1=F1 d)/\K e (eff none d v1 F1) rows/\ch ts F F1:=by
 have a:=Vl (F:=F) (v:=v) b;unfold Gp at h |-;rw[a]at h;split at h
 ·refine fS (qZ (ts:=ts) h b c) λF1 f g h=>?_
  obtain⟨v1,i,h,j⟩:=h
  grind
 grind [cH,nI,ch.refl]
theorem Ud{K:(Nat->AV)->List (List C)->Prop}(h:DG (eff none d v F) y K)(b:d∉tm y)(c:∀t,(F t).uses d=false):DG F y λF1 rows=>∃v1,(v=F d->v1=F1 d)/\K (eff none d v1 F1) rows/\ch ts F F1:=by
 obtain⟨e,xs,a,f⟩:=cH h;refine f F (nI b c) _ ?_;split at a
 ·grind [ch.refl]
 ·refine fS (qZ (ts:=ts) a b c) λF1 e g h=>?_
  obtain⟨v1,a,h,i⟩:=h
  grind
 exact a.elim
theorem Uh(h:Dz TE N (eff none d v F) dj T x y K)(b:dj≠d)(c:d∉ts)(j:d∉tm x)(k:d∉tm y)(f:∀t,(F t).uses d=false):Dz TE N F dj T x y (Fq d ts v F K):=by
 obtain⟨e,B,h,a⟩:=ja h;refine a _ (GN (UX (ts:=ts) h k f) λC D E h=>?_);obtain⟨G,l,h,g⟩:=h;refine Dr (Ud (ts:=ts) h j (g.clean c f)) λH i h=>?_
 obtain⟨J,n,h,o⟩:=h;obtain⟨p,q,r,u,w,h⟩:=Ap.out h;refine CV p q r u w rfl (bz (iE (ts:=ts) h b jJ) λL A=>?_);exact Fq.trans l g (Fq.trans n o A)
theorem RL{f:Oper}(B:f.guard=none)(g:UN f.op=true)(k:f.dst≠some d)(u:d∉f.looksAt ops)(w:∀t,(F t).uses d=false)(h:jR P TE N ops f K (eff none d v F)) :
  jR P TE N ops f (Fq d (f.looksAt ops) v F K) F:=by
 unfold jR gr at h |-;rw[B]at h |-;simp only at h |-;have j:∀t,t∈dJ f.op->t∈f.looksAt ops:=λt l=>jm f t l
 have pur:∀b,b≠d->d9 P TE (eff none d v F) f.op (λq=>bU N (eff none d v F) b q K)->d9 P TE F f.op λq=>bU N F b q (Fq d (f.looksAt ops) v F K):=λb k h=>
  Fy (p:=λF K=>d9 P TE F f.op K) (kN h) k j u w
 have dne:∀b,f.dst=some b->b≠d:=ψ
 have tmI:∀x,x∈f.op.operands.toList->∀t,t∈tm x->t∈f.looksAt ops:=λx C t l=>j t (List.mem_flatMap.2 ⟨x,C,l⟩)
 cases e:f.op with
 | store T x y=>
  rw[e]at h tmI;simp only[Ef]at h |-;cases a:f.dst with
  | some b=>rw[a]at h;simp only[l9]at h;exact h.elim
  | none=>
   grind [Tf,Go.Op.operands]
 | move x=>
  rw[e]at h tmI;cases a:f.dst with
  | none=>rw[a]at h;exact h.elim
  | some b=>
   rw[a]at h;cases x with
   | tmp t=>
    simp only[Ef,l9]at h |-;exact Rb h (dne b a) u (tmI (.tmp t) (by simp[Op.operands]) t (by simp[tm])) w
   | _=>rw[e]at g;cases g
 | assign x=>
  rw[e]at h tmI
  grind [UW,Ef,l9,Go.Op.operands]
 | build T D=>
  rw[e]at h tmI
  grind [Pk,Ef,l9,Go.Op.operands]
 | buildSlice T n D=>
  rw[e]at h tmI
  grind [Lf,Ef,l9,Go.Op.operands]
 | extract x i=>rw[e]at h pur;cases a:f.dst with|none=>rw[a]at h;exact h.elim|some b=>rw[a]at h;exact pur b (dne b a) h
 | load T x=>rw[e]at h pur;cases a:f.dst with|none=>rw[a]at h;exact h.elim|some b=>rw[a]at h;exact pur b (dne b a) h
 | fieldAddr T x i=>rw[e]at h pur;cases a:f.dst with|none=>rw[a]at h;exact h.elim|some b=>rw[a]at h;exact pur b (dne b a) h
 | field T x i=>rw[e]at h pur;cases a:f.dst with|none=>rw[a]at h;exact h.elim|some b=>rw[a]at h;exact pur b (dne b a) h
 | binOp o T x y L=>rw[e]at h pur;cases a:f.dst with|none=>rw[a]at h;exact h.elim|some b=>rw[a]at h;exact pur b (dne b a) h
 | unOp o T x=>rw[e]at h pur;cases a:f.dst with|none=>rw[a]at h;exact h.elim|some b=>rw[a]at h;exact pur b (dne b a) h
 | call c=>
  rw[e]at g h tmI;cases E:ss c with
  | none=>grind [UN]
  | some p=>
   have r:=y7 E;subst r;cases a:f.dst with
   | none=>rw[a]at h;exact h.elim
   | some b=>
    grind [Uh,Ef,l9,Go.Op.operands,Go.Call.operands]
 | slice T x G A H=>
  rw[e]at g h tmI pur;cases G with
  | some _=>cases g
  | none=>
   cases A with
   | none=>cases g
   | some A=>
    cases H with
    | some _=>cases g
    | none=>
     cases a:f.dst with
     | none=>rw[a]at h;exact h.elim
     | some b=>
      rw[a]at h;simp only[Ef,l9]at h |-;cases J:WG N b with
      | false=>simp_all
      | true=>
       grind [Va,Go.Op.operands]
 | _=>rw[e]at g;cases g
theorem VD{a:Oper}(c:a.guard=none)(f:UN a.op=true)(b:a.dst≠some d)(g:d∉a.looksAt ops)(i:∀t,(F t).uses d=false)(h:jR P TE N ops a K F) :
  jR P TE N ops a (λF1=>K F1/\ch (a.looksAt ops) F F1) F:=by
 refine kU (RL (d:=d) (v:=F d) c f b g i (by rw[PD];exact h)) λF1 j=>?_
 obtain⟨k,e,l,u⟩:=j
 grind [PD]
theorem ch.setH{ts:List Nat}{t:Nat}{k:Kd}{cs:List C} : ch ts F (setH F t (.H k cs)):=λs e a=>by
 unfold Ab.setH at a;cases b:Nat.beq s t with
 | true=>rw[b]at a;cases a
 | false=>grind
variable{rcs:List C}
theorem Mg(h:bU N F d (.H k rcs) K):bU N F d (.H k rcs) λF1=>K F1/\ch ts F F1:=by
 unfold bU at h |-;cases a:(N.free d&&!(AV.H k rcs).uses d) with
 | false=>grind
 | true=>rw[a]at h;exact⟨h,ch.put λe b=>by cases b⟩
theorem vr{off:Nat}{st:cM}{K:(Nat->AV)->List C->Prop}(h:lendAt F t off st n K):lendAt F t off st n λF1 cs=>K F1 cs/\ch ts F F1:=by
 unfold lendAt at h |-;split at h
 all_goals grind [dB,ch.updH]
def m6{ts:List Nat} : ∀{xs:List (Operand × Nat)}{K:(Nat->AV)->List (MA × tn)->Prop}{F:Nat->AV},lendP xs K F->lendP xs (λF1 l=>K F1 l/\ch ts F F1) F
 | [],K,F,h=>⟨h,ch.refl _ _⟩
 | (x,0)::xs,K,F,h=>m6 (xs:=xs) h
 | (x,1)::xs,K,F,h=>by
  simp only[lendP]at h |-;split at h
  case h_2=>exact h.elim
  split at h
  ·exact fV (vr (ts:=ts) h) λF1 c h=>cF (m6 (ts:=ts) h.1) λb l a=>⟨a.1,h.2.trans a.2⟩
  ·exact fV (vr (ts:=ts) h) λF1 c h=>cF (m6 (ts:=ts) h.1) λb l a=>⟨a.1,h.2.trans a.2⟩
  ·exact fV (vr (ts:=ts) h) λF1 c h=>cF (m6 (ts:=ts) h.1) λb l a=>⟨a.1,h.2.trans a.2⟩
  exact h.elim
 | (x,n+2)::xs,K,F,h=>by
  simp only[lendP]at h |-;split at h
  case h_2=>exact h.elim
  split at h
  ·split at h
   ·exact cF (m6 (ts:=ts) h) λb l a=>⟨a.1,ch.kill.trans a.2⟩
   exact h.elim
  ·exact cF (m6 (ts:=ts) h) λb l a=>⟨a.1,ch.kill.trans a.2⟩
  exact h.elim
theorem mu{ts:List Nat}{K:(Nat->AV)->Prop} : ∀{l:List (MA × tn)}{B:List MA}{F:Nat->AV},iL l B K F->iL l B (λF1=>K F1/\ch ts F F1) F
 | [],[],F,h=>⟨h,ch.refl _ _⟩
 | [],_::_,F,h=>h.elim
 | (m,.no)::l,[],F,h=>h.elim
 | (m,.at_ t off st)::l,[],F,h=>h.elim
 | (m,.box t)::l,[],F,h=>h.elim
 | (m,.no)::l,.val _ _::B,F,h=>mu (l:=l) (B:=B) h
 | (m,.no)::l,.mut _ _::B,F,h=>mu (l:=l) (B:=B) h
 | (m,.no)::l,.ptr _::B,F,h=>mu (l:=l) (B:=B) h
 | (m,.at_ t off st)::l,.val _ _::B,F,h=>h.elim
 | (m,.at_ t off st)::l,.ptr _::B,F,h=>h.elim
 | (m,.box t)::l,.val _ _::B,F,h=>h.elim
 | (m,.box t)::l,.mut _ _::B,F,h=>h.elim
 | (m,.at_ t off st)::l,.mut ag out::B,F,h=>by
  simp only[iL]at h |-;split at h
  case h_2=>exact h.elim
  split at h
  ·rename_i k c _ _
   cases d:Nat.ble (off+out.length) c.length with
   | false=>grind
   | true=>
    rw[d]at h;simp only[cond_true,dB]at h |-;exact dC (λb a=>⟨a.1,ch.updH.trans a.2⟩) (mu (ts:=ts) h)
  obtain⟨r,j,e,f,g,i⟩:=Pu.out h;exact Pu.mk e f g rfl (dC (λb a=>⟨a.1,ch.updH.trans a.2⟩) (mu (ts:=ts) i))
 | (m,.box t)::l,.ptr out::B,F,h=>by
  simp only[iL]at h |-;split at h
  ·exact dC (λb a=>⟨a.1,ch.setH.trans a.2⟩) (mu (ts:=ts) h)
  exact h.elim
variable{modes:List Nat}{args:List Operand}{f:Nat}
theorem Qo{d:Option Nat}(h:mr P N F d f args modes K):mr P N F d f args modes λF1=>K F1/\ch ts F F1:=by
 unfold mr at h |-;refine cF (m6 (ts:=ts) h) λn l h=>?_
 obtain⟨h,c⟩:=h;cases e:(wN l&&Nat.beq args.length modes.length) with
 | false=>grind
 | true=>
  rw[e]at h;refine kr h λb A h=>?_
  obtain⟨o,B,k,rcs,g,a,i⟩:=cj.out h;refine CM g a (dC (λF'' h=>?_) (mu (ts:=ts) i));obtain⟨h,j⟩:=h;cases d with
  | none=>grind [ch.trans]
  | some d=>exact bz (Mg (ts:=ts) h) λp a=>⟨a.1,(c.trans j).trans a.2⟩
theorem Uk{d:Option Nat}{c a b:Nat}{B:List MA}(h:A6 N F d t cs c a e b K k rcs B):A6 N F d t cs c a e b (λF1=>K F1/\ch ts F F1) k rcs B:=by
 unfold A6 at h |-;split at h
 case h_2=>exact h.elim
 rename_i g i;cases j:(Nat.beq g.length a&&Nat.beq i.length b) with
 | false=>grind
 | true=>
  rw[j]at h;simp only[cond_true,dB]at h |-;cases d with
  | none=>exact⟨h,ch.kill.trans ch.setH⟩
  | some d=>exact bz (Mg (ts:=ts) h) λl f=>⟨f.1,(ch.kill.trans ch.setH).trans f.2⟩
theorem RC{d:Option Nat}{a b:Nat}(h:lA P N F d f args a b K):lA P N F d f args a b λF1=>K F1/\ch ts F F1:=by
 unfold lA at h |-;split at h
 case h_2=>exact h.elim
 refine lU h λt e h=>lU h λg c h=>?_
 split at h
 case h_2=>exact h.elim
 rename_i i p;cases j:(Nat.beq g t&&Nat.ble (e+a) c&&Nat.ble (c+b) i.length) with
 | false=>grind
 | true=>
  rw[j]at h;simp only[cond_true,dB]at h |-;obtain⟨q,B,k,rcs,l,n,o⟩:=cj.out h;exact CM l n (Uk o)
def PU{d:Option Nat}(h:lw P N F d f args modes K):lw P N F d f args modes λF1=>K F1/\ch ts F F1:=by
 unfold lw at h |-;split
 ·rename_i p a;rw[a]at h;exact RC h
 rename_i a;rw[a]at h;exact Qo h
variable{s:Nat}
theorem UY{dj:Option Nat}{a:Nat->AV}(u:ch ts F a):ch ts F (rv1 F dj s a):=by
 unfold rv1;split
 case h_2=>exact u
 rename_i t c f;cases g:(dne dj s&&dne dj t) with
 | false=>exact u
 | true=>
  simp only[cond_true];split
  case h_2=>exact u
  split
  case h_2=>exact u
  intro q e b;by_cases d:q=s
  ·grind [rE]
  rw[gj _ _ d]at b;exact u q e b
theorem Kx{ts:List Nat}{dj:Option Nat} : ∀{l:List Nat}{a:Nat->AV},ch ts F a->ch ts F (rvE F dj l a)
 | [],_,u=>u
 | _::l,_,u=>Kx (l:=l) (UY u)
theorem U6{a:Oper}(k:a.guard=none)(i:qi a.op=true)(h:jR P TE N ops a K F):jR P TE N ops a (λF1=>K F1/\ch (a.looksAt ops) F F1) F:=by
 have pur:∀d,a.dst=some d->d9 P TE F a.op (λg=>bU N F d g K)->d9 P TE F a.op λg=>bU N F d g λF1=>K F1/\ch (a.looksAt ops) F F1:=λd l h=>by
  have n:ix P TE N ops a K F:=by grind [ix,gr]
  obtain⟨y,g,j,o⟩:=zo n;have b:=j.dst;rw[l]at b;simp only[I1]at b;subst b;have A:=j.at_ F (Ci _ _) (λF1=>K F1/\ch (a.looksAt ops) F F1) ⟨o,ch.put λe q=>(j.from_ e q).imp id ψ⟩
  grind [ix,gr]
 unfold jR gr at h |-;rw[k]at h |-;simp only at h |-;cases f:a.op with
 | call c=>
  rw[f]at h i;have r:ss c=none:=by grind [qi,ss]
  have pl:lB P TE N a K F->lB P TE N a (λF1=>K F1/\ch (a.looksAt ops) F F1) F:=λh=>by grind [lB,l9]
  cases t:Ef N F (.call c) with
  | some p=>
   rw[t]at h;simp only at h |-;have lt:uI P N F a.dst p.1 p.2.1 p.2.2 K->uI P N F a.dst p.1 p.2.1 p.2.2 λF1=>K F1/\ch (a.looksAt ops) F F1:=λh=>tf (PU (ts:=a.looksAt ops) h) λF1 ⟨h,u⟩=>by grind [oK,Kx]
   cases w:RO N (.call c) with
   | false=>grind
   | true=>
    rw[w]at h;rcases h with h|h
    ·exact .pl (pl h)
    exact .lt (lt h)
  | none=>
   grind [lB]
 | _=>rw[f]at i;cases i
theorem Tw{a:Oper}(c:a.guard=none)(e:(UN a.op || qi a.op)=true)(b:a.dst≠some d)(f:d∉a.looksAt ops)(g:∀t,(F t).uses d=false)(h:jR P TE N ops a K F) :
  jR P TE N ops a (λF1=>K F1/\ch (a.looksAt ops) F F1) F:=by grind [VD,U6]
def Gq(d:Nat)(ts:List Nat)(F:Nat->AV)(K:(Nat->AV)->Prop)(F1:Nat->AV):Prop:=∃a,K (eff none d a F1)/\ch ts F F1
def Gq.trans{a:Nat->AV}(b:ch ts F F1)(h:Gq d ts F1 K a):Gq d ts F K a:=by
 obtain⟨c,e,f⟩:=h;exact⟨c,e,b.trans f⟩
theorem EN(a:t≠d):setH (eff none d v F) t av=eff none d v (setH F t av):=by grind [nA,gj,cy,setH]
theorem wj{off:Nat}{st:cM}{K:(Nat->AV)->List C->Prop}(h:lendAt (eff none d v F) t off st n K)(a:t≠d):lendAt F t off st n λF1 cs=>∃v1,K (eff none d v1 F1) cs/\ch ts F F1:=by
 unfold lendAt at h |-;rw[cy a]at h;split at h
 case h_2=>exact h.elim
 split at h
 ·grind [dB,pi,ch.updH]
 obtain⟨r,j,b,c,e,f⟩:=Lq.out h;refine .mk_ ?_
 grind [pi,ch.updH]
theorem ou{ts:List Nat}{d:Nat}(a:d∉ts):∀{xs:List (Operand × Nat)}{K:(Nat->AV)->List (MA × tn)->Prop}{F:Nat->AV}{v:AV},lendP xs K (eff none d v F)->(∀x,x∈xs->d∉tm x.1)->(∀t,(F t).uses d=false)->
  lendP xs (λF1 l=>(∃v1,K (eff none d v1 F1) l/\ch ts F F1)/\∀q,q∈l->d∉q.2.slot) F
 | [],K,F,v,h,_,_=>⟨⟨v,h,ch.refl _ _⟩,ψ⟩
 | (x,0)::xs,K,F,v,h,w,c=>by
  simp only[lendP]at h |-;refine cF (ou a h ψ c) λF1 l h=>⟨h.1,λq b=>?_⟩
  rcases List.mem_cons.1 b with rfl|b
  ·exact λu=>by cases u
  exact h.2 q b
 | (x,1)::xs,K,F,v,h,w,c=>by
  simp only[lendP]at h |-;split at h
  case h_2=>exact h.elim
  rename_i s;have j:s≠d:=λe=>w _ X2 (by simp[tm,e])
  rw[cy j]at h;have y:∀{t:Nat}{F1:Nat->AV}{l:List (MA × tn)}{m:MA}{f:Nat}{A:cM}{K2:(Nat->AV)->List (MA × tn)->Prop},t≠d->((∃v1,K2 (eff none d v1 F1) ((m,.at_ t f A)::l)/\ch ts F F1)/\∀q,q∈l->d∉q.2.slot)->(∃v1,K2 (eff none d v1 F1) ((m,.at_ t f A)::l)/\ch ts F F1)/\∀q,q∈(m,tn.at_ t f A)::l->d∉q.2.slot:=λg h=>⟨h.1,λq b=>by
    rcases List.mem_cons.1 b with rfl|b
    · exact λu=>g (C2.1 u).symm
    exact h.2 q b⟩
  split at h
  ·exact fV (wj (ts:=ts) h j) λF1 k h=>by
    obtain⟨v1,h,i⟩:=h;exact cF (ou a h ψ (i.clean a c)) λB l h=>by
     obtain⟨⟨o,h,p⟩,r⟩:=h;exact y (K2:=K) j ⟨⟨o,h,i.trans p⟩,r⟩
  ·exact fV (wj (ts:=ts) h j) λF1 k h=>by
    obtain⟨v1,h,i⟩:=h;exact cF (ou a h ψ (i.clean a c)) λB l h=>by
     obtain⟨⟨o,h,p⟩,r⟩:=h;exact y (K2:=K) j ⟨⟨o,h,i.trans p⟩,r⟩
  ·rename_i t f A G D
   have g:t≠d:=λe=>by have:=c s;rw[D,e]at this;simp[AV.uses]at this
   exact fV (wj (ts:=ts) h g) λF1 k h=>by
    obtain⟨v1,h,i⟩:=h;exact cF (ou a h ψ (i.clean a c)) λB l h=>by
     obtain⟨⟨o,h,p⟩,r⟩:=h;exact y (K2:=K) g ⟨⟨o,h,i.trans p⟩,r⟩
  exact h.elim
 | (x,n+2)::xs,K,F,v,h,w,c=>by
  simp only[lendP]at h |-;split at h
  case h_2=>exact h.elim
  rename_i s;have j:s≠d:=λe=>w _ X2 (by simp[tm,e])
  rw[cy j]at h;have y:∀{t:Nat}{k:List C},t≠d->lendP xs (λE l=>K E ((.ptr k,.box t)::l)) (kill (eff none d v F) t)->lendP xs (λF1 l=>(∃v1,K (eff none d v1 F1) ((.ptr k,.box t)::l)/\ch ts F F1)/\∀q,q∈(MA.ptr k,tn.box t)::l->d∉q.2.slot) (kill F t):=fun {t k} g h=>by
   rw[Fz g]at h;refine cF (ou a h ψ ((ch.kill (ts:=ts)).clean a c)) λB l h=>?_
   obtain⟨⟨o,h,p⟩,r⟩:=h;refine⟨⟨o,h,ch.kill.trans p⟩,λq b=>?_⟩;rcases List.mem_cons.1 b with rfl|b
   ·exact λu=>g (C2.1 u).symm
   exact r q b
  split at h
  ·rename_i t D
   have g:t≠d:=λe=>by have:=c s;rw[D,e]at this;simp[AV.uses]at this
   rw[cy g]at h;split at h
   all_goals simp_all
  all_goals simp_all
theorem uP{d:Nat}{v:AV}(a:∀t,(F t).uses d=false):∀{l:List (MA × tn)}{xs:List Operand}{K:Bool->List MA->Prop},valsP (eff none d v F) l xs K->(∀x,x∈xs->d∉tm x)->valsP F l xs K
 | [],[],K,h,_=>h
 | (m,.no)::l,x::xs,K,h,b=>by
  obtain⟨f,g,c,e⟩:=cH h;exact e F (nI ψ a) _ (uP a c ψ)
 | (m,.at_ t off st)::l,x::xs,K,h,b=>uP (l:=l) (xs:=xs) a h ψ
 | (m,.box t)::l,x::xs,K,h,b=>uP (l:=l) (xs:=xs) a h ψ
 | [],_::_,K,h,_=>h.elim
 | (m,.no)::l,[],K,h,_=>h.elim
 | (m,.at_ t off st)::l,[],K,h,_=>h.elim
 | (m,.box t)::l,[],K,h,_=>h.elim
theorem mq{ts:List Nat}{d:Nat}{K:(Nat->AV)->Prop} : ∀{l:List (MA × tn)}{B:List MA}{F:Nat->AV}{v:AV},iL l B K (eff none d v F)->(∀q,q∈l->d∉q.2.slot)->iL l B (Gq d ts F K) F
 | [],[],F,v,h,_=>⟨v,h,ch.refl _ _⟩
 | [],_::_,F,v,h,_=>h.elim
 | (m,.no)::l,[],F,v,h,_=>h.elim
 | (m,.at_ t off st)::l,[],F,v,h,_=>h.elim
 | (m,.box t)::l,[],F,v,h,_=>h.elim
 | (m,.no)::l,.val _ _::B,F,v,h,b=>mq (l:=l) (B:=B) h ψ
 | (m,.no)::l,.mut _ _::B,F,v,h,b=>mq (l:=l) (B:=B) h ψ
 | (m,.no)::l,.ptr _::B,F,v,h,b=>mq (l:=l) (B:=B) h ψ
 | (m,.at_ t off st)::l,.val _ _::B,F,v,h,_=>h.elim
 | (m,.at_ t off st)::l,.ptr _::B,F,v,h,_=>h.elim
 | (m,.box t)::l,.val _ _::B,F,v,h,_=>h.elim
 | (m,.box t)::l,.mut _ _::B,F,v,h,_=>h.elim
 | (m,.at_ t off st)::l,.mut ag out::B,F,v,h,b=>by
  have c:t≠d:=λe=>b _ X2 (by simp[tn.slot,e])
  have a:∀q,q∈l->d∉q.2.slot:=ψ
  simp only[iL]at h |-;rw[cy c]at h;split at h
  case h_2=>exact h.elim
  split at h
  ·rename_i k n _ _
   cases o:Nat.ble (off+out.length) n.length with
   | false=>grind
   | true=>
    rw[o]at h;simp only[cond_true,dB]at h |-;rw[pi c]at h;exact dC (λg f=>Gq.trans ch.updH f) (mq (ts:=ts) h a)
  obtain⟨r,j,p,u,w,i⟩:=Pu.out h;rw[pi c]at i;exact Pu.mk p u w rfl (dC (λg f=>Gq.trans ch.updH f) (mq (ts:=ts) i a))
 | (m,.box t)::l,.ptr out::B,F,v,h,b=>by
  have c:t≠d:=λe=>b _ X2 (by simp[tn.slot,e])
  have a:∀q,q∈l->d∉q.2.slot:=ψ
  simp only[iL]at h |-;rw[cy c]at h;split at h
  ·rw[EN c]at h
   exact dC (λg f=>Gq.trans ch.setH f) (mq (ts:=ts) h a)
  exact h.elim
theorem Rp{dj:Option Nat}(h:mr P N (eff none d v F) dj f args modes K)(n:dj≠some d)(a:d∉ts)(g:∀x,x∈args->d∉tm x)(i:∀t,(F t).uses d=false) :
  mr P N F dj f args modes (Gq d ts F K):=by
 unfold mr at h |-;refine cF (ou a h (λx o=>g _ (List.of_mem_zip o).1) i) λE l h=>?_
 obtain⟨⟨G,h,c⟩,p⟩:=h;cases q:(wN l&&Nat.beq args.length modes.length) with
 | false=>grind
 | true=>
  rw[q]at h;refine kr (uP (c.clean a i) h g) λb A h=>?_
  obtain⟨H,B,k,rcs,r,e,u⟩:=cj.out h;refine CM r e (dC (λF'' h=>?_) (mq (ts:=ts) u p));obtain⟨w,h,j⟩:=h;cases dj with
  | none=>exact⟨w,h,c.trans j⟩
  | some dj=>
   refine bz (iE (ts:=ts) h ψ jJ) λJ e=>?_
   obtain⟨y,-,C,D⟩:=e;exact⟨y,C,(c.trans j).trans D⟩
theorem TA{dj:Option Nat}{c a b:Nat}{B:List MA}(f:t≠d)(g:dj≠some d)(h:A6 N (eff none d v F) dj t cs c a e b K k rcs B):A6 N F dj t cs c a e b (Gq d ts F K) k rcs B:=by
 unfold A6 at h |-;split at h
 case h_2=>exact h.elim
 rename_i i j;cases l:(Nat.beq i.length a&&Nat.beq j.length b) with
 | false=>grind
 | true=>
  rw[l]at h;simp only[cond_true,dB]at h |-;rw[Fz f,EN f]at h;cases dj with
  | none=>exact⟨_,h,ch.kill.trans ch.setH⟩
  | some dj=>
   refine bz (iE (ts:=ts) h ψ jJ) λr n=>?_
   obtain⟨o,-,p,q⟩:=n;exact⟨o,p,(ch.kill.trans ch.setH).trans q⟩
theorem Mv{K:Nat->Nat->Prop}(b:d∉tm x)(c:∀t,(F t).uses d=false)(h:Dj (eff none d v F) x K):Dj F x λt o=>t≠d/\K t o:=by
 obtain⟨s,t,f,rfl,a,i⟩:=uo h;have g:s≠d:=λe=>b (by simp[tm,e])
 rw[cy g]at a;have j:t≠d:=λe=>by have:=c s;rw[a,e]at this;simp[AV.uses]at this
 grind [Dj]
theorem Rv{dj:Option Nat}{a b:Nat}(h:lA P N (eff none d v F) dj f args a b K)(g:dj≠some d)(c:∀x,x∈args->d∉tm x)(e:∀t,(F t).uses d=false) :
  lA P N F dj f args a b (Gq d ts F K):=by
 unfold lA at h |-;split at h
 case h_2=>exact h.elim
 refine lU (Mv (c _ (by simp)) e h) λt j h=>?_
 obtain⟨i,h⟩:=h;refine lU (Mv (c _ (by simp)) e h) λk l h=>?_
 replace h:=h.2;rw[cy i]at h;split at h
 all_goals grind [dB,cj.out,CM,TA]
theorem PG{dj:Option Nat}(h:lw P N (eff none d v F) dj f args modes K)(a:dj≠some d)(b:d∉ts)(c:∀x,x∈args->d∉tm x)(e:∀t,(F t).uses d=false) :
  lw P N F dj f args modes (Gq d ts F K):=by grind [Rv,Rp,lw]
theorem Tv{dj:Option Nat}{q:Nat}(c:q≠s):rv1 F dj s F1 q=F1 q:=by
 unfold rv1;cases F s with
 | ref t a b=>
  cases b with
  | cons=>rfl
  | nil=>
   simp only;cases(dne dj s&&dne dj t) with
   | false=>rfl
   | true=>
    simp only[cond_true];cases F1 t with
    | H k d=>
     cases k with
     | box=>
      simp only;cases F1 s with
      | dead=>grind [gj]
      | _=>rfl
     | _=>rfl
    | _=>rfl
 | _=>rfl
theorem Vp{dj:Option Nat}{v1:AV}(c:∀t,(F t).uses d=false):∃a,rv1 (eff none d v F) dj s (eff none d v1 F1)=eff none d a (rv1 F dj s F1):=by
 by_cases b:s=d
 ·subst b
  have f:∃a,rv1 (eff none s v F) dj s (eff none s v1 F1)=eff none s a F1:=by
   unfold rv1;rw[nA];have set:∀x:AV,setH (eff none s v1 F1) s x=eff none s x F1:=λx=>by grind [rE,nA,gj,cy]
   grind
  obtain⟨a,g⟩:=f;refine⟨a,g.trans ?_⟩
  grind [nA,cy,Tv]
 refine⟨v1,?_⟩;unfold rv1;rw[cy b];cases h:F s with
 | ref t i j=>
  cases j with
  | cons=>rfl
  | nil=>
   have k:t≠d:=λe=>by have:=c s;rw[h,e]at this;simp[AV.uses]at this
   grind [cy,EN]
 | _=>rfl
def Qa{d:Nat}{dj:Option Nat}{v:AV}(a:∀t,(F t).uses d=false):∀{l:List Nat}{v1:AV}{F1:Nat->AV},∃b,rvE (eff none d v F) dj l (eff none d v1 F1)=eff none d b (rvE F dj l F1)
 | [],v1,_=>⟨v1,rfl⟩
 | s::l,v1,F1=>by
  simp only[rvE];obtain⟨b,e⟩:=Vp (dj:=dj) (v:=v) (v1:=v1) (s:=s) (F1:=F1) a;rw[e];exact Qa a
theorem Tx{a:Oper}(B:a.guard=none)(k:qi a.op=true)(g:a.dst≠some d)(w:d∉a.looksAt ops)(n:∀t,(F t).uses d=false)(h:jR P TE N ops a K (eff none d v F)) :
  jR P TE N ops a (Gq d (a.looksAt ops) F K) F:=by
 have f:∀t,t∈dJ a.op->t∈a.looksAt ops:=λt o=>jm a t o
 have tmI:∀x,x∈a.op.operands.toList->∀t,t∈tm x->t∈a.looksAt ops:=λx y t o=>f t (List.mem_flatMap.2 ⟨x,y,o⟩)
 have pur:∀dj,dj≠d->d9 P TE (eff none d v F) a.op (λj=>bU N (eff none d v F) dj j K)->d9 P TE F a.op λj=>bU N F dj j (Fq d (a.looksAt ops) v F K):=λdj g h=>
  Fy (p:=λF K=>d9 P TE F a.op K) (kN h) g f w n
 unfold jR gr at h |-;rw[B]at h |-;simp only at h |-;cases b:a.op with
 | call c=>
  rw[b]at h k tmI;have q:ss c=none:=by grind [qi,ss]
  have r:Ef N (eff none d v F) (.call c)=Ef N F (.call c):=by grind [qi,Ef]
  rw[r]at h;have pl:lB P TE N a K (eff none d v F)->lB P TE N a (Gq d (a.looksAt ops) F K) F:=λh=>by
   unfold lB at h |-;rw[b]at h |-;cases C:a.dst with
   | none=>grind
   | some dj=>
    rw[C]at h;simp only[l9,q]at h |-;have A:=pur dj ψ;rw[b]at A;obtain⟨j,D,-,E⟩:=kN (A h);exact E F (Ci _ _) _ (bz D λQ G=>by
      obtain⟨v1,-,H,u⟩:=G;exact⟨v1,H,u⟩)
  cases J:Ef N F (.call c) with
  | some p=>
   rw[J]at h;simp only at h |-;have i:∀x,x∈p.2.1->d∉tm x:=λx y L=>by grind [qi,Ef,Go.Op.operands,Go.Call.operands]
   have lt:uI P N (eff none d v F) a.dst p.1 p.2.1 p.2.2 K->uI P N F a.dst p.1 p.2.1 p.2.2 (Gq d (a.looksAt ops) F K):=λh=>tf (PG (ts:=a.looksAt ops) h g w i n) λF1 h=>by
    obtain⟨v1,h,u⟩:=h;rw[oK]at h |-;obtain⟨M,e⟩:=Qa (dj:=a.dst) (v:=v) (l:=W7 N.mo) (v1:=v1) (F1:=F1) n;rw[e]at h;exact⟨M,h,Kx u⟩
   cases O:RO N (.call c) with
   | false=>grind
   | true=>
    rw[O]at h;rcases h with h|h
    ·exact .pl (pl h)
    exact .lt (lt h)
  | none=>
   grind [lB]
 | _=>rw[b]at k;cases k
theorem U7{a:Oper}(e:a.guard=none)(b:(UN a.op || qi a.op)=true)(c:a.dst≠some d)(f:d∉a.looksAt ops)(g:∀t,(F t).uses d=false)(h:jR P TE N ops a K (eff none d v F)) :
  jR P TE N ops a (Gq d (a.looksAt ops) F K) F:=by
 rw[X8]at b;rcases b with b|b
 ·refine kU (RL e b c f g h) λl i=>?_
  obtain⟨j,-,k,u⟩:=i;exact⟨j,k,u⟩
 grind [Tx]
structure nt(ops:Array Oper)(ds:List Nat)(F:Nat->AV)(listed:Array Bool):Prop where
 dst:∀(j:Nat)(o:Oper)(d:Nat),rN ds o=true->ops[j]? = some o->listed.getD j true=false->o.dst=some d->∀t,(F t).uses d=false
 mv:∀(j:Nat)(o:Oper)(T:Option Nat)(s:Nat),rN ds o=true->ops[j]? = some o->listed.getD j true=false->o.guard=none->oU o.op=some (T,s)->kg ops o s=true->∀t,(F t).uses s=false
variable{j:Nat}
theorem nt.put{o:Option Nat}(h:nt ops ds F listed)(p:∀b a g,rN ds a=true->b≠j->ops[b]? = some a->listed.getD b true=false->a.dst=some g->av.uses g=false)(q:∀b a T s,rN ds a=true->b≠j->ops[b]? = some a->listed.getD b true=false->a.guard=none->oU a.op=some (T,s)->kg ops a s=true->av.uses s=false) :
  nt ops ds (eff o d av F) (listed.setIfInBounds j true):=by
 refine⟨λb a g i c e k t=>?_,λb a T s i c e r l n t=>?_⟩
 ·have f:=j7 e
  rw[getD_set_ne true (Ne.symm f)]at e;exact kK ψ (h.dst b a g i c e k t)
 have f:=j7 e;rw[getD_set_ne true (Ne.symm f)]at e;exact kK ψ (h.mv b a T s i c e r l n t)
theorem zY{o:Oper}(h:VT o=true):o.guard=none:=by grind [VT]
theorem RQ(h:(!ts.any (Nat.beq d))=true):d∉ts:=λa=>by grind [Nat.beq_refl]
theorem Qf{a b:Oper}{c:Bool}(h:Wt ops a b c=true)(f:b.dst=some d):a.guard=none/\(UN a.op || qi a.op)=true/\a.dst≠some d/\d∉a.looksAt ops/\b.guard=none/\d∉b.looksAt ops/\(c=true\/∀T s,oU b.op=some (T,s)->kg ops b s=false):=by
 unfold Wt at h;rw[f]at h;simp only[I0]at h;obtain⟨⟨⟨⟨⟨⟨g,i⟩,n⟩,j⟩,k⟩,l⟩,o⟩:=h;refine⟨zY g,i,λe=>?_,RQ j,zY k,RQ l,?_⟩
 ·simp_all
 grind
def PH(h:x6 ops j i=true):pL ops j i:=u7 j _ (λ_ a=>.one (yW a)) i h
theorem LE{o:Oper}(h:rN ds o=true):∃d,o.dst=some d/\ds.any (Nat.beq d)=true:=by grind [rN]
structure UI(ops:Array Oper)(ds:List Nat)(nm:Nat->Bool):Prop where
 back:∀(j:Nat)(oj:Oper),ops[j]? = some oj->∀e∈oj.after,Region.binds .any e=true->e.on<j
 apart:∀(i j:Nat)(oi oj:Oper),rN ds oi=true->rN ds oj=true->i≠j->ops[i]? = some oi->ops[j]? = some oj->dt oj i=true\/dt oi j=true\/oi.apart ops oj=true
 look:∀(i j:Nat)(oi oj:Oper)(d:Nat),rN ds oi=true->i≠j->ops[i]? = some oi->ops[j]? = some oj->oi.dst=some d->d∈oj.looksAt ops->dt oj i=true
 differ:∀(i j:Nat)(oi oj:Oper)(d:Nat),rN ds oi=true->rN ds oj=true->i≠j->ops[i]? = some oi->ops[j]? = some oj->oi.dst=some d->oj.dst≠some d
 nf:∀(i j:Nat)(oi oj:Oper),rN ds oi=true->rN ds oj=false->i≠j->ops[i]? = some oi->ops[j]? = some oj->x6 ops j i=true\/x6 ops i j=true\/Wt ops oj oi (nm i)=true
 mvs:∀(j:Nat)(oj:Oper)(T:Option Nat)(s:Nat),rN ds oj=true->ops[j]? = some oj->oU oj.op=some (T,s)->kg ops oj s=true->ds.any (Nat.beq s)=true
theorem q7{d:Oper}(a:UI ops ds nm)(b:DC ops listed)(c:ops[j]? = some d)(f:∀e∈d.after,Region.binds .any e=true->listed.getD e.on false=true)(g:x6 ops j i=true):listed.getD i false=true:=
 oN b a.back (PH g) (O4.1 c).1 λk h=>by grind [bE,cG]
theorem unl{k:Nat}(h1:listed.getD k true=false)(a:listed.getD k false=true):False:=ψ
theorem iN.trans{a:Nat->AV}(h1:iN F F1 ts)(c:iN F1 a ts):iN F a ts:=λt b=>by
 obtain⟨d,e⟩:=h1 t b;obtain⟨f,g⟩:=c t b
 grind
theorem nt.us{g:Oper}(n:UI ops ds nm)(h:nt ops ds F listed)(o:ops[j]? = some g)(r:∀e∈g.after,Region.binds .any e=true->listed.getD e.on false=true)(u:ch (g.looksAt ops) F F1):nt ops ds F1 (listed.setIfInBounds j true):=by
 refine⟨λi k t l b c d=>u.clean (λf=>?_) (h.dst i k t l b ?_ d),λi k T s l b c w p q=>u.clean (λf=>?_) (h.mv i k T s l b ?_ w p q)⟩
 ·have a:=j7 c
  rw[getD_set_ne true (Ne.symm a)]at c;have:=n.look i j k g t l a b o d f
  grind [cG]
 ·have a:=j7 c
  rwa [getD_set_ne true (Ne.symm a)]at c
 ·grind [j7,gX,dn]
 have a:=j7 c
 rwa [getD_set_ne true (Ne.symm a)]at c
theorem Vs{p:Nat}{b:Oper}(a:ops[p]? = some b)(j:d∉b.looksAt ops)(k:∀t,(F1 t).uses d=false)(e:b.dst≠some d)(h:Vn P TE ops p (eff none d v F1)):Vn P TE ops p F1:=by
 obtain⟨f,g,i,c⟩:=h;rw[bE a]at g i c;refine⟨f,by grind [bE],?_,?_⟩
 ·grind [bE,xS,nI]
 rw[bE a];obtain⟨l,n,-,o⟩:=kN c
 grind [cy,nI,jm]
theorem Ks(W:UI ops ds nm){b:Oper}(D:ops[i]? = some b)(w:rN ds b=true) :
  ∀(fuel:Nat)(listed:Array Bool)(F:Nat->AV)(l:Option Nat)(av:AV),i∈Region.ready .any ops listed->nt ops ds F listed->DC ops listed->Yl P TE N ops b F l d av->(nm i=true->l=none)->Hi P TE N ops ds K fuel (listed.setIfInBounds i true) (eff l d av F)->Hi P TE N ops ds K (fuel+1) listed F:=by
 have self:∀(listed:Array Bool)(F:Nat->AV)(l:Option Nat)(av:AV),i∈Region.ready .any ops listed->nt ops ds F listed->Yl P TE N ops b F l d av->∀X:(Nat->AV)->Prop,X (eff l d av F)->mD P TE N ops b X F:=λlisted F l av hr a c X hK=>by
  have f:=(mem_ready.1 hr).1;refine c.at_ F (Ci _ _) (a.dst i b d w D f c.dst) (λs hs=>?_) X hK;obtain⟨B,⟨T,h2⟩,h3⟩:=c.mvl s hs;exact a.mv i b T s w D f B h2 h3
 intro fuel
 induction fuel with
 | zero=>
  intro listed F l av hr a E c hnm H;refine⟨ψ,λj hj=>?_⟩;by_cases n:j=i
  ·grind [wU]
  have:=ready_mono hj n;rw[H.1]at this;cases this
 | succ fuel ih=>
  intro listed F l av hr a E c hnm H;refine⟨ψ,λj hj=>?_⟩;by_cases n:j=i
  ·grind [wU]
  have B:=H.2 j (ready_mono hj n);obtain⟨R,g,q,hall⟩:=mem_ready.1 hj;obtain⟨f,oi',C,halli⟩:=mem_ready.1 hr;rw[D]at C;simp only[I1]at C;subst C;have noedge:∀k ok,ops[k]? = some ok->listed.getD k true=false->dt g k=false:=λk ok hk hkun=>by grind [cG]
  have noedge':∀k ok,ops[k]? = some ok->listed.getD k true=false->dt b k=false:=λk ok hk hkun=>by grind [cG]
  have cd:∀t,(F t).uses d=false:=a.dst i b d w D f c.dst
  unfold wU at B |-;rw[q]at B |-;simp only at B |-;by_cases G:rN ds g=true
  case neg=>
   rw[CC G]at B |-;have hji1:x6 ops j i=false:=by grind [q7]
   have hij1:x6 ops i j=false:=by grind [q7]
   have hfb:Wt ops g b (nm i)=true:=by grind [UI.nf]
   obtain⟨J,r,A,g4,g5,g6,g7⟩:=Qf hfb c.dst;have hmv:l=none:=by
    cases l with
    | none=>rfl
    | some s=>
     obtain⟨-,⟨T,q1⟩,q2⟩:=c.mvl s rfl
     grind
   subst hmv;refine kU (U7 J r A g4 cd B) λF1 hF1=>?_
   obtain⟨v,⟨S,hrun⟩,u⟩:=hF1;have cd1:∀t,(F1 t).uses d=false:=u.clean g4 cd
   have hisz:i<listed.size:=ψ
   have hrd:Vn P TE ops i (eff none d v F1):=S i (by simp[hisz]) (by grind [bE]) hji1;refine⟨λp hp1 L hp3=>?_,ih (listed.setIfInBounds j true) F1 none v (ready_mono hr (Ne.symm n)) (a.us W q hall u) (E.put hj) ?_ (λ_=>rfl) (by grind [Array.setIfInBounds_comm])⟩
   ·have hpi:p≠i:=ψ
    have hpl:p<ops.size:=by
     rcases Nat.lt_or_ge p ops.size with h|h
     ·exact h
     rw[show dD ops p=default by simp[dD,t9,Array.getElem?_eq_none h]]at L;cases L
    have h0:ops[p]? = some ops[p]:=ψ
    have U:=L;rw[bE h0]at U;refine Vs h0 (λhlk=>?_) cd1 (W.differ i p b _ d w U (Ne.symm hpi) D h0 c.dst) (S p (getD_set_true hp1) L hp3);have:=W.look i p b _ d w (Ne.symm hpi) D h0 c.dst hlk;exact unl f (E p _ h0 hp1 i this)
   obtain⟨dp,q1,q2,q3⟩:=hrd;rw[bE D]at q1 q2 q3;have hdp:dp=d:=by grind [Yl.dst]
   subst hdp;rw[nA]at q3;obtain⟨M,e1,e2,e3⟩:=kN q3;subst e1;have agr1:iN (eff none dp M F1) F1 (b.looksAt ops):=nI g6 cd1;have fromv:eX F1 (b.looksAt ops) M:=λe he=>by
    rcases e2 e he with h|⟨t,Y,h⟩
    all_goals grind [jm,cy]
   have Z:M.uses dp=false:=by
    cases hu:M.uses dp with
    | false=>rfl
    | true=>
     rcases fromv dp hu with h|⟨t,_,h⟩
     all_goals grind
   refine⟨c.dst,c.lt,Z,fromv,ψ,λF' hA O _ X hK=>?_⟩;have agr2:=agr1.trans hA;unfold mD;rw[xS agr2,q2];simp only;unfold ix gr
   grind [iN.mono,jm,Yl.lt,FH,bU]
  rw[CE G]at B |-;have hap:b.apart ops g=true:=by grind [UI.apart]
  obtain⟨ap1,ap2,ap3⟩:=Oper.apart_spec hap;have hdl:d∉g.looksAt ops:=ap1 d c.dst;have cdj':∀o,g.dst=some o->∀t,(F t).uses o=false:=λo hdj=>a.dst j g o G q R hdj
  have cmv:∀s,l=some s->(∀t,(F t).uses s=false)/\s∉g.looksAt ops/\s∈b.looksAt ops:=λs hs=>by
   obtain⟨J,⟨T,r⟩,A⟩:=c.mvl s hs;exact⟨a.mv i b T s w D f J r A,λhl=>n ((gX A).2 i j b g D q (dn r) hl).symm,dn r⟩
  have cmvj:∀T s,g.guard=none->oU g.op=some (T,s)->kg ops g s=true->(∀t,(F t).uses s=false)/\s∉b.looksAt ops/\s∈g.looksAt ops:=λT s J r A=>
   ⟨a.mv j g T s G q R J r A,λhl=>n ((gX A).2 i j b g D q hl (dn r)).symm,dn r⟩
  have avno:∀e,e∉b.looksAt ops->(∀t,(F t).uses e=false)->av.uses e=false:=λe B h2=>by
   cases hu:av.uses e with
   | false=>rfl
   | true=>
    rcases c.from_ e hu with h|⟨t,_,h⟩
    all_goals grind
  obtain⟨mvj,o,avj,y,hKj⟩:=rz B (λo hdj t=>kK ψ (cdj' o hdj t)) (λT s J r A t=>by grind [kK]);have hdne:d≠o:=λe=>ap2 d c.dst (by rw[y.dst,e])
  have hdjl:o∉b.looksAt ops:=ap3 o y.dst;have cdj:∀t,(F t).uses o=false:=cdj' o y.dst
  have cmj:∀s,mvj=some s->(∀t,(F t).uses s=false)/\s∉b.looksAt ops/\s∈g.looksAt ops:=λs hs=>by
   obtain⟨J,⟨T,r⟩,A⟩:=y.mvl s hs
   grind
  have lookj:∀t,t∈g.looksAt ops->eff l d av F t=F t:=λt Y=>by grind [eff]
  have looki:∀t,t∈b.looksAt ops->eff mvj o avj F t=F t:=λt Y=>by grind [eff]
  have avjno:∀e,e∉g.looksAt ops->(∀t,(F t).uses e=false)->avj.uses e=false:=λe B h2=>by
   cases hu:avj.uses e with
   | false=>rfl
   | true=>
    rcases y.from_ e hu with h|⟨t,Y,h⟩
    all_goals grind
  have agrj:iN (eff l d av F) F (g.looksAt ops):=λt Y=>by grind [eff]
  refine y.at_ F agrj cdj ψ _ (ih (listed.setIfInBounds j true) (eff mvj o avj F) l av (ready_mono hr (Ne.symm n)) (a.put (λj' o' d' hm' V Q hl' O=>?_) (λj' o' T s hm' V Q hl' J r A=>?_)) (E.put hj) ?_ hnm ?_)
  ·refine avjno d' (λh=>?_) (a.dst j' o' d' hm' Q hl' O)
   grind [UI.look]
  ·exact avjno s (λh=>V ((gX A).2 j' j o' g Q q (dn r) h)) (a.mv j' o' T s hm' Q hl' J r A)
  ·refine⟨c.dst,c.lt,c.self,λe he=>?_,c.mvl,λF' hA O hs' X hK=>c.at_ F' (λt Y=>?_) O hs' X hK⟩
   ·rcases c.from_ e he with h|⟨t,Y,h⟩
    all_goals grind
   obtain⟨a1,a2⟩:=hA t Y
   grind [eff]
  rw[Array.setIfInBounds_comm _ _ n];have:eff l d av (eff mvj o avj F)=eff mvj o avj (eff l d av F):=by grind [eff]
  grind
theorem Ep:∀{b:List Nat}{X:Prop}{F:Nat->AV},Ro P TE ops b X F->X/\∀p,p∈b->Vn P TE ops p F
 | [],X,F,h=>⟨h,ψ⟩
 | p::l,X,F,h=>by
  simp only[Ro]at h;unfold VV at h;cases c:(dD ops p).dst with
  | none=>grind
  | some d=>
   rw[c]at h;simp only at h;cases f:LZ F (dD ops p) with
   | some q=>grind
   | none=>
    rw[f]at h;simp only at h;obtain⟨g,i,-,-⟩:=kN h;obtain⟨e,k,j⟩:=(show g=F d/\X/\∀p,p∈l->Vn P TE ops p F from⟨i.out.1,Ep i.out.2⟩)
    refine⟨k,λn a=>?_⟩;rcases List.mem_cons.1 a with rfl|a
    ·exact⟨d,c,f,ky h λg h=>h.out.1⟩
    grind
variable{l:List (Nat × List Nat)}
theorem wt : yG l i=true↔∃p,p∈l/\p.1=i:=by grind [z3,Nat.beq_refl,yG]
theorem rx{k:Nat × List Nat} : yG (k::l) i=(Nat.beq k.1 i || yG l i):=rfl
theorem Fg(b:UI ops ds nm){K:(Nat->AV)->Prop} : ∀(l:List (Nat × List Nat))(listed:Array Bool)(F:Nat->AV),G6 ops ds l=true->listed.size=ops.size->(∀j,j<ops.size->listed.getD j true = !yG l j)->nt ops ds F listed->DC ops listed->
  N2 P TE N ops ds nm l K F->Hi P TE N ops ds K l.length listed F
 | [],listed,F,_,hs,E,_,_,c=>by
  refine⟨?_,c⟩;apply List.eq_nil_iff_forall_not_mem.2;intro j R;obtain⟨S,o,ho,-⟩:=mem_ready.1 R;have G:=(O4.1 ho).1;rw[E j G]at S;cases S
 | k::l,listed,F,A,hs,E,a,H,c=>by
  simp only[G6,I0]at A;obtain⟨⟨⟨⟨q1,q2⟩,q3⟩,Z⟩,q5⟩:=A;have hk:k.1<ops.size:=by simp_all
  have r:ops[k.1]? = some ops[k.1]:=ψ
  have hrf:∀i,i<ops.size->listed.getD i true=true->listed.getD i false=true:=ψ
  have hready:k.1∈Region.ready .any ops listed:=mem_ready.2 ⟨by grind [rx,Nat.beq_refl],_,r,λe he hb=>by
    have G:=b.back k.1 _ r e he hb
    grind [bE,rx]⟩
  have B:∀j,j<ops.size->(listed.setIfInBounds k.1 true).getD j true = !yG l j:=λj R=>by
   by_cases w:j=k.1
   ·simp_all
   rw[getD_set_ne true (Ne.symm w),E j R,rx,show Nat.beq k.1 j=false by rw[<-S7,Nat.beq_eq];exact Ne.symm w];rfl
  show Hi P TE N ops ds K (l.length+1) listed F;simp only[N2]at c;rw[bE r]at c Z;have U:listed.getD k.1 true=false:=(mem_ready.1 hready).1;cases f:rN ds ops[k.1] with
  | true=>
   rw[f]at c;simp only[cond_true]at c;obtain⟨mv,d,av,hy,c,hnm⟩:=Pz c (λd hd=>a.dst k.1 _ d f r U hd) (λT s g1 g2 g3=>a.mv k.1 _ T s f r U g1 g2 g3);have C:∀e∈ops[k.1].after,Region.binds .any e=true->listed.getD e.on false=true:=by grind [Go.mem_ready]
   refine Ks b r f l.length listed F mv av hready a H hy hnm (Fg b l _ _ q5 (by simpa using hs) B (a.put (λO Q V g D n hl'' J=>?_) (λO Q T s g D n hl'' g1 g2 g3=>?_)) (H.put hready) c)
   ·cases hu:av.uses V with
    | false=>rfl
    | true=>
     rcases hy.from_ V hu with h|⟨t,_,h⟩
     ·have:=b.look O k.1 Q _ V g D n r J h
      grind [cG]
     rw[a.dst O Q V g n hl'' J t]at h;cases h
   cases hu:av.uses s with
   | false=>rfl
   | true=>
    rcases hy.from_ s hu with h|⟨t,_,h⟩
    ·grind [gX,dn]
    rw[a.mv O Q T s g n hl'' g1 g2 g3 t]at h;cases h
  | false=>
   rw[f]at c Z;simp only[cond_false]at c;simp only[Bool.false_or,I0]at Z;obtain⟨⟨r1,r2⟩,r3⟩:=Z;refine⟨ψ,λj R=>?_⟩;obtain⟨hjun,oj,y,C⟩:=mem_ready.1 R;have hjlt:=(O4.1 y).1;have w:j=k.1:=by grind [wt,q7]
   subst w;rw[r]at y;simp only[I1]at y;subst y;unfold wU;rw[r];simp only[f,CC (show ¬false=true by decide)];have post:∀u,Ro P TE ops k.2 (N2 P TE N ops ds nm l K u) u->nt ops ds u (listed.setIfInBounds k.1 true)->(∀p,listed.getD p false=true->rN ds (dD ops p)=true->x6 ops k.1 p=false->Vn P TE ops p u)/\Hi P TE N ops ds K l.length (listed.setIfInBounds k.1 true) u:=λu L W=>by
    obtain⟨X,hrd⟩:=Ep L;refine⟨λp hp1 hp2 hp3=>hrd p ?_,Fg b l _ _ q5 (by simpa using hs) B W (H.put hready) X⟩;have hpl:p<ops.size:=ψ
    grind [i7,rx,z3]
   cases hlater:l.any (λj=>rN ds (dD ops j.1)) with
   | false=>
    refine kU c λu L=>post u L ⟨λO Q V g n hl'' J=>?_,λO Q T s g n hl''=>?_⟩
    all_goals grind [wt,bE]
   | true=>
    rw[hlater]at r3;simp only[Bool.not_true,Bool.false_or,I0]at r3;obtain⟨x,hx1,q⟩:=t5.1 hlater;have Y:listed.getD x.1 true=false/\x.1<ops.size:=by
     have G:x.1<ops.size:=by
      rcases Nat.lt_or_ge x.1 ops.size with h|h
      ·exact h
      rw[show dD ops x.1=default by simp[dD,t9,Array.getElem?_eq_none h]]at q;cases q
     grind [wt]
    have M:ops[x.1]? = some ops[x.1]:=ψ
    rw[bE M]at q;obtain⟨d,hd,hdd⟩:=LE q;have hxk:x.1≠k.1:=ψ
    refine kU (Tw (d:=d) (zY r3.1) r3.2 (λe=>?_) (λhlk=>?_) (a.dst x.1 _ d q M Y.1 hd) c) λu S=>post u S.1 (a.us b r C S.2)
    ·grind [rN]
    have:=b.look x.1 k.1 _ _ d q hxk M r hd hlk
    grind [cG]
theorem EH{sch:List (Nat × List Nat)}(h:EJ ops ds sch=true):UI ops ds (W8 sch)/\G6 ops ds sch=true/\sch.length=ops.size/\∀j,j<ops.size->yG sch j=true:=by
 unfold EJ at h;simp only[I0]at h;obtain⟨⟨p,k⟩,l⟩:=h;have C:=λj (o:j<ops.size)=>i7 p o
 have r:∀(i j:Nat)(c b:Oper),i≠j->ops[i]? = some c->ops[j]? = some b->El ops ds (W8 sch) i j=true:=λi j c b a f g=>by grind [i7,Nat.beq_eq]
 refine⟨⟨λj b o e t u=>?_,λi j c b n q a f g=>?_,λi j c b d n a f g w D=>?_,λi j c b d n q a f g w t=>?_,λi j c b n q a f g=>?_,λj b T s n o y A=>?_⟩,l,z3 k,λj o=>?_⟩
 ·grind [bE,Nat.blt_eq]
 ·grind [bE,El]
 ·have:=r i j c b a f g
  unfold El at this;rw[bE f,bE g,n]at this;have B:vV ops i j=true:=by grind [bE,Nat.beq_refl,vV]
  grind
 ·grind [bE,Nat.beq_refl,El]
 all_goals grind [bE,El]
theorem vQ{l:List Nat} : EF l j=true↔j∈l:=by grind [z3,Nat.beq_refl,EF]
def HV{p:Nat->Prop} : ∀{l:List Nat}{i:Nat},WS p i l->∀j,j∈i::l->p j
 | [],i,h,j,a=>by rw[C2.1 a];exact h
 | k::l,i,h,j,a=>by
  rcases List.mem_cons.1 a with rfl|a
  ·exact h.1
  exact HV h.2 j a
theorem Jk{l:List Nat}{K:Prop}{p:Nat->Prop}(h:WO l K p):(l=[]->K)/\∀j∈l,p j:=by
 cases l with
 | nil=>exact⟨λ_=>h,ψ⟩
 | cons i l=>exact⟨ψ,HV h⟩
theorem sZ{done:List Nat}(h:listed.size=ops.size)(b:∀j,j<ops.size->listed.getD j true=EF done j)(l:∀k∈done,k<ops.size) : j∈Region.ready .any ops listed↔j∈Qx ops done:=by
 have c:∀i,listed.getD i false=EF done i:=λi=>by grind [vQ]
 rw[mem_ready];unfold Qx;rw[X5,List.mem_range,I0];constructor
 ·grind [bE]
 rintro⟨a,n,d⟩
 refine⟨ψ,ops[j],Y8 a,λe f g=>?_⟩;have:=v5.1 d e (by rw[bE (Y8 a)];simpa using f)
 grind
theorem UF{K:(Nat->AV)->Prop} : ∀(n:Nat)(done:List Nat)(listed:Array Bool)(F:Nat->AV),listed.size=ops.size->(∀j,j<ops.size->listed.getD j true=EF done j)->(∀k∈done,k<ops.size)->Vr P TE N ops K n done F->Hi P TE N ops [] K n listed F
 | 0,done,listed,F,c,a,f,h=>by
  obtain⟨g,l⟩:=Jk h;have o:Qx ops done=[]:=List.eq_nil_iff_forall_not_mem.2 λj b=>l j b
  exact⟨List.eq_nil_iff_forall_not_mem.2 λj b=>(by grind [sZ]),g o⟩
 | n+1,done,listed,F,c,a,f,h=>by
  obtain⟨g,l⟩:=Jk h;refine⟨λo=>g (List.eq_nil_iff_forall_not_mem.2 λj b=>(by rw[<-sZ c a f,o]at b;cases b)),λi t=>?_⟩;have d:=(sZ c a f).1 t;have q:=l i d;have u:i<ops.size:=List.mem_range.1 (X5.1 d).1;have r:ops[i]? = some ops[i]:=ψ
  unfold wU;rw[r];simp only;rw[bE r]at q;have w:rN [] ops[i]=false:=by grind [rN]
  rw[CC (by rw[w];decide)];refine kU q λy A=>⟨λp _ B=>?_,UF n (i::done) _ y (by simpa using c) (λj b=>?_) (λk C=>?_) A⟩
  ·grind [rN]
  ·by_cases e:j=i
   ·subst e
    rw[show EF (j::done) j=true from vQ.2 ψ];simp[c,b]
   rw[getD_set_ne true (Ne.symm e),a j b]
   grind [vQ]
  grind
theorem AP(g:∀t i,TE t=some i->iO P t i)(y:P.follows .mixedOrders=true){id:Nat}{tb:List (Nat × Nat × List Nat)}(b:nB tb id ops=true)(c:DD P TE N tb id ops K F)(A:St w0 M S0 N F a w)(B:∀F' C D,K F'->St w0 M S0 N F' C D->Q .normal C D):(Code.region id ops true).wp P Q a w:=by
 unfold nB at b;unfold DD at c;cases q:zD tb id with
 | none=>grind
 | some p=>
  obtain⟨m,L⟩:=p;rw[q]at b c;simp only at b c;cases k:Nat.ble 65536 m with
  | true=>
   rw[k]at c;refine wp_region_any y ?_;have f:St w0 M S0 N F a {w with drawn:=w.drawn+1}:=by
    obtain⟨S,φ,h⟩:=A;exact⟨S,φ,h.more (w1:={w with drawn:=w.drawn+1}) (λ_ _ h=>h) ψ ⟨rfl,rfl,rfl,v4 _,λ_ _ _=>rfl,λ_ _ _ _=>rfl,λ_ _ _ _=>rfl⟩⟩
   refine tD g (ds:=[]) B ops.size (Array.replicate ops.size false) _ a _ ?_ f;exact UF ops.size [] _ F (by simp) (λj n=>by simp[n,EF]) ψ c
  | false=>
  rw[k]at b c;simp only[cond_false]at b c;cases r:Nat.ble 256 m with
  | false=>
   grind [EV]
  | true=>
   rw[r]at b c;simp only[cond_true,M5]at b c;generalize L.take (m - 256)=ds at b c;generalize dec (L.drop (m - 256))=sch at b c;obtain⟨E,l,e,G⟩:=EH b;refine wp_region_any y ?_;have f:St w0 M S0 N (Ab.clr ds F) a {w with drawn:=w.drawn+1}:=by
    have O:=A.clr ds;obtain⟨S,φ,h⟩:=O;exact⟨S,φ,h.more (w1:={w with drawn:=w.drawn+1}) (λ_ _ h=>h) ψ ⟨rfl,rfl,rfl,v4 _,λ_ _ _=>rfl,λ_ _ _ _=>rfl,λ_ _ _ _=>rfl⟩⟩
   refine tD g (ds:=ds) B ops.size (Array.replicate ops.size false) _ a _ ?_ f;have u:∀d,ds.any (Nat.beq d)=true->∀t,(Ab.clr ds F t).uses d=false:=λd R t=>by
    rw[F7];cases X:ds.any (λd=>(F t).uses d) with
    | true=>rfl
    | false=>
     simp_all
   rw[<-e];refine Fg E sch _ _ l (by simp[e]) (λj n=>by simp_all) ⟨λj o d H J _ R t=>?_,λj o T s H J _ _ U V t=>u s (E.mvs j o T s H J U V) t⟩ (λj Y n Z=>by
     have W:=(O4.1 n).1
     simp_all) c
   grind [LE]
end
def hC:List (Option Nat)->Kd
 | [ag]=>kY ag
 | a=>.tup a
def ta:ResultVar->Nat
 | .tmp t=>t
 | .cell t _=>t
def D2(tmps:Array Value):ResultVar->Sem Value
 | .tmp t=>pure (tmps.getD t undef)
 | .cell a t=>do loadVar t (<-asAddr (tmps.getD a undef))
def resOne(TE:Nat->Option TI)(F:Nat->AV)(r:ResultVar)(K:Option Nat->List C->Prop):Prop:=
 match r with
 | .tmp t=>(match F t with
   | .H .one cs=>K none cs
   | .H .agg cs=>K (some cs.length) cs
   | _=>False)
 | .cell t T=>match TE T with
  | some i=>bif i.agg || Nat.beq i.size 1 then(match F t with
    | .H .box cs=>bif Nat.beq cs.length i.size then K (rH i) cs else False
    | _=>False) else False
  | none=>False
def resA(TE:Nat->Option TI)(F:Nat->AV):List ResultVar->List Nat->(List (Option Nat)->List C->Prop)->Prop
 | [],_,K=>K [] []
 | r::rs,seen,K=>bif seen.any (Nat.beq (ta r)) then False else resOne TE F r λb c=>resA TE F rs (ta r::seen) λd a=>K (b::d) (c++a)
def WT:RA->AV
 | .val a cs=>.H (kY a) cs
 | .ptr cs=>.iref cs 0
 | .fn Ok=>.fv Ok
def xM:Nat->List RA->List (Nat × AV)
 | _,[]=>[]
 | i,A::As=>(i,WT A)::xM (i+1) As
inductive PB:C->C->Prop
 |rfl_ (c:C):PB c c
 |z_:PB .z (.s .own [])
 |own_ (rows rows':List (List C)) (hl:rows.length=rows'.length) (hk:∀(i:Nat)(r r':List C),rows[i]? = some r->rows'[i]? = some r'->r.length=r'.length)
   (hr:∀(i j:Nat)(r r':List C)(c c':C),rows[i]? = some r->rows'[i]? = some r'->r[j]? = some c->r'[j]? = some c'->PB c c'):PB (.s .own rows) (.s .own rows')
def Rm(cs a:List C):Prop:=cs.length=a.length/\∀(j:Nat)(c b:C),cs[j]? = some c->a[j]? = some b->PB c b
def Rm.nil:Rm [] []:=⟨rfl,λj c a h=>by simp at h⟩
variable{cs a:List C}
theorem Rm.cons{c b:C}(h:PB c b)(d:Rm cs a):Rm (c::cs) (b::a):=by
 refine⟨by simp[d.1],λj y e f g=>?_⟩;cases j with
 | zero=>grind
 | succ j=>exact d.2 j y e (by simpa using f) (by simpa using g)
def PB.rep{r k:List C}(h:Rm r k):PB (.s .own (List.replicate n r)) (.s .own (List.replicate n k)):=by
 refine .own_ _ _ (by simp) (λi a b d e=>?_) (λi j a b c p d e l o=>?_)
 ·have f:=List.mem_replicate.1 (Z2 d)
  have g:=List.mem_replicate.1 (Z2 e);rw[f.2,g.2];exact h.1
 have f:=List.mem_replicate.1 (Z2 d);have g:=List.mem_replicate.1 (Z2 e);rw[f.2]at l;rw[g.2]at o;exact h.2 j c p l o
theorem T9{w:World}{S Y:am}{c:C}{v:Value}(h:dZ w S Y c v):∀t,PB c t->dZ w S Y t v:=by
 induction h with
 | z F a=>
  intro t j;cases j with
  | rfl_=>exact .z _ _
  | z_=>exact .nil _ _ _ trivial
 | nil F o a K=>
  intro t j;cases j with
  | rfl_=>exact .nil _ _ _ K
  | own_ d e E=>obtain rfl:e=[]:=X9 (by simpa using E.symm);exact .nil _ _ _ trivial
 | own F o g k n y d u f K J L p A D R T j G X=>
  intro t M;cases M with
  | rfl_=>exact .own _ o g k n y d u f K J L p A D R T j G
  | own_ d e E Z U=>
   have V:∀(i:Nat)(W:List C),e[i]? = some W->∃r,d[i]? = some r:=ψ
   refine .own _ .own g k n y e u f trivial (E.symm.trans J) (λW hr'=>?_) p A D R T j ψ
   all_goals grind [List.mem_iff_getElem?]
 | v F x N=>intro t j;cases j;exact .v _ _ N
 | x F u N=>intro t j;cases j;exact .x _ _ N
 | U F g O k n y d u J L p hS G X=>intro t j;cases j;exact .U _ g O k n y d u J L p hS G
 | m F b l es q D P he Q B=>intro t j;cases j;exact .m _ b l es q D P he Q B
 | it F r b since c0 l seen q cur left D U P B G Q E H=>intro t j;cases j;exact .it _ r b since c0 l seen q cur left D U P B G Q E H
def WK(cs a:List C):Prop:=R1 cs a\/Rm cs a
inductive jV(k k':Kd)(cs cs':List C):Prop
 |mk_ (h:k=k'/\WK cs cs')
def nQ:∀(cs:List C),R1 cs cs
 | []=>trivial
 | c::cs=>by
  refine⟨?_,nQ cs⟩;cases c with
  | s o a=>cases o<;>rfl
  | x=>trivial
  | _=>rfl
variable{k:Kd}
def jV.mk{b:Kd}(h1:k=b)(c:cs=a):jV k b cs a:=by refine .mk_ ?_;exact⟨h1,.inl (c ▸ nQ cs)⟩
def jV.wk{b:Kd}(h1:k=b)(c:R1 cs a):jV k b cs a:=.mk_ ⟨h1,.inl c⟩
def jV.dk{b:Kd}(h1:k=b)(c:Rm cs a):jV k b cs a:=.mk_ ⟨h1,.inr c⟩
def jV.out{b:Kd}(h:jV k b cs a):k=b/\WK cs a:=by obtain⟨h⟩:=h;exact h
theorem WK.len(h:WK cs a):cs.length=a.length:=h.elim (λh=>(uX h).1) (λh=>h.1)
theorem WK.row{w:World}{S Y:am}{c:List C}{u:Nat->Value}(a:WK cs c)(h:cN w S Y cs u):cN w S Y c u:=by
 rcases a with a|a
 ·exact EX a h
 obtain⟨f,k,l,n⟩:=h;refine⟨f,λj i b=>?_,λj b=>l j (by rw[a.1];exact b),λj o b e=>n j o (by rw[a.1];exact b) (by rw[a.1];exact e)⟩;have g:=(I3.1 b).1;have d:cs[j]? = some (cs[j]'(by rw[a.1];exact g)):=ψ
 exact T9 (k j _ d) i (a.2 j _ i d b)
def UA(TE:Nat->Option TI)(c:List ResultVar)(k:Kd)(rcs:List C):Exit->(Nat->AV)->Prop:=λe F=>
 match e with
 | .normal=>resA TE F c [] λa b=>jV (hC a) k b rcs
 | .ret=>resA TE F c [] λa b=>jV (hC a) k b rcs
 | _=>False
def T0(F:Nat->AV)(t:Nat)(rcs:List C):Prop:=
 match F t with
 | .H .box cs=>jV .box .box cs rcs
 | .ref a 0 []=>(match F a with
   | .H .box cs=>jV .box .box cs rcs
   | _=>False)
 | _=>False
def VR(t:Nat)(rcs:List C):Exit->(Nat->AV)->Prop:=λe F=>
 match e with
 | .normal=>T0 F t rcs
 | .ret=>T0 F t rcs
 | _=>False
section
variable{P:Program}{w0 w w1:World}{M S0 S:am}{N:fN}{φ:Nat->am}{F:Nat->AV}{a:Act}{TE:Nat->Option TI}
theorem bj.resOne(h:bj w0 M S0 N S φ F a w)(n:∀t i,TE t=some i->iO P t i){r:ResultVar}{K:Option Nat->List C->Prop}(b:resOne TE F r K) :
  ∃ag cs v,K ag cs/\b9 w S (φ (ta r)) ag cs v/\(D2 a.tmps r).run P w=.ok v w:=by
 cases r with
 | tmp t=>
  have e:=h.slot t;simp only[Ab.resOne]at b;cases p:F t with
  | H k cs=>
   rw[p]at b e;obtain⟨E,Y,G,j,H,A,l⟩:=e;cases k with
   | one=>exact⟨none,cs,tvs a t,b,⟨A,_,rfl,l.mono (λ_ _ h=>h) j⟩,rfl⟩
   | agg=>
    obtain⟨arr,q,u⟩:=A;refine⟨some cs.length,cs,tvs a t,b,⟨rfl,cw w .agg (tvs a t),?_,l.mono (λ_ _ h=>h) j⟩,rfl⟩;rw[q];have:=ri arr;rw[u]at this;exact this
   | _=>exact b.elim
  | _=>grind
 | cell t T=>
  have e:=h.slot t;simp only[Ab.resOne]at b;split at b
  case h_2=>exact b.elim
  rename_i i J;have L:=n _ _ J;cases B:(i.agg || Nat.beq i.size 1) with
  | false=>grind
  | true=>
   rw[B]at b;simp only[cond_true]at b;cases p:F t with
   | H k cs=>
    rw[p]at b e;cases k with
    | box=>
     simp only at b;cases D:Nat.beq cs.length i.size with
     | false=>grind
     | true=>
      rw[D]at b;have O:=z3 D;obtain⟨E,Y,G,j,H,⟨g,o,q,Q⟩,l⟩:=e;have c:∀d,d<i.size->cel w g (o+d)=some (cw w .box (tvs a t) d):=λd R=>by grind [cw]
      have f:=zl (w:=w) L B c;refine⟨_,cs,_,b,⟨by grind [qf],_,rfl,l.mono (λ_ _ h=>h) j⟩,?_⟩;have y:a.tmps.getD t undef=.pointer (some ⟨g,o,none⟩):=q;simp only[D2,y,asAddr];exact f
    | _=>exact b.elim
   | _=>grind
def Lv{ag:Option Nat}{cs:List C}{v:Value}{Y:am}(h:b9 w S Y ag cs v):∃u,v.cells.toList=(List.range cs.length).map u/\cN w S Y cs u/\v=mkv ag u:=by
 obtain⟨a,u,rfl,b⟩:=h;refine⟨u,?_,b,rfl⟩;rw[r6 (λe=>by subst e;exact b.one (by simp at a;omega)),a]
theorem Kg{d e:am}{cs a:List C}{u g:Nat->Value}(h:cN w S d cs u)(h':cN w S e a g)(p:∀b o,d b o->¬e b o) :
  cN w S (λb o=>d b o\/e b o) (cs++a) (λj=>if j<cs.length then u j else g (j - cs.length)):=by
 obtain⟨f,q,r,t⟩:=h;obtain⟨i,k,l,n⟩:=h';refine⟨λj=>if j<cs.length then f j else i (j - cs.length),λj c y=>?_,ψ,ψ⟩
 all_goals grind
theorem bj.resA(h:bj w0 M S0 N S φ F a w)(e:∀t i,TE t=some i->iO P t i):∀{p:List ResultVar}{seen:List Nat}{K:List (Option Nat)->List C->Prop},resA TE F p seen K->
  ∃sh cs vs u,K sh cs/\(p.mapM (D2 a.tmps)).run P w=.ok vs w/\z6 sh vs/\sh.length=p.length/\wF sh=cs.length/\
   (vs.flatMap λv=>v.cells.toList)=(List.range cs.length).map u/\(∀ag,sh=[ag]->∃v,vs=[v]/\b9 w S (λb o=>∃t,t∉seen/\φ t b o) ag cs v)/\cN w S (λb o=>∃t,t∉seen/\φ t b o) cs u
 | [],seen,K,c=>⟨[],[],[],λ_=>undef,c,rfl,trivial,rfl,rfl,rfl,ψ,cN.nil _ _ _ _⟩
 | r::p,seen,K,c=>by
  simp only[Ab.resA]at c;cases d:seen.any (Nat.beq (ta r)) with
  | true=>grind
  | false=>
   rw[d]at c;simp only[cond_false]at c;have L:ta r∉seen:=λY=>by grind [Nat.beq_refl]
   obtain⟨ag,cs,v,c,q,G⟩:=h.resOne e c;obtain⟨sh,f,vs,O,Q,y,A,B,R,hcells,-,g⟩:=bj.resA h e c;obtain⟨u,D,H,k⟩:=Lv q;have T:∀b o,φ (ta r) b o->¬∃t,t∉ta r::seen/\φ t b o:=λb o U ⟨t,Z,E⟩=>h.dis _ _ ψ b o U E
   refine⟨ag::sh,cs++f,v::vs,λj=>if j<cs.length then u j else O (j - cs.length),Q,?_,?_,by simp[B],?_,?_,?_,?_⟩
   ·simp_all
   ·obtain⟨V,-⟩:=q
    cases ag with
    | none=>
     refine⟨?_,A⟩;rw[k];have J:(u 0).oneCell'=true:=H.one (by simp at V;omega);show(u 0).cells = #[u 0];cases W:u 0<;>first|(rw[W]at J;cases J;done)|rfl
    | some n=>exact⟨⟨_,by rw[k];rfl,by simp⟩,A⟩
   ·rw[tK,C4,R,q.1]
   ·simp only[v9,D,hcells,C4]
    apply List.ext_getElem?
    grind
   ·intro X l
    simp only[List.cons.injEq]at l;obtain⟨rfl,rfl⟩:=l;cases vs with
    | cons _ _=>exact A.elim
    | nil=>
     have:f=[]:=X9 (by simp_all);subst this;exact⟨v,rfl,by rw[List.append_nil];exact q.mono (λ_ _ h=>h) ψ⟩
   exact(Kg H g T).mono (λ_ _ h=>h) ψ
theorem vA:∀{A:List RA}{vs:List Value}(i:Nat),Bg w S A vs->∀t,(lay (xM i A) t=.dead)\/(∃a v,i<=t/\vs[t - i]? = some v/\lay (xM i A) t=WT a/\oT w S a v)
 | [],_,i,_,t=>.inl rfl
 | a::A,[],i,h,t=>h.elim
 | a::A,v::vs,i,h,t=>by
  simp only[xM,lay];cases b:Nat.beq t i with
  | true=>
   have:=z3 b;subst this;exact .inr ⟨a,v,v4 _,by simp,rfl,h.1⟩
  | false=>
   have c:t≠i:=λe=>by simp_all
   rcases vA (i+1) h.2 t with d|⟨f,g,d,j,k⟩
   all_goals grind
theorem oT.slot{A:RA}{v:Value}(h:oT w S A v){tv:Nat->Value} : cU w S F tv NO (WT A) v:=by
 cases A with
 | val f a=>exact b9.slot h
 | ptr a=>obtain⟨g,b,u,c,d,e⟩:=h;exact⟨g,b,u,by rw[c,Nat.add_zero],d,e⟩
 | fn Ok=>exact h
def FP:∀{A:List RA}{vs:List Value},Bg w S A vs->A.length=vs.length
 | [],[],_=>rfl
 | _::_,_::_,h=>by simp[FP h.2]
 | [],_::_,h=>h.elim
 | _::_,[],h=>h.elim
variable{ck:Nat->Array Oper->Bool}{rcs: List C}{D: Nat -> Array Oper -> ((Nat -> AV) -> Prop) -> (Nat -> AV) -> Prop}
theorem NI{f : Nat}{d : Func}{c : Code}{sh : Bool}{A : List RA}{k : Kd}(K : ∀t i, TE t = some i -> iO P t i)(hf : P.funcs[f]? = some d)(hn : (d.name == "runtime.NumGoroutine") = false)(p:d.body=some c)(hD:wi P N ck D)(hc:gw ck c=true)(hN:A.length+(d.ntmps - A.length)=N.n)(hkp:N.kp=[])(U:sh=true\/i6 rcs)(hp:aw P TE N D c (UA TE d.results.toList k rcs) (lay (xM 0 A))):ax P f sh A k rcs:=by
 refine⟨⟨d,hf,hn,by rw[p];rfl⟩,λw S r hS hA=>?_⟩;have hlen:=FP hA;refine calls_of_wp hf p ?_;have V:St w NO S N (lay (xM 0 A)) {tmps:=r.toArray++Array.replicate (d.ntmps - r.toArray.size) undef,defers:=[]} w:=by
  refine⟨S,λ_=>NO,λt=>?_,λ_ _ _ _ _ h=>h.elim,λ_ _ _ h=>h.elim,λ_ _ _ h=>h.elim,λ_ _ h=>h,ψ,Ce _ _,by simp;omega,rfl,ψ⟩;rcases vA 0 hA t with y|⟨A0,v,-,B,G,h4⟩
  ·rw[y];trivial
  rw[G];have hv:tvs {tmps:=r.toArray++Array.replicate (d.ntmps - r.toArray.size) undef,defers:=[]} t=v:=by
   have hlt:=(I3.1 B).1;simp only[tvs,t9]
   grind
  grind [oT.slot]
 refine iS K hD c hc _ _ _ _ w hp V λe F' J g W Z=>?_
 obtain⟨S',φ',h⟩:=Z;have fin:resA TE F' d.results.toList [] (λsh L=>jV (hC sh) k L rcs)->J.defers=[]/\∃v,(results d J.tmps).run P g=.ok v g/\(∃v',Ending.returned v=.returned v'/\bA NO w g/\∃X S1:am,(∀b o,X b o->b<g.heap.size/\w.heap.size<=b)/\
     (∀b o,S1 b o->(sh=true/\S b o)\/(b<g.heap.size/\w.heap.size<=b))/\(∀b o,X b o->¬S1 b o)/\fR g NO k rcs.length v'/\cN g S1 X rcs (cw g k v')):=by
  intro hr;obtain⟨shs,L,a,u,M,hrun,q,hln,R,hcells,l,O⟩:=h.resA K hr;obtain⟨rfl,hwk⟩:=M.out;refine⟨h.defers,?_⟩;have H:(results d J.tmps).run P g=.ok (if h:a.toArray.size=1 then a.toArray[0] else .tuple a.toArray) g:=by
   have e:results d J.tmps=(do let r <-d.results.mapM (D2 J.tmps);pure (if h:r.size=1 then r[0] else .tuple r)):=by
    unfold results
    congr 1
   rw[e,<-Array.toArray_toList (xs:=d.results),List.mapM_toArray]
   simp_all
  refine⟨_,H,_,rfl,h.old,λb o=>∃t,φ' t b o,λb o=>(sh=true/\S' b o)\/(S' b o/\w.heap.size<=b),λb o ⟨t,p⟩=>⟨(h.ex t b o p).1,(h.ex t b o p).2.resolve_right (λh=>h)⟩,λb o p=>?_,λb o ⟨t,p⟩ hb'=>h.disS t b o p ψ,?_⟩
  ·rcases p with⟨y,B⟩|⟨y,B⟩
   ·rcases(h.sup b o B).2 with G|G|G
    ·grind
    ·exact .inr ⟨(h.sup b o B).1,G⟩
    exact G.elim
   exact .inr ⟨(h.sup b o y).1,B⟩
  have Q:fR g NO (hC shs) L.length (if h:a.toArray.size=1 then a.toArray[0] else .tuple a.toArray)/\cN g S' (λb o=>∃t,φ' t b o) L (cw g (hC shs) (if h:a.toArray.size=1 then a.toArray[0] else .tuple a.toArray)):=by
   have E:∀b o,(∃t,t∉([]:List Nat)/\φ' t b o)->∃t,φ' t b o:=ψ
   match shs,q,l,R with
   | [],q,_,R=>
    cases a with
    | cons _ _=>exact q.elim
    | nil=>
     have:L=[]:=ψ
     subst this;exact⟨⟨_,rfl,trivial,rfl⟩,cN.nil _ _ _ _⟩
   | [T],_,l,_=>
    obtain⟨v,rfl,hv⟩:=l T rfl;have:=(hv.mono (λ_ _ h=>h) E).slot (F:=F') (tv:=tvs J);obtain⟨X1,Y,y,B,G,h4,h5⟩:=this;refine⟨?_,h5.mono (λ_ _ h=>h) B⟩;cases T<;>exact h4
   | T::ag2::sh,q,_,R=>
    have hsz:¬a.toArray.size=1:=by
     match a,q with
     | [],q=>simp
     | [v],q=>cases T<;>cases ag2<;>exact q.2.elim
     | _::_::_,_=>simp
    rw[dif_neg hsz];refine⟨⟨_,rfl,q,R⟩,(O.mono (λ_ _ h=>h) E).congr λj hj=>?_⟩;simp only[cw,hC,mA,hcells];simp[List.getD,hj]
  replace Q:=CN Q.1 (hwk.row Q.2);refine⟨by grind [WK.len],?_⟩;rcases U with y|y
  ·exact Q.2.mono ψ (λ_ _ h=>h)
  exact(Q.2.fresh y).mono (λ_ _ h=>h.elim) (λ_ _ h=>h)
 cases e with
 | normal=>exact fin W
 | ret=>exact fin W
 | _=>exact W.elim
theorem Np{f t : Nat}{j : Func}{c : Code}{A : List RA}(K : ∀t i, TE t = some i -> iO P t i)(hf : P.funcs[f]? = some j)(hn : (j.name == "runtime.NumGoroutine") = false)(a:j.body=some c)(hD:wi P N ck D)(hc:gw ck c=true)(hN:A.length+(j.ntmps - A.length)=N.n)(hkp:N.kp=[])(hr:j.results = #[.tmp t])(hp:aw P TE N D c (VR t rcs) (lay (xM 0 A))):sM P f true A .box rcs:=by
 refine⟨⟨j,hf,hn,by rw[a];rfl⟩,λw S F hS hA=>?_⟩;have hlen:=FP hA;refine calls_of_wp hf a ?_;have L:St w NO S N (lay (xM 0 A)) {tmps:=F.toArray++Array.replicate (j.ntmps - F.toArray.size) undef,defers:=[]} w:=by
  refine⟨S,λ_=>NO,λt=>?_,λ_ _ _ _ _ h=>h.elim,λ_ _ _ h=>h.elim,λ_ _ _ h=>h.elim,λ_ _ h=>h,ψ,Ce _ _,by simp;omega,rfl,ψ⟩;rcases vA 0 hA t with G|⟨A0,v,-,H,J,h4⟩
  ·rw[G];trivial
  rw[J];have hv:tvs {tmps:=F.toArray++Array.replicate (j.ntmps - F.toArray.size) undef,defers:=[]} t=v:=by
   have hlt:=(I3.1 H).1;simp only[tvs,t9]
   grind
  grind [oT.slot]
 refine iS K hD c hc _ _ _ _ w hp L λe F' q k M O=>?_
 obtain⟨S',φ',h⟩:=O;have fin:T0 F' t rcs->q.defers=[]/\∃v,(results j q.tmps).run P k=.ok v k/\(∃Q,Ending.returned v=.returned Q/\bA NO w k/\∃X R:am,(∀b o,X b o->b<k.heap.size/\w.heap.size<=b)/\
     (∀b o,R b o->(true=true/\S b o)\/(b<k.heap.size/\w.heap.size<=b))/\(∀b o,X b o->¬R b o)/\∃r Y:am,(∀b o,r b o->X b o)/\(∀b o,Y b o->X b o)/\(∀b o,r b o->¬Y b o)/\fR k r .box rcs.length Q/\cN k R Y rcs (cw k .box Q)):=by
  intro l;have core:∃(d:Nat)(u:List C),tvs q t=tvs q d/\F' d=.H .box u/\jV .box .box u rcs:=by
   unfold T0 at l;split at l
   ·grind
   ·rename_i d T
    split at l
    case h_2=>exact l.elim
    rename_i u y;refine⟨d,u,?_,y,l⟩;have B:=h.slot t;rw[T]at B;obtain⟨k0,cs0,r0,j0,g0,o0,U,-,e3,e4⟩:=B;have E:=h.slot d;rw[y]at E;rw[y]at U;simp only[AV.H.injEq]at U;obtain⟨rfl,rfl⟩:=U;obtain⟨r,Y,G,H,J,⟨g,o,hv,-⟩,h5⟩:=E
    grind [plc,pY]
   exact l.elim
  obtain⟨d,u,V,y,l⟩:=core;have W:=l.out.2;have E:=h.slot d;rw[y]at E;obtain⟨r,Y,G,H,J,h4,h5⟩:=E;refine⟨h.defers,tvs q d,?_,tvs q d,rfl,h.old,φ' d,λb o=>S' b o/\(S b o\/w.heap.size<=b),λb o a=>⟨(h.ex d b o a).1,(h.ex d b o a).2.resolve_right (λh=>h)⟩,λb o a=>?_,λb o a Z=>h.disS d b o a Z.1,r,Y,G,H,J,?_,?_⟩
  ·rw[<-V];simp[results,hr,tvs]
  ·rcases a.2 with p|p
   ·grind
   exact .inr ⟨(h.sup b o a.1).1,p⟩
  ·grind [WK.len]
  exact(W.row h5).mono (λb o a=>⟨a,by
    rcases(h.sup b o a).2 with p|p|p
    · exact .inl p
    · exact .inr p
    exact p.elim⟩) (λ_ _ h=>h)
 cases e with
 | normal=>exact fin M
 | ret=>exact fin M
 | _=>exact M.elim
end
def DF(P:Program)(TE:Nat->Option TI)(N:fN)(tb:List (Nat × Nat × List Nat))(id:Nat)(ops:Array Oper)(K:(Nat->AV)->Prop)(F:Nat->AV):Prop:=
 match zD tb (id+1048576) with
 | some (t,offs)=>ve t offs (DD P TE N tb id ops K) F
 | none=>DD P TE N tb id ops K F
variable{P:Program}
def o9{TE:Nat->Option TI}(a:∀t i,TE t=some i->iO P t i)(e:P.follows .mixedOrders=true)(N:fN)(tb:List (Nat × Nat × List Nat)):wi P N (nB tb) (DF P TE N tb):=
 λ_ _ b _ _ _ _ _ _ _ _ c f g=>by
  unfold DF at c;split at c
  ·obtain⟨j,h,d⟩:=A9 c f
   exact AP a e b h d g
  exact AP a e b c f g
def MZ:List (Nat × TI)->Nat->Option TI
 | [],_=>none
 | p::l,t=>bif Nat.beq t p.1 then some p.2 else MZ l t
def V5(P:Program):List (Nat × TI)->Prop
 | []=>True
 | p::l=>iO P p.1 p.2/\V5 P l
def GA{P:Program} : ∀{l:List (Nat × TI)},V5 P l->∀t i,MZ l t=some i->iO P t i
 | [],_,t,i,h=>by cases h
 | p::l,b,t,i,h=>by
  simp only[MZ]at h;cases a:Nat.beq t p.1 with
  | true=>
   rw[a]at h;simp only[cond_true,I1]at h;have:=z3 a;subst this h;exact b.1
  | false=>rw[a]at h;exact GA b.2 t i h
def WR:TypeDesc->Prop
 | .struct _=>False
 | .array _ _=>False
 | _=>True
variable{t:Nat}
def Gx{i:TI}{d:TypeDesc}(h:P.underlying t=some d)(k:i.kind=.sc d:=by rfl)(a:(P.info? t).map (λx=>(x.zero.map (·.cells.toList),x.size,x.bytes))=some (some (i.zero.map cval),i.size,i.bytes):=by kernel_rfl)(z:lv i.zero:=by repeat' first|exact trivial|refine CN rfl ?_)(n:WR d:=by trivial):iO P t i:=⟨a,z,by rw[k];refine⟨h,?_⟩;revert n;cases d<;>exact id⟩
def v7{e:Nat}{i:TI}(h:P.underlying t=some (.slice e))(k:i.kind=.sl e:=by rfl)(a:(P.info? t).map (λx=>(x.zero.map (·.cells.toList),x.size,x.bytes))=some (some (i.zero.map cval),i.size,i.bytes):=by kernel_rfl)(z:lv i.zero:=by repeat' first|exact trivial|refine CN rfl ?_):iO P t i:=⟨a,z,by rw[k];exact h⟩
def gl{i:TI}{fs}(h:P.underlying t=some (.struct fs))(k:i.kind=.st (fs.toList.map (λf=>(f.offset,f.type))):=by rfl)(a:(P.info? t).map (λx=>(x.zero.map (·.cells.toList),x.size,x.bytes))=some (some (i.zero.map cval),i.size,i.bytes):=by kernel_rfl)(z:lv i.zero:=by repeat' first|exact trivial|refine CN rfl ?_):iO P t i:=⟨a,z,by rw[k];exact⟨_,h,rfl⟩⟩
def WX{e:Nat}{i:TI}{v:Value}(h:P.underlying t=some (.map 3 e))(d:P.underlying 3=some (.int .i64))(k:i.kind=.mp 3 e v:=by rfl)(a:(P.info? t).map (λx=>(x.zero.map (·.cells.toList),x.size,x.bytes))=some (some (i.zero.map cval),i.size,i.bytes):=by kernel_rfl)(z:lv i.zero:=by repeat' first|exact trivial|refine CN rfl ?_)(b:(P.info? e).bind (·.zero)=some v:=by kernel_rfl)(c:v.oneCell'=true:=by rfl):iO P t i:=⟨a,z,by rw[k];exact⟨h,d,b,c⟩⟩
def ti3:TI:=⟨1,8,[.v (.int .i64 0)],.sc (.int .i64)⟩
def ti4:TI:=⟨1,1,[.v (.bool false)],.sc .bool⟩
def ti2:TI:=⟨1,8,[.v (.int .i64 0)],.sc (.int .i64)⟩
def ti5:TI:=⟨1,1,[.v (.int .u8 0)],.sc (.int .u8)⟩
def ti6:TI:=⟨1,1,[.v (.int .u8 0)],.sc (.int .u8)⟩
def ti7:TI:=⟨4,24,[.v (.int .i64 0),.v (.int .i64 0),.v (.bool false),.v (.int .u8 0)],.st [(0,2),(1,3),(2,4),(3,6)]⟩
def ti8:TI:=⟨4,24,[.v (.int .i64 0),.v (.int .i64 0),.v (.bool false),.v (.int .u8 0)],.st [(0,2),(1,3),(2,4),(3,6)]⟩
def ti9:TI:=⟨1,16,[.v (.string ⟨#[]⟩)],.sc .string⟩
def ti10:TI:=⟨1,16,[.v (.string ⟨#[]⟩)],.sc .string⟩
def ti11:TI:=⟨1,16,[.v (.string ⟨#[]⟩)],.sc .string⟩
def ti12:TI:=⟨1,8,[.v (.int .u64 0)],.sc (.int .u64)⟩
def ti13:TI:=⟨2,24,[.v (.string ⟨#[]⟩),.v (.int .u64 0)],.st [(0,9),(1,12)]⟩
def ti14:TI:=⟨2,24,[.v (.string ⟨#[]⟩),.v (.int .u64 0)],.st [(0,9),(1,12)]⟩
def ti21:TI:=⟨1,4,[.v (.int .i32 0)],.sc (.int .i32)⟩
def ti22:TI:=⟨1,24,[.z],.sl 5⟩
def ti24:TI:=⟨1,24,[.z],.sl 33⟩
def ti25:TI:=⟨1,24,[.z],.sl 4⟩
def ti26:TI:=⟨2,48,[.z,.z],.st [(0,24),(1,25)]⟩
def ti27:TI:=⟨2,48,[.z,.z],.st [(0,24),(1,25)]⟩
def ti28:TI:=⟨1,24,[.z],.sl 82⟩
def ti29:TI:=⟨1,24,[.z],.st [(0,28)]⟩
def ti30:TI:=⟨1,24,[.z],.st [(0,28)]⟩
def ti31:TI:=⟨3,72,[.z,.z,.z],.st [(0,27),(2,30)]⟩
def ti32:TI:=⟨3,72,[.z,.z,.z],.st [(0,27),(2,30)]⟩
def ti33:TI:=⟨1,24,[.z],.sl 3⟩
def ti34:TI:=⟨5,104,[.z,.z,.z,.v (.int .i64 0),.z],.st [(0,32),(3,3),(4,33)]⟩
def ti35:TI:=⟨5,104,[.z,.z,.z,.v (.int .i64 0),.z],.st [(0,32),(3,3),(4,33)]⟩
def ti36:TI:=⟨1,24,[.z],.sl 180⟩
def ti37:TI:=⟨1,24,[.z],.sl 267⟩
def ti38:TI:=⟨1,24,[.z],.sl 175⟩
def ti39:TI:=⟨1,24,[.z],.sl 74⟩
def ti40:TI:=⟨1,24,[.z],.sl 158⟩
def ti41:TI:=⟨1,24,[.z],.sl 192⟩
def ti42:TI:=⟨2,48,[.z,.z],.st [(0,41),(1,24)]⟩
def ti43:TI:=⟨2,48,[.z,.z],.st [(0,41),(1,24)]⟩
def ti44:TI:=⟨1,24,[.z],.sl 190⟩
def ti45:TI:=⟨2,32,[.v (.int .i64 0),.z],.st [(0,3),(1,44)]⟩
def ti46:TI:=⟨2,32,[.v (.int .i64 0),.z],.st [(0,3),(1,44)]⟩
def ti47:TI:=⟨3,40,[.v (.int .i64 0),.v (.int .i64 0),.z],.st [(0,3),(1,3),(2,33)]⟩
def ti48:TI:=⟨3,40,[.v (.int .i64 0),.v (.int .i64 0),.z],.st [(0,3),(1,3),(2,33)]⟩
def ti49:TI:=⟨5,56,[.v (.int .i64 0),.v (.int .i64 0),.z,.v (.int .i64 0),.v (.int .i64 0)],.st [(0,48),(3,3),(4,3)]⟩
def ti50:TI:=⟨5,56,[.v (.int .i64 0),.v (.int .i64 0),.z,.v (.int .i64 0),.v (.int .i64 0)],.st [(0,48),(3,3),(4,3)]⟩
def ti51:TI:=⟨24,400,[.z,.z,.z,.v (.int .i64 0),.z,.z,.z,.z,.z,.z,.z,.z,.v (.int .i64 0),.z,.v (.int .i64 0),.v (.int .i64 0),.v (.int .i64 0),.v (.int .i64 0),.v (.bool false),.v (.int .i64 0),.v (.int .i64 0),.z,.v (.int .i64 0),.v (.int .i64 0)],.st [(0,35),(5,36),(6,37),(7,38),(8,39),(9,40),(10,43),(12,46),(14,3),(15,3),(16,3),(17,3),(18,4),(19,50)]⟩
def ti52:TI:=⟨24,400,[.z,.z,.z,.v (.int .i64 0),.z,.z,.z,.z,.z,.z,.z,.z,.v (.int .i64 0),.z,.v (.int .i64 0),.v (.int .i64 0),.v (.int .i64 0),.v (.int .i64 0),.v (.bool false),.v (.int .i64 0),.v (.int .i64 0),.z,.v (.int .i64 0),.v (.int .i64 0)],.st [(0,35),(5,36),(6,37),(7,38),(8,39),(9,40),(10,43),(12,46),(14,3),(15,3),(16,3),(17,3),(18,4),(19,50)]⟩
def ti53:TI:=⟨1,24,[.z],.sl 325⟩
def ti54:TI:=⟨2,32,[.v (.int .i64 0),.z],.st [(0,3),(1,53)]⟩
def ti55:TI:=⟨2,32,[.v (.int .i64 0),.z],.st [(0,3),(1,53)]⟩
def ti56:TI:=⟨26,432,[.z,.z,.z,.v (.int .i64 0),.z,.z,.z,.z,.z,.z,.z,.z,.v (.int .i64 0),.z,.v (.int .i64 0),.v (.int .i64 0),.v (.int .i64 0),.v (.int .i64 0),.v (.bool false),.v (.int .i64 0),.v (.int .i64 0),.z,.v (.int .i64 0),.v (.int .i64 0),.v (.int .i64 0),.z],.st [(0,52),(24,55)]⟩
def ti57:TI:=⟨26,432,[.z,.z,.z,.v (.int .i64 0),.z,.z,.z,.z,.z,.z,.z,.z,.v (.int .i64 0),.z,.v (.int .i64 0),.v (.int .i64 0),.v (.int .i64 0),.v (.int .i64 0),.v (.bool false),.v (.int .i64 0),.v (.int .i64 0),.z,.v (.int .i64 0),.v (.int .i64 0),.v (.int .i64 0),.z],.st [(0,52),(24,55)]⟩
def ti73:TI:=⟨4,32,[.v (.int .i64 0),.v (.int .i64 0),.v (.int .i64 0),.v (.int .i64 0)],.st [(0,3),(1,3),(2,3),(3,3)]⟩
def ti74:TI:=⟨4,32,[.v (.int .i64 0),.v (.int .i64 0),.v (.int .i64 0),.v (.int .i64 0)],.st [(0,3),(1,3),(2,3),(3,3)]⟩
def ti77:TI:=⟨1,24,[.z],.sl 168⟩
def ti81:TI:=⟨2,16,[.v (.int .i64 0),.v (.int .i64 0)],.st [(0,3),(1,3)]⟩
def ti82:TI:=⟨2,16,[.v (.int .i64 0),.v (.int .i64 0)],.st [(0,3),(1,3)]⟩
def ti86:TI:=⟨5,56,[.v (.int .i64 0),.v (.int .i64 0),.v (.int .i64 0),.v (.int .i64 0),.z],.st [(0,3),(1,3),(2,3),(3,3),(4,33)]⟩
def ti87:TI:=⟨5,56,[.v (.int .i64 0),.v (.int .i64 0),.v (.int .i64 0),.v (.int .i64 0),.z],.st [(0,3),(1,3),(2,3),(3,3),(4,33)]⟩
def ti88:TI:=⟨1,24,[.z],.sl 199⟩
def ti97:TI:=⟨2,48,[.z,.z],.st [(0,24),(1,25)]⟩
def ti98:TI:=⟨1,24,[.z],.sl 515⟩
def ti99:TI:=⟨1,24,[.z],.st [(0,98)]⟩
def ti100:TI:=⟨1,24,[.z],.st [(0,98)]⟩
def ti101:TI:=⟨3,72,[.z,.z,.z],.st [(0,97),(2,100)]⟩
def ti102:TI:=⟨3,72,[.z,.z,.z],.st [(0,97),(2,100)]⟩
def ti103:TI:=⟨5,104,[.z,.z,.z,.v (.int .i64 0),.z],.st [(0,102),(3,3),(4,33)]⟩
def ti104:TI:=⟨5,104,[.z,.z,.z,.v (.int .i64 0),.z],.st [(0,102),(3,3),(4,33)]⟩
def ti105:TI:=⟨1,24,[.z],.sl 343⟩
def ti106:TI:=⟨1,24,[.z],.sl 345⟩
def ti107:TI:=⟨1,24,[.z],.sl 347⟩
def ti108:TI:=⟨1,24,[.z],.sl 349⟩
def ti109:TI:=⟨1,24,[.z],.sl 336⟩
def ti110:TI:=⟨1,24,[.z],.sl 436⟩
def ti111:TI:=⟨2,48,[.z,.z],.st [(0,110),(1,24)]⟩
def ti112:TI:=⟨2,48,[.z,.z],.st [(0,110),(1,24)]⟩
def ti113:TI:=⟨1,24,[.z],.sl 441⟩
def ti114:TI:=⟨2,32,[.v (.int .i64 0),.z],.st [(0,3),(1,113)]⟩
def ti115:TI:=⟨2,32,[.v (.int .i64 0),.z],.st [(0,3),(1,113)]⟩
def ti116:TI:=⟨3,40,[.v (.int .i64 0),.v (.int .i64 0),.z],.st [(0,3),(1,3),(2,33)]⟩
def ti117:TI:=⟨5,56,[.v (.int .i64 0),.v (.int .i64 0),.z,.v (.int .i64 0),.v (.int .i64 0)],.st [(0,116),(3,3),(4,3)]⟩
def ti118:TI:=⟨5,56,[.v (.int .i64 0),.v (.int .i64 0),.z,.v (.int .i64 0),.v (.int .i64 0)],.st [(0,116),(3,3),(4,3)]⟩
def ti119:TI:=⟨24,400,[.z,.z,.z,.v (.int .i64 0),.z,.z,.z,.z,.z,.z,.z,.z,.v (.int .i64 0),.z,.v (.int .i64 0),.v (.int .i64 0),.v (.int .i64 0),.v (.int .i64 0),.v (.bool false),.v (.int .i64 0),.v (.int .i64 0),.z,.v (.int .i64 0),.v (.int .i64 0)],.st [(0,104),(5,105),(6,106),(7,107),(8,108),(9,109),(10,112),(12,115),(14,3),(15,3),(16,3),(17,3),(18,4),(19,118)]⟩
def ti120:TI:=⟨24,400,[.z,.z,.z,.v (.int .i64 0),.z,.z,.z,.z,.z,.z,.z,.z,.v (.int .i64 0),.z,.v (.int .i64 0),.v (.int .i64 0),.v (.int .i64 0),.v (.int .i64 0),.v (.bool false),.v (.int .i64 0),.v (.int .i64 0),.z,.v (.int .i64 0),.v (.int .i64 0)],.st [(0,104),(5,105),(6,106),(7,107),(8,108),(9,109),(10,112),(12,115),(14,3),(15,3),(16,3),(17,3),(18,4),(19,118)]⟩
def ti126:TI:=⟨5,56,[.v (.int .i64 0),.v (.int .i64 0),.v (.int .i64 0),.v (.int .i64 0),.z],.st [(0,3),(1,3),(2,3),(3,3),(4,33)]⟩
def ti127:TI:=⟨1,24,[.z],.sl 254⟩
def ti157:TI:=⟨1,24,[.z],.st [(0,24)]⟩
def ti158:TI:=⟨1,24,[.z],.st [(0,24)]⟩
def ti167:TI:=⟨3,24,[.v (.int .i64 0),.v (.int .i64 0),.v (.int .i64 0)],.st [(0,3),(1,3),(2,3)]⟩
def ti168:TI:=⟨3,24,[.v (.int .i64 0),.v (.int .i64 0),.v (.int .i64 0)],.st [(0,3),(1,3),(2,3)]⟩
def ti174:TI:=⟨3,24,[.v (.int .i64 0),.v (.int .i64 0),.v (.int .i64 0)],.st [(0,3),(1,3),(2,3)]⟩
def ti175:TI:=⟨3,24,[.v (.int .i64 0),.v (.int .i64 0),.v (.int .i64 0)],.st [(0,3),(1,3),(2,3)]⟩
def ti179:TI:=⟨2,16,[.v (.int .i64 0),.v (.int .i64 0)],.st [(0,3),(1,3)]⟩
def ti180:TI:=⟨2,16,[.v (.int .i64 0),.v (.int .i64 0)],.st [(0,3),(1,3)]⟩
def ti185:TI:=⟨2,16,[.v (.int .i64 0),.v (.int .i64 0)],.st [(0,3),(1,3)]⟩
def ti186:TI:=⟨2,16,[.v (.int .i64 0),.v (.int .i64 0)],.st [(0,3),(1,3)]⟩
def ti189:TI:=⟨3,24,[.v (.int .i64 0),.v (.int .i64 0),.v (.int .i64 0)],.st [(0,3),(1,3),(2,3)]⟩
def ti190:TI:=⟨3,24,[.v (.int .i64 0),.v (.int .i64 0),.v (.int .i64 0)],.st [(0,3),(1,3),(2,3)]⟩
def ti192:TI:=⟨1,24,[.z],.sl 186⟩
def ti198:TI:=⟨5,40,[.v (.int .i64 0),.v (.int .i64 0),.v (.int .i64 0),.v (.int .i64 0),.v (.int .i64 0)],.st [(0,3),(1,3),(2,3),(3,3),(4,3)]⟩
def ti199:TI:=⟨5,40,[.v (.int .i64 0),.v (.int .i64 0),.v (.int .i64 0),.v (.int .i64 0),.v (.int .i64 0)],.st [(0,3),(1,3),(2,3),(3,3),(4,3)]⟩
def ti210:TI:=⟨8,64,[.v (.int .i64 0),.v (.int .i64 0),.v (.int .i64 0),.v (.int .i64 0),.v (.int .i64 0),.v (.int .i64 0),.v (.int .i64 0),.v (.int .i64 0)],.st [(0,3),(1,3),(2,3),(3,3),(4,3),(5,3),(6,3),(7,3)]⟩
def ti211:TI:=⟨8,64,[.v (.int .i64 0),.v (.int .i64 0),.v (.int .i64 0),.v (.int .i64 0),.v (.int .i64 0),.v (.int .i64 0),.v (.int .i64 0),.v (.int .i64 0)],.st [(0,3),(1,3),(2,3),(3,3),(4,3),(5,3),(6,3),(7,3)]⟩
def ti254:TI:=⟨5,40,[.v (.int .i64 0),.v (.int .i64 0),.v (.int .i64 0),.v (.int .i64 0),.v (.int .i64 0)],.st [(0,3),(1,3),(2,3),(3,3),(4,3)]⟩
def ti256:TI:=⟨3,40,[.z,.v (.int .i64 0),.v (.int .i64 0)],.st [(0,22),(1,3),(2,3)]⟩
def ti257:TI:=⟨3,40,[.z,.v (.int .i64 0),.v (.int .i64 0)],.st [(0,22),(1,3),(2,3)]⟩
def ti266:TI:=⟨3,24,[.v (.int .i64 0),.v (.int .i64 0),.v (.int .i64 0)],.st [(0,3),(1,3),(2,3)]⟩
def ti267:TI:=⟨3,24,[.v (.int .i64 0),.v (.int .i64 0),.v (.int .i64 0)],.st [(0,3),(1,3),(2,3)]⟩
def ti281:TI:=⟨1,8,[.v (.map none)],.mp 3 4 (.bool false)⟩
def ti289:TI:=⟨4,32,[.v (.int .i64 0),.v (.int .i64 0),.v (.int .i64 0),.v (.int .i64 0)],.st [(0,3),(1,3),(2,3),(3,3)]⟩
def ti290:TI:=⟨4,32,[.v (.int .i64 0),.v (.int .i64 0),.v (.int .i64 0),.v (.int .i64 0)],.st [(0,3),(1,3),(2,3),(3,3)]⟩
def ti292:TI:=⟨1,8,[.v (.map none)],.mp 3 3 (.int .i64 0)⟩
def ti304:TI:=⟨1,8,[.v (.int .u64 0)],.sc (.int .u64)⟩
def ti324:TI:=⟨2,32,[.v (.int .i64 0),.z],.st [(0,3),(1,33)]⟩
def ti325:TI:=⟨2,32,[.v (.int .i64 0),.z],.st [(0,3),(1,33)]⟩
def ti336:TI:=⟨1,24,[.z],.st [(0,24)]⟩
def ti343:TI:=⟨2,16,[.v (.int .i64 0),.v (.int .i64 0)],.st [(0,3),(1,3)]⟩
def ti345:TI:=⟨3,24,[.v (.int .i64 0),.v (.int .i64 0),.v (.int .i64 0)],.st [(0,3),(1,3),(2,3)]⟩
def ti347:TI:=⟨3,24,[.v (.int .i64 0),.v (.int .i64 0),.v (.int .i64 0)],.st [(0,3),(1,3),(2,3)]⟩
def ti349:TI:=⟨4,32,[.v (.int .i64 0),.v (.int .i64 0),.v (.int .i64 0),.v (.int .i64 0)],.st [(0,3),(1,3),(2,3),(3,3)]⟩
def ti398:TI:=⟨1,24,[.z],.sl 404⟩
def ti403:TI:=⟨2,16,[.v (.int .i64 0),.v (.int .i64 0)],.st [(0,3),(1,3)]⟩
def ti404:TI:=⟨2,16,[.v (.int .i64 0),.v (.int .i64 0)],.st [(0,3),(1,3)]⟩
def ti408:TI:=⟨1,8,[.v (.int .i64 0)],.sc (.int .i64)⟩
def ti415:TI:=⟨1,4,[.v (.int .u32 0)],.sc (.int .u32)⟩
def ti417:TI:=⟨1,8,[.v (.int .u64 0)],.sc (.int .u64)⟩
def ti436:TI:=⟨1,24,[.z],.sl 491⟩
def ti441:TI:=⟨3,24,[.v (.int .i64 0),.v (.int .i64 0),.v (.int .i64 0)],.st [(0,3),(1,3),(2,3)]⟩
def ti470:TI:=⟨1,8,[.v (.int .u64 0)],.sc (.int .u64)⟩
def ti491:TI:=⟨2,16,[.v (.int .i64 0),.v (.int .i64 0)],.st [(0,3),(1,3)]⟩
def ti515:TI:=⟨2,16,[.v (.int .i64 0),.v (.int .i64 0)],.st [(0,3),(1,3)]⟩
def ti528:TI:=⟨0,0,[],.st [(0,527)]⟩
def ti529:TI:=⟨0,0,[],.st [(0,527)]⟩
def ti531:TI:=⟨1,1,[.v (.int .u8 0)],.sc (.int .u8)⟩
def ti532:TI:=⟨1,1,[.v (.int .u8 0)],.sc (.int .u8)⟩
def ti535:TI:=⟨1,4,[.v (.int .i32 0)],.sc (.int .i32)⟩
def ti536:TI:=⟨1,4,[.v (.int .i32 0)],.sc (.int .i32)⟩
def tab:List (Nat × TI):=[(3,ti3),(4,ti4),(2,ti2),(5,ti5),(6,ti6),(7,ti7),(8,ti8),(9,ti9),(10,ti10),(11,ti11),(12,ti12),(13,ti13),(14,ti14),(21,ti21),(22,ti22),(24,ti24),(25,ti25),(26,ti26),(27,ti27),(28,ti28),(29,ti29),(30,ti30),(31,ti31),(32,ti32),(33,ti33),(34,ti34),(35,ti35),(36,ti36),(37,ti37),(38,ti38),(39,ti39),(40,ti40),(41,ti41),(42,ti42),(43,ti43),(44,ti44),(45,ti45),(46,ti46),(47,ti47),(48,ti48),(49,ti49),(50,ti50),(51,ti51),(52,ti52),(53,ti53),(54,ti54),(55,ti55),(56,ti56),(57,ti57),(73,ti73),(74,ti74),(77,ti77),(81,ti81),(82,ti82),(86,ti86),(87,ti87),(88,ti88),(97,ti97),(98,ti98),(99,ti99),(100,ti100),(101,ti101),(102,ti102),(103,ti103),(104,ti104),(105,ti105),(106,ti106),(107,ti107),(108,ti108),(109,ti109),(110,ti110),(111,ti111),(112,ti112),(113,ti113),(114,ti114),(115,ti115),(116,ti116),(117,ti117),(118,ti118),(119,ti119),(120,ti120),(126,ti126),(127,ti127),(157,ti157),(158,ti158),(167,ti167),(168,ti168),(174,ti174),(175,ti175),(179,ti179),(180,ti180),(185,ti185),(186,ti186),(189,ti189),(190,ti190),(192,ti192),(198,ti198),(199,ti199),(210,ti210),(211,ti211),(254,ti254),(256,ti256),(257,ti257),(266,ti266),(267,ti267),(281,ti281),(289,ti289),(290,ti290),(292,ti292),(304,ti304),(324,ti324),(325,ti325),(336,ti336),(343,ti343),(345,ti345),(347,ti347),(349,ti349),(398,ti398),(403,ti403),(404,ti404),(408,ti408),(415,ti415),(417,ti417),(436,ti436),(441,ti441),(470,ti470),(491,ti491),(515,ti515),(528,ti528),(529,ti529),(531,ti531),(532,ti532),(535,ti535),(536,ti536)]
abbrev zzA:=ax Tryz.prog
abbrev zzB:=aQ Tryz.prog
def Vz:V5 Tryz.prog tab:=⟨Gx Tryz.underlying3,Gx Tryz.underlying4,Gx Tryz.underlying2,Gx Tryz.underlying5,Gx Tryz.underlying6,gl Tryz.underlying7,gl Tryz.underlying8,Gx Tryz.underlying9,Gx Tryz.underlying10,Gx Tryz.underlying11,Gx Tryz.underlying12,gl Tryz.underlying13,gl Tryz.underlying14,Gx Tryz.underlying21,v7 Tryz.underlying22,v7 Tryz.underlying24,v7 Tryz.underlying25,gl Tryz.underlying26,gl Tryz.underlying27,v7 Tryz.underlying28,gl Tryz.underlying29,gl Tryz.underlying30,gl Tryz.underlying31,gl Tryz.underlying32,v7 Tryz.underlying33,gl Tryz.underlying34,gl Tryz.underlying35,v7 Tryz.underlying36,v7 Tryz.underlying37,v7 Tryz.underlying38,v7 Tryz.underlying39,v7 Tryz.underlying40,v7 Tryz.underlying41,gl Tryz.underlying42,gl Tryz.underlying43,v7 Tryz.underlying44,gl Tryz.underlying45,gl Tryz.underlying46,gl Tryz.underlying47,gl Tryz.underlying48,gl Tryz.underlying49,gl Tryz.underlying50,gl Tryz.underlying51,gl Tryz.underlying52,v7 Tryz.underlying53,gl Tryz.underlying54,gl Tryz.underlying55,gl Tryz.underlying56,gl Tryz.underlying57,gl Tryz.underlying73,gl Tryz.underlying74,v7 Tryz.underlying77,gl Tryz.underlying81,gl Tryz.underlying82,gl Tryz.underlying86,gl Tryz.underlying87,v7 Tryz.underlying88,gl Tryz.underlying97,v7 Tryz.underlying98,gl Tryz.underlying99,gl Tryz.underlying100,gl Tryz.underlying101,gl Tryz.underlying102,gl Tryz.underlying103,gl Tryz.underlying104,v7 Tryz.underlying105,v7 Tryz.underlying106,v7 Tryz.underlying107,v7 Tryz.underlying108,v7 Tryz.underlying109,v7 Tryz.underlying110,gl Tryz.underlying111,gl Tryz.underlying112,v7 Tryz.underlying113,gl Tryz.underlying114,gl Tryz.underlying115,gl Tryz.underlying116,gl Tryz.underlying117,gl Tryz.underlying118,gl Tryz.underlying119,gl Tryz.underlying120,gl Tryz.underlying126,v7 Tryz.underlying127,gl Tryz.underlying157,gl Tryz.underlying158,gl Tryz.underlying167,gl Tryz.underlying168,gl Tryz.underlying174,gl Tryz.underlying175,gl Tryz.underlying179,gl Tryz.underlying180,gl Tryz.underlying185,gl Tryz.underlying186,gl Tryz.underlying189,gl Tryz.underlying190,v7 Tryz.underlying192,gl Tryz.underlying198,gl Tryz.underlying199,gl Tryz.underlying210,gl Tryz.underlying211,gl Tryz.underlying254,gl Tryz.underlying256,gl Tryz.underlying257,gl Tryz.underlying266,gl Tryz.underlying267,WX Tryz.underlying281 Tryz.underlying3,gl Tryz.underlying289,gl Tryz.underlying290,WX Tryz.underlying292 Tryz.underlying3,Gx Tryz.underlying304,gl Tryz.underlying324,gl Tryz.underlying325,gl Tryz.underlying336,gl Tryz.underlying343,gl Tryz.underlying345,gl Tryz.underlying347,gl Tryz.underlying349,v7 Tryz.underlying398,gl Tryz.underlying403,gl Tryz.underlying404,Gx Tryz.underlying408,Gx Tryz.underlying415,Gx Tryz.underlying417,v7 Tryz.underlying436,gl Tryz.underlying441,Gx Tryz.underlying470,gl Tryz.underlying491,gl Tryz.underlying515,gl Tryz.underlying528,gl Tryz.underlying529,Gx Tryz.underlying531,Gx Tryz.underlying532,Gx Tryz.underlying535,Gx Tryz.underlying536,trivial⟩
def TE:Nat->Option TI:=MZ tab
def mg:∀t i,TE t=some i->iO Tryz.prog t i:=GA Vz
def UT:C->Value->C
 | .s .own rows,v=>.s (.tag v) rows
 | c,_=>c
def BX(u:Nat->Value):Nat->List C->List C
 | _,[]=>[]
 | j,c::cs=>UT c (u j)::BX u (j+1) cs
def zW(u:Nat->Nat->Value):Nat->List MA->List (Nat × AV)
 | _,[]=>[]
 | i,.val a cs::A=>(i,.H (kY a) cs)::zW u (i+1) A
 | i,.mut a cs::A=>(i,.H (kY a) (BX (u i) 0 cs))::zW u (i+1) A
 | i,.ptr cs::A=>(i,.H .box cs)::zW u (i+1) A
def Mo(p:Nat->Value):Nat->List MA->List (Nat × Value)
 | _,[]=>[]
 | i,.ptr _::A=>(i,p i)::Mo p (i+1) A
 | i,_::A=>Mo p (i+1) A
def Jc:Nat->List MA->List (Nat × Nat)->List (Option Nat)
 | i,.val _ _::A,_::pl=>none::Jc (i+1) A pl
 | i,.mut _ _::A,p::pl=>some p.1::Jc (i+1) A pl
 | i,.ptr _::A,_::pl=>some i::Jc (i+1) A pl
 | _,_,_=>[]
def Ky:List (Option Nat)->Bool
 | []=>true
 | none::l=>Ky l
 | some t::l=>l.all (λx=>match x with|some a=>!Nat.beq t a|none=>true)&&Ky l
def sles:List (Option Nat)->List Nat
 | []=>[]
 | none::l=>sles l
 | some t::l=>t::sles l
def WQ(v:Value)(c y o:C):Prop:=
 match c with
 | .s .own _=>(match y with|.s (.tag v') rows=>v'=v/\o=.s .own rows|_=>False)
 | .s (.tag _) _=>False
 | .m _=>False
 | .it _ _=>False
 | c=>o=c
def UR(u:Nat->Value):Nat->List C->List C->List C->Prop
 | _,[],_,o=>o=[]
 | j,c::cs,y::xs,o::os=>WQ (u j) c y o/\UR u (j+1) cs xs os
 | _,_,_,_=>False
def j8(u:Nat->Nat->Value)(F:Nat->AV):Nat->List MA->List (Nat × Nat)->List MA->Prop
 | _,[],_,[]=>True
 | i,.val _ _::A,_::pl,.val _ _::B=>j8 u F (i+1) A pl B
 | i,.mut ag cs::A,p::pl,.mut a out::B=>(a=ag/\match F p.1 with|.H _ xs=>UR (u i) 0 cs (xs.drop p.2) out|_=>False)/\j8 u F (i+1) A pl B
 | i,.ptr _::A,_::pl,.ptr out::B=>(match F i with|.H .box xs=>xs=out|_=>False)/\j8 u F (i+1) A pl B
 | _,_,_,_=>False
inductive aS(k k':Kd)(cs cs':List C)(Q:Prop):Prop
 |mk_ (h:k=k'/\cs=cs'/\Q)
theorem aS.mk{b:Kd}{Q:Prop}(h1:k=b)(c:cs=a)(d:Q):aS k b cs a Q:=by refine .mk_ ?_;grind
def CL:type_of% @aS.mk:=@aS.mk
def aS.out{b:Kd}{Q:Prop}(h:aS k b cs a Q):k=b/\cs=a/\Q:=by obtain⟨h⟩:=h;exact h
def Vb(TE:Nat->Option TI)(d:List ResultVar)(k:Kd)(rcs:List C)(u:Nat->Nat->Value)(A B:List MA)(a:List (Nat × Nat)):Exit->(Nat->AV)->Prop:=λe F=>
 match e with
 | .normal=>resA TE F d (sles (Jc 0 A a)) λb c=>aS (hC b) k c rcs (j8 u F 0 A a B)
 | .ret=>resA TE F d (sles (Jc 0 A a)) λb c=>aS (hC b) k c rcs (j8 u F 0 A a B)
 | _=>False
section
variable{P:Program}{w0 w w1:World}{M S0 S:am}{N:fN}{φ:Nat->am}{F:Nat->AV}{a:Act}{TE:Nat->Option TI}
theorem dZ.tag{Y:am}{c:C}{v:Value}(h:dZ w S Y c v):dZ w S Y (UT c v) v:=by
 cases h with
 | nil _ o a B=>cases o with
  | own=>exact .nil _ _ _ rfl
  | _=>exact .nil _ _ _ B
 | own _ o g k n l e u f B D E i p t K L M y=>cases o with
  | own=>exact .own _ _ g k n l e u f rfl D E i p t K L M y
  | U=>exact B.elim
  | tag z=>exact .own _ _ g k n l e u f B D E i p t K L M y
 | v _ x F=>exact .v _ _ F
 | x _ u F=>exact .x _ _ F
 | z _ a=>exact .z _ _
 | U _ g G k n l e u D E i N y=>exact .U _ g G k n l e u D E i N y
 | m _ b d O j t H P J q=>exact .m _ b d O j t H P J q
 | it _ r b since Q d seen j cur left t R H q y J T A=>exact .it _ r b since Q d seen j cur left t R H q y J T A
def dZ.untag{Y:am}{z v:Value}{rows:List (List C)}(h:dZ w S Y (.s (.tag z) rows) v):v=z/\dZ w S Y (.s .own rows) v:=by
 cases h with
 | nil _ o a d=>exact⟨Eq.symm d,.nil _ _ _ trivial⟩
 | own _ o g k n e rows u f d i j b c l p q r t=>exact⟨Eq.symm d,.own _ _ g k n e rows u f trivial i j b c l p q r t⟩
theorem qv(u:Nat->Value):∀(j:Nat)(cs:List C),(BX u j cs).length=cs.length
 | _,[]=>rfl
 | j,c::cs=>by simp[BX,qv u (j+1) cs]
theorem GL(u:Nat->Value):∀(a:Nat)(cs:List C)(j:Nat),(BX u a cs)[j]? = (cs[j]?).map λc=>UT c (u (a+j))
 | _,[],j=>by simp[BX]
 | a,c::cs,0=>by simp[BX]
 | a,c::cs,j+1=>by simp only[BX,List.getElem?_cons_succ];rw[GL u (a+1) cs j,show a+1+j=a+(j+1) by omega]
variable{u:Nat->Value}
theorem cN.tag{Y:am}{cs:List C}(h:cN w S Y cs u):cN w S Y (BX u 0 cs) u:=by
 obtain⟨f,i,b,d⟩:=h;refine⟨f,λj c a=>?_,λj a=>b j (by grind [qv]),λj e a g=>d j e (by grind [qv]) (by grind [qv])⟩
 grind [GL,dZ.tag]
def celF(v:Value)(j:Nat):Value:=v.cells.toList.getD j undef
def b9.celF{Y:am}{ag:Option Nat}{cs:List C}{v:Value}(h:b9 w S Y ag cs v):cs.length=ag.getD 1/\v=mkv ag (celF v)/\cN w S Y cs (celF v):=by
 obtain⟨b,u,c,d⟩:=h;have g:=r6 (ag:=ag) (u:=u) (λe=>by subst e;exact d.one (by simp at b;omega));have f:∀j,j<ag.getD 1->Ab.celF v j=u j:=λj a=>by
  unfold Ab.celF;rw[c,g];simp[List.getD,a]
 exact⟨b,c.trans (k7 λj a=>(f j a).symm),d.congr λj a=>f j ω⟩
def UQ(u:Nat->Nat->Value)(i:Nat):MA->AV
 | .val a cs=>.H (kY a) cs
 | .mut a cs=>.H (kY a) (BX (u i) 0 cs)
 | .ptr cs=>.H .box cs
theorem Dl{u:Nat->Nat->Value} : ∀{A:List MA}{vs:List Value}{V:Nat->am}(i:Nat),MO w S V A vs->∀t,(lay (zW u i A) t=.dead)\/(∃m v,i<=t/\vs[t - i]? = some v/\A[t - i]? = some m/\lay (zW u i A) t=UQ u t m/\qT w S (V (t - i)) m v)
 | [],_,_,i,_,t=>.inl rfl
 | m::A,[],_,i,h,t=>h.elim
 | m::A,v::vs,V,i,h,t=>by
  have b:lay (zW u i (m::A)) t=bif Nat.beq t i then UQ u i m else lay (zW u (i+1) A) t:=by cases m<;>rfl
  rw[b];cases c:Nat.beq t i with
  | true=>
   have:=z3 c;subst this;exact .inr ⟨m,v,v4 _,by simp,by simp,rfl,by rw[Nat.sub_self];exact h.1⟩
  | false=>
   have d:t≠i:=λe=>by simp_all
   rcases Dl (i+1) h.2 t with a|⟨f,g,a,j,k,l,n⟩
   ·exact .inl a
   grind
def Gu:∀{A:List MA}{vs:List Value}{V:Nat->am},MO w S V A vs->A.length=vs.length
 | [],[],_,_=>rfl
 | _::_,_::_,_,h=>by simp[Gu h.2]
 | [],_::_,_,h=>h.elim
 | _::_,[],_,h=>h.elim
theorem Me{p:Nat->Value} : ∀{A:List MA}{i:Nat}{q:Nat × Value},q∈Mo p i A->i<=q.1/\q.1<i+A.length/\q.2=p q.1
 | [],_,_,h=>by simp[Mo]at h
 | m::A,i,q,h=>by
  have a:q∈Mo p (i+1) A->i<=q.1/\q.1<i+(m::A).length/\q.2=p q.1:=λh=>by
   obtain⟨b,c,d⟩:=Me h
   grind
  cases m with
  | ptr e=>
   rcases List.mem_cons.1 h with rfl|h
   all_goals grind
  | val=>exact a h
  | «mut»=>exact a h
theorem LU{p:Nat->Value} : ∀{A:List MA}{i n:Nat}{cs:List C},A[n]? = some (.ptr cs)->(i+n,p (i+n))∈Mo p i A
 | [],_,n,_,h=>by simp at h
 | m::A,i,0,cs,h=>by grind [Mo]
 | m::A,i,n+1,cs,h=>by
  have a:=LU (p:=p) (i:=i+1) (show A[n]? = some (.ptr cs) by simpa using h);rw[show i+1+n=i+(n+1) by omega]at a;cases m with
  | ptr cs=>exact O7 _ a
  | val=>exact a
  | «mut»=>exact a
def V8(φ:Nat->am):Option (Option Nat)->am
 | some (some t)=>φ t
 | _=>NO
theorem FK{u:Nat->Value} : ∀{b:Nat}{cs xs a:List C},UR u b cs xs a->cs.length=a.length/\∀(j:Nat)(c o:C),cs[j]? = some c->a[j]? = some o->∃y,(eG c=true->xs[j]? = some y)/\WQ (u (b+j)) c y o
 | _,[],xs,a,h=>by grind [UR]
 | _,_::_,[],_,h=>by grind [UR]
 | _,_::_,_::_,[],h=>by grind [UR]
 | b,d::cs,e::xs,f::a,h=>by
  simp only[UR]at h;obtain⟨g,i⟩:=FK h.2
  grind
theorem QN{S' Y r:am}{E:Nat->Value}{cs xs t:List C}{off:Nat}(g:bv S w w1)(l:∀b o,S b o->S' b o)(h:cN w S Y cs u)(h':cN w1 S' r xs E)(F:UR u 0 cs (xs.drop off) t):cN w1 S' r t u:=by
 obtain⟨f,G,O,P⟩:=h;obtain⟨A,n,H,J⟩:=h';obtain⟨Q,K⟩:=FK F;refine⟨λj b o=>off+j<xs.length/\A (off+j) b o,λj c B=>?_,ψ,ψ⟩;have L:=(I3.1 B).1;have i:cs[j]? = some cs[j]:=ψ
 obtain⟨y,k,a⟩:=K j _ c i B;rw[C9]at a;have d:=G j _ i;generalize cs[j]=p at i a d k;have keep:eG p=false->c=p->dZ w1 S' (λb o=>off+j<xs.length/\A (off+j) b o) c (u j):=λM e=>by
  subst e;exact((d.bare (F':=NO) M).keep g (λ_ _ h=>h.elim)).mono l (λ_ _ h=>h.elim)
 cases p with
 | v R=>exact keep rfl a
 | x=>exact keep rfl a
 | z=>exact keep rfl a
 | m T=>exact a.elim
 | it=>exact a.elim
 | s o D=>
  cases o with
  | U=>exact keep rfl a
  | tag z=>exact a.elim
  | own=>
   have k:=k rfl;rw[List.getElem?_drop]at k;have N:=(I3.1 k).1;simp only[WQ]at a;split at a
   case h_2=>exact a.elim
   rename_i U q;obtain⟨rfl,rfl⟩:=a;obtain⟨V,W⟩:=(n _ _ k).untag
   simp_all
theorem bj.backs{C:World}{S':am}{u:Nat->Nat->Value}(h:bj w0 M S0 N S' φ F a C)(d:bv S w C)(f:∀b o,S b o->S' b o):∀{A:List MA}{g:List (Nat × Nat)}{B:List MA}{vs:List Value}{V:Nat->am}{i:Nat},MO w S V A vs->
  (∀j v,vs[j]? = some v->u (i+j)=celF v)->(∀j v cs,vs[j]? = some v->A[j]? = some (.ptr cs)->tvs a (i+j)=v)->j8 u F i A g B->BJ C S' (λn=>V8 φ (Jc i A g)[n]?) B vs
 | [],g,B,vs,V,i,l,r,t,c=>by
  cases vs with
  | cons _ _=>exact l.elim
  | nil=>cases B with
   | nil=>trivial
   | cons _ _=>grind [j8]
 | m::A,[],B,vs,V,i,l,r,t,c=>by grind [j8]
 | m::A,p::g,[],vs,V,i,l,r,t,c=>by grind [j8]
 | m::A,p::g,D::B,[],V,i,l,r,t,c=>l.elim
 | m::A,p::g,D::B,v::vs,V,i,l,r,t,c=>by
  have next:j8 u F (i+1) A g B->BJ C S' (λn=>V8 φ (Jc (i+1) A g)[n]?) B vs:=λc=>
   bj.backs h d f l.2 (λj v T=>by rw[show i+1+j=i+(j+1) by omega];simp_all)
    (λj v cs T X=>by rw[show i+1+j=i+(j+1) by omega];simp_all) c
  cases m with
  | val U cs=>
   cases D with
   | val y W=>simp only[j8]at c;exact⟨trivial,next c⟩
   | ptr=>grind [j8]
   | «mut»=>grind [j8]
  | «mut» U cs=>
   cases D with
   | val=>grind [j8]
   | ptr=>grind [j8]
   | «mut» y out=>
    simp only[j8]at c;obtain⟨⟨rfl,e⟩,G⟩:=c;refine⟨?_,next G⟩;have E:=b9.celF (show b9 w S (V 0) y cs v from l.1);have H:u i=celF v:=r 0 v (by simp);have q:=h.slot p.1;cases J:F p.1 with
    | H k xs=>
     rw[J]at e q;simp only at e;rw[H]at e;obtain⟨O,Y,P,K,Q,R,L⟩:=q;refine⟨by grind [FK],celF v,E.2.1,?_⟩;exact(QN d f E.2.2 L e).mono (λ_ _ h=>h) (λb o c=>by simpa[Jc,V8] using K b o c)
    | _=>grind
  | ptr cs=>
   cases D with
   | val=>grind [j8]
   | «mut»=>grind [j8]
   | ptr out=>
    simp only[j8]at c;refine⟨?_,next c.2⟩;have E:tvs a i=v:=t 0 v cs (by simp) (by simp);have q:=h.slot i;cases J:F i with
    | H k xs=>
     cases k with
     | box=>
      rw[J]at c q;have:=c.1;simp only at this;subst this;rw[E]at q;obtain⟨O,Y,P,K,Q,R,L⟩:=q;exact⟨O,Y,λb o c=>by simpa[Jc,V8] using P b o c,λb o c=>by simpa[Jc,V8] using K b o c,Q,R,L⟩
     | _=>grind
    | _=>grind
theorem wo:∀{l:List (Option Nat)},Ky l=true->∀(i a t c:Nat),i≠a->l[i]? = some (some t)->l[a]? = some (some c)->t≠c
 | [],_,i,a,t,c,_,h,_=>by simp at h
 | none::l,b,i,a,t,c,f,h,d=>by
  cases i with
  | zero=>simp at h
  | succ i=>cases a with
   | zero=>simp at d
   | succ a=>exact wo (l:=l) b i a t c ω (by simpa using h) (by simpa using d)
 | some g::l,b,i,a,t,c,f,h,d=>by
  simp only[Ky,I0]at b;have k:∀(n s:Nat),l[n]? = some (some s)->g≠s:=λn s j e=>by
   have:=v5.1 b.1 _ (Z2 j)
   simp_all
  cases i with
  | zero=>
   grind
  | succ i=>cases a with
   | zero=>grind
   | succ a=>exact wo b.2 i a t c ω (by simpa using h) (by simpa using d)
theorem Aj:∀{l:List (Option Nat)}{i t:Nat},l[i]? = some (some t)->t∈sles l
 | [],i,t,h=>by simp at h
 | none::l,i,t,h=>by
  cases i with
  | zero=>simp at h
  | succ i=>exact Aj (l:=l) (i:=i) (by simpa using h)
 | some a::l,i,t,h=>by
  cases i with
  | zero=>grind [sles]
  | succ i=>exact O7 _ (Aj (l:=l) (i:=i) (by simpa using h))
theorem yC{φ:Nat->am}{x:Option (Option Nat)}{b o:Nat}(h:V8 φ x b o):∃t,x=some (some t)/\φ t b o:=by
 match x,h with
 | some (some t),h=>exact⟨t,rfl,h⟩
 | some none,h=>exact h.elim
 | none,h=>exact h.elim
theorem Pq{f : Nat}{y : Func}{c : Code}{sh : Bool}{A B : List MA}{k : Kd}{rcs : List C}{mo : List (Nat × List Nat)}{n : Nat}(O : List (Nat × Nat))(hTE : ∀t i, TE t = some i -> iO P t i)(hf : P.funcs[f]? = some y)(hn : (y.name == "runtime.NumGoroutine") = false)(d:y.body=some c){ck:Nat->Array Oper->Bool}{D:fN->Nat->Array Oper->((Nat->AV)->Prop)->(Nat->AV)->Prop}(hD:∀N,wi P N ck (D N))(hc:gw ck c=true)(hN:A.length+(y.ntmps - A.length)=n)(hok:Ky (Jc 0 A O)=true)(hsh:sh=true\/i6 rcs)(hp:∀(u:Nat->Nat->Value)(p:Nat->Value),aw P TE ⟨n,Mo p 0 A,mo⟩ (D ⟨n,Mo p 0 A,mo⟩) c (Vb TE y.results.toList k rcs u A B O) (lay (zW u 0 A))):aQ P f sh A B k rcs:=by
 refine⟨⟨y,hf,hn,by rw[d];rfl⟩,λw S V E hS hV hVd hA=>?_⟩;have hlen:=Gu hA;refine calls_of_wp hf d ?_
 let u:Nat->Nat->Value:=λi=>celF (E.getD i undef)
 let p:Nat->Value:=λi=>E.getD i undef
 have htv:∀t v,E[t]? = some v->tvs {tmps:=E.toArray++Array.replicate (y.ntmps - E.toArray.size) undef,defers:=[]} t=v:=λt v r=>by
  have Q:=(I3.1 r).1;simp only[tvs,t9]
  grind
 have hst:St w (λb o=>∃i,V i b o) S ⟨n,Mo p 0 A,mo⟩ (lay (zW u 0 A)) {tmps:=E.toArray++Array.replicate (y.ntmps - E.toArray.size) undef,defers:=[]} w:=by
  refine⟨S,V,λt=>?_,hVd,ψ,ψ,λ_ _ h=>h,ψ,Ce _ _,by simp;omega,rfl,λq hq=>?_⟩
  ·rcases Dl (u:=u) 0 hA t with J|⟨m,v,-,r,h2',K,U⟩
   ·rw[J];trivial
   rw[K];rw[Nat.sub_zero]at r U;rw[htv t v r];have hu:u t=celF v:=ψ
   cases m with
   | val M G=>exact(b9.mono (show b9 w S NO M G v from U) (λ_ _ h=>h) (λ_ _ h=>h.elim)).slot
   | «mut» M G=>
    obtain⟨e1,e2,e3⟩:=b9.celF (show b9 w S (V t) M G v from U);refine b9.slot ⟨by grind [qv],celF v,e2,?_⟩
    grind [cN.tag]
   | ptr G=>exact U
  obtain⟨-,J,r⟩:=Me hq
  grind
 refine iS hTE (hD _) c hc _ _ _ _ w (hp u p) hst λe F' W l he hs'=>?_
 obtain⟨S',φ',h⟩:=hs';have fin:resA TE F' y.results.toList (sles (Jc 0 A O)) (λsh G=>aS (hC sh) k G rcs (j8 u F' 0 A O B))->W.defers=[]/\∃v,(results y W.tmps).run P l=.ok v l/\(∃v',Ending.returned v=.returned v'/\bA (λb o=>∃i,V i b o) w l/\∃(X:am)(Z:Nat->am)(S1:am),
     (∀b o,X b o->(∃i,V i b o)\/(b<l.heap.size/\w.heap.size<=b))/\(∀i b o,Z i b o->(∃i,V i b o)\/(b<l.heap.size/\w.heap.size<=b))/\
     (∀b o,S1 b o->(sh=true/\S b o)\/(∃i,V i b o)\/(b<l.heap.size/\w.heap.size<=b))/\
     (∀i i',i≠i'->∀b o,Z i b o->¬Z i' b o)/\(∀i b o,X b o->¬Z i b o)/\(∀b o,X b o->¬S1 b o)/\(∀i b o,Z i b o->¬S1 b o)/\
     fR l NO k rcs.length v'/\cN l S1 X rcs (cw l k v')/\BJ l (λb o=>S b o\/S1 b o) Z B E):=by
  intro hr;obtain⟨shs,G,a,u',hfin,hrun,L,hln,hL,hcells,H,hrow⟩:=h.resA hTE hr;obtain⟨rfl,rfl,R⟩:=hfin.out;refine⟨h.defers,?_⟩;have T:(results y W.tmps).run P l=.ok (if h:a.toArray.size=1 then a.toArray[0] else .tuple a.toArray) l:=by
   have e:results y W.tmps=(do let E <-y.results.mapM (D2 W.tmps);pure (if h:E.size=1 then E[0] else .tuple E)):=by
    unfold results
    congr 1
   rw[e,<-Array.toArray_toList (xs:=y.results),List.mapM_toArray]
   simp_all
  have hex:∀t b o,φ' t b o->(∃i,V i b o)\/(b<l.heap.size/\w.heap.size<=b):=λt b o d=>(h.ex t b o d).2.elim (λh'=>.inr ⟨(h.ex t b o d).1,h'⟩) .inl
  have hsameS:bv S w l:=λb o d=>by
   have Q:=hS b o d;exact⟨h.old.cel b o Q ψ,h.old.fro b o Q ψ⟩
  have hm:=h.backs (u:=u) hsameS h.sub hA ψ (λj v G hj hc=>by
    have:=h.par _ (LU (p:=p) (i:=0) hc)
    grind) R
  refine⟨_,T,_,rfl,h.old,λb o=>∃t,t∉sles (Jc 0 A O)/\φ' t b o,λi=>V8 φ' (Jc 0 A O)[i]?,λb o=>(sh=true/\S' b o)\/(S' b o/\((∃i,V i b o)\/w.heap.size<=b)),ψ,λi b o d=>?_,λb o d=>?_,λi i' hne b o d g=>?_,λi b o ⟨t,ht,d⟩ g=>?_,λb o ⟨t,_,d⟩ g=>h.disS t b o d ψ,λi b o d g=>?_,?_⟩
  ·grind [yC]
  ·rcases d with⟨J,r⟩|⟨J,r⟩
   ·rcases(h.sup b o r).2 with K|K|K
    ·grind
    ·exact .inr (.inr ⟨(h.sup b o r).1,K⟩)
    grind
   rcases r with r|r
   ·grind
   exact .inr (.inr ⟨(h.sup b o J).1,r⟩)
  ·obtain⟨t,e1,d⟩:=yC d
   obtain⟨t',e2,g⟩:=yC g;exact h.dis t t' (wo hok i i' t t' hne e1 e2) b o d g
  ·obtain⟨t',e2,g⟩:=yC g
   exact h.dis t t' (λe=>ht (by grind [Aj])) b o d g
  ·obtain⟨t,-,d⟩:=yC d
   exact h.disS t b o d ψ
  have hk:fR l NO (hC shs) G.length (if h:a.toArray.size=1 then a.toArray[0] else .tuple a.toArray)/\cN l S' (λb o=>∃t,t∉sles (Jc 0 A O)/\φ' t b o) G (cw l (hC shs) (if h:a.toArray.size=1 then a.toArray[0] else .tuple a.toArray)):=by
   match shs,L,H,hL with
   | [],L,_,hL=>
    cases a with
    | cons _ _=>exact L.elim
    | nil=>
     have:G=[]:=ψ
     subst this;exact⟨⟨_,rfl,trivial,rfl⟩,cN.nil _ _ _ _⟩
   | [M],_,H,_=>
    obtain⟨v,rfl,hv⟩:=H M rfl;have:=hv.slot (F:=F') (tv:=tvs W);obtain⟨X1,Y,J,r,K,U,h5⟩:=this;refine⟨?_,h5.mono (λ_ _ h=>h) r⟩;cases M<;>exact U
   | M::ag2::sh,L,_,hL=>
    have hsz:¬a.toArray.size=1:=by
     match a,L with
     | [],L=>simp
     | [v],L=>cases M<;>cases ag2<;>exact L.2.elim
     | _::_::_,_=>simp
    rw[dif_neg hsz];refine⟨⟨_,rfl,L,hL⟩,hrow.congr λj hj=>?_⟩;simp only[cw,hC,mA,hcells];simp[List.getD,hj]
  refine⟨hk.1,?_,hm.mono λb o d=>?_⟩
  ·rcases hsh with J|J
   ·exact hk.2.mono ψ (λ_ _ h=>h)
   exact(hk.2.fresh J).mono (λ_ _ h=>h.elim) (λ_ _ h=>h)
  rcases(h.sup b o d).2 with K|K|K
  all_goals grind
 cases e with
 | normal=>exact fin he
 | ret=>exact fin he
 | _=>exact he.elim
end
abbrev I(z:Int):C:=.v (.int .i64 z)
abbrev B(b:Bool):C:=.v (.bool b)
def rI(_:dX)(z:Int):List C:=[I z]
def rB(_:dX)(b:Bool):List C:=[B b]
def qj(z:Int):i6 (rI .own z):=⟨trivial,trivial⟩
def Hx(b:Bool):i6 (rB .own b):=⟨trivial,trivial⟩
def oy(z:Int):Prop:=-9223372036854775808<=z/\z<=9223372036854775807
def WW(_:Bool):Prop:=True
def pC : Tryz.prog.follows .mixedOrders=true:=by kernel_rfl
variable{tb: List (Nat × Nat × List Nat)}{rcs: List C}{A: List RA}{sh: Bool}{c: Code}{mo: List (Nat × List Nat)}{f: Nat}
def VX{a : Func}(d : Tryz.prog.funcs[f]? = some a)(e : (a.name == "runtime.NumGoroutine") = false)(g : a.body = some c)(h : gw (nB tb) c = true)(i:A.length+(a.ntmps - A.length)=n)(b:sh=true\/i6 rcs)(j:aw Tryz.prog TE ⟨n,[],mo⟩ (DF Tryz.prog TE ⟨n,[],mo⟩ tb) c (UA TE a.results.toList k rcs) (lay (xM 0 A))):zzA f sh A k rcs:=
 NI mg d e g (o9 mg pC ⟨n,[],mo⟩ tb) h i rfl b j
def Wl{a : Func}{A B : List MA}(b : List (Nat × Nat))(g : Tryz.prog.funcs[f]? = some a)(h : (a.name == "runtime.NumGoroutine") = false)(i : a.body = some c)(j : gw (nB tb) c = true)(l:A.length+(a.ntmps - A.length)=n)(d:Ky (Jc 0 A b)=true)(e:sh=true\/i6 rcs)(o:∀(u:Nat->Nat->Value)(p:Nat->Value),aw Tryz.prog TE ⟨n,Mo p 0 A,mo⟩ (DF Tryz.prog TE ⟨n,Mo p 0 A,mo⟩ tb) c (Vb TE a.results.toList k rcs u A B b) (lay (zW u 0 A))):zzB f sh A B k rcs:=
 Pq b mg g h i (λN=>o9 mg pC N tb) j l d e o
def Wn{a : Func}(b : Tryz.prog.funcs[f]? = some a)(d : (a.name == "runtime.NumGoroutine") = false)(e : a.body = some c)(g : gw (nB tb) c = true)(h:A.length+(a.ntmps - A.length)=n)(i:a.results = #[.tmp t])(j:aw Tryz.prog TE ⟨n,[],mo⟩ (DF Tryz.prog TE ⟨n,[],mo⟩ tb) c (VR t rcs) (lay (xM 0 A))):sM Tryz.prog f true A .box rcs:=
 Np mg b d e (o9 mg pC ⟨n,[],mo⟩ tb) g h rfl i j
theorem fJ{x:Int}(h1 : -9223372036854775808<=x)(a:x<=9223372036854775807):IntKind.i64.wrap x=x:=IntWalk.i64_in x ω
def PZ:RA->RA->Prop
 | .val ag cs,.val ag' cs'=>ag=ag'/\cs=cs'
 | .ptr cs,.ptr cs'=>cs=cs'
 | A,a=>A=a
theorem PZ.eq{A a:RA}(h:PZ A a):A=a:=by
 unfold PZ at h
 grind
def DL:List RA->List RA->Prop
 | [],[]=>True
 | A::As,B::Bs=>PZ A B/\DL As Bs
 | _,_=>False
theorem DL.eq:∀{A a:List RA},DL A a->A=a
 | [],[],_=>rfl
 | A::As,B::Bs,h=>by rw[PZ.eq h.1,DL.eq h.2]
 | [],_::_,h=>h.elim
 | _::_,[],h=>h.elim
theorem Cl.eq{b:Bool}{a:List RA}{K:AV->Prop}(h:ax P f false a k rcs)(c:DL A a)(d:K (.H k rcs)):Cl P f b A K:=by grind [DL.eq,CB]
def CH:type_of% @Cl.eq:=@Cl.eq
def zd{b:Nat}(h:n<=1048576)(a:b<=1000):n*b<=140737488355328:=O6 (Nat.mul_le_mul h a) (by decide)
variable{X Y:Prop}
theorem Bf.NB{a b:Bool}(h1:a≠b->X)(c:a=b->Y):Bf (a != b) X Y:=by grind [Bf.P]
theorem Rw.one{off k j:Nat}{K:List C->Nat->Prop}{o:dX}{rows:List (List C)}{r:List C}(h1:a[off]? = some (.s o rows))(c:rows[i]? = some r)(d:r.length=k)(b:K r j):Rw a off [(i,k,j)] K:=
 Rw.mk (r:=r) (j:=j) (by grind [cA]) b
def CJ:type_of% @Rw.one:=@Rw.one
section
variable{α:Type}{A B:List α}
end
def aa{β:Type}{f:α->β}{l:List α}{k:Nat}{x:α}(h:l[k]? = some x):(l.map f)[k]? = some (f x):=by simp[h]
def aH(o:dX)(x:List Int):List C:=[.s o (x.map (rI o))]
def dH(x:List Int):dM (aH .own x)=aH .U x:=by simp[dM,aH,rI,dM]
theorem bO(x:List Int):i6 (aH .own x):=⟨⟨.inl ψ,bi _ _ λy _=>qj y⟩,trivial⟩
def fm(x:List Int):Prop:=x.length<=9223372036854775807/\∀y∈x,oy y
def u6(x:List Int):Prop:=x.length<=1048576
def kx(o:dX)(x:List (List Int)):List C:=[.s o (x.map (aH o))]
def VG(x:List (List Int)):dM (kx .own x)=kx .U x:=by simp[dM,kx,dH,<-bW,C8]
def FF(x:List (List Int)):Prop:=x.length<=9223372036854775807/\∀y∈x,fm y
def AH(x:List (List Int)):Prop:=x.length<=1048576/\∀y∈x,u6 y
def vw(o:dX)(x:List Bool):List C:=[.s o (x.map (rB o))]
def Ur(x:List Bool):Prop:=x.length<=9223372036854775807/\∀y∈x,WW y
def QJ(x:List Bool):Prop:=x.length<=1048576
structure aU where
 T:List (List Int)
 a1:List Bool
deriving DecidableEq,Inhabited
def aU.enc(o:dX)(x:aU):List C:=[.s o (x.T.map (aH o)),.s o (x.a1.map (rB o))]
def aU.enc_fz(x:aU):dM (aU.enc .own x)=aU.enc .U x:=by simp[dM,aU.enc,rB,dH,<-bW,C8]
theorem aU.enc_fr(x:aU):i6 (aU.enc .own x):=⟨⟨.inl ψ,bi _ _ λy _=>bO y⟩,⟨.inl ψ,bi _ _ λy _=>Hx y⟩,trivial⟩
def aU.wf(x:aU):Prop:=FF x.T/\Ur x.a1
def aU.sml(x:aU):Prop:=AH x.T/\QJ x.a1
structure bm where
 j:Int
 e:Int
deriving DecidableEq,Inhabited
def bm.enc(o:dX)(x:bm):List C:=[I x.j,I x.e]
def bm.enc_fz(x:bm):dM (bm.enc .own x)=bm.enc .U x:=by simp[dM,bm.enc]
def bm.enc_fr(x:bm):i6 (bm.enc .own x):=⟨trivial,trivial,trivial⟩
def bm.wf(x:bm):Prop:=oy x.j/\oy x.e
def bm.sml(_:bm):Prop:=True
def HX(o:dX)(x:List bm):List C:=[.s o (x.map (bm.enc o))]
def Pa(x:List bm):Prop:=x.length<=9223372036854775807/\∀y∈x,bm.wf y
def K6(x:List bm):Prop:=x.length<=1048576/\∀y∈x,bm.sml y
structure aM where
 K:List bm
deriving DecidableEq,Inhabited
def aM.enc(o:dX)(x:aM):List C:=[.s o (x.K.map (bm.enc o))]
def aM.enc_fz(x:aM):dM (aM.enc .own x)=aM.enc .U x:=by simp[dM,aM.enc,bm.enc_fz,<-bW,C8]
def Cf:type_of% @aM.enc_fz:=@aM.enc_fz
theorem aM.enc_fr(x:aM):i6 (aM.enc .own x):=⟨⟨.inl ψ,bi _ _ λy _=>bm.enc_fr y⟩,trivial⟩
def aM.wf(x:aM):Prop:=Pa x.K
def aM.sml(x:aM):Prop:=K6 x.K
structure aY where
 W:aU
 Q:aM
deriving DecidableEq,Inhabited
def aY.enc(o:dX)(x:aY):List C:=[.s o (x.W.T.map (aH o)),.s o (x.W.a1.map (rB o)),.s o (x.Q.K.map (bm.enc o))]
def aY.enc_fz(x:aY):dM (aY.enc .own x)=aY.enc .U x:=by simp[dM,aY.enc,bm.enc_fz,rB,dH,<-bW,C8]
theorem aY.enc_fr(x:aY):i6 (aY.enc .own x):=⟨⟨.inl ψ,bi _ _ λy _=>bO y⟩,⟨.inl ψ,bi _ _ λy _=>Hx y⟩,⟨.inl ψ,bi _ _ λy _=>bm.enc_fr y⟩,trivial⟩
def aY.wf(x:aY):Prop:=aU.wf x.W/\aM.wf x.Q
def aY.sml(x:aY):Prop:=aU.sml x.W/\aM.sml x.Q
structure ah where
 G:aY
 Calls:Int
 u:List Int
deriving DecidableEq,Inhabited
def ah.enc(o:dX)(x:ah):List C:=[.s o (x.G.W.T.map (aH o)),.s o (x.G.W.a1.map (rB o)),.s o (x.G.Q.K.map (bm.enc o)),I x.Calls,.s o (x.u.map (rI o))]
def ah.enc_fz(x:ah):dM (ah.enc .own x)=ah.enc .U x:=by simp[dM,ah.enc,bm.enc_fz,rB,rI,dH,<-bW,C8]
def CS:type_of% @ah.enc_fz:=@ah.enc_fz
theorem ah.enc_fr(x:ah):i6 (ah.enc .own x):=⟨⟨.inl ψ,bi _ _ λy _=>bO y⟩,⟨.inl ψ,bi _ _ λy _=>Hx y⟩,⟨.inl ψ,bi _ _ λy _=>bm.enc_fr y⟩,trivial,⟨.inl ψ,bi _ _ λy _=>qj y⟩,trivial⟩
def Cc:type_of% @ah.enc_fr:=@ah.enc_fr
def ah.wf(x:ah):Prop:=aY.wf x.G/\oy x.Calls/\fm x.u
def ah.sml(x:ah):Prop:=aY.sml x.G/\u6 x.u
structure aB where
 At:Int
 a8:Int
deriving DecidableEq,Inhabited
def aB.enc(o:dX)(x:aB):List C:=[I x.At,I x.a8]
def aB.enc_fz(x:aB):dM (aB.enc .own x)=aB.enc .U x:=by simp[dM,aB.enc]
def aB.enc_fr(x:aB):i6 (aB.enc .own x):=⟨trivial,trivial,trivial⟩
def aB.wf(x:aB):Prop:=oy x.At/\oy x.a8
def aB.sml(_:aB):Prop:=True
def bt(o:dX)(x:List aB):List C:=[.s o (x.map (aB.enc o))]
def ee(x:List aB):dM (bt .own x)=bt .U x:=by simp[dM,bt,aB.enc_fz,<-bW,C8]
theorem jz(x:List aB):i6 (bt .own x):=⟨⟨.inl ψ,bi _ _ λy _=>aB.enc_fr y⟩,trivial⟩
def Nh(x:List aB):Prop:=x.length<=9223372036854775807/\∀y∈x,aB.wf y
def gI(x:List aB):Prop:=x.length<=1048576/\∀y∈x,aB.sml y
structure aA where
 R:Int
 d:Int
 a9:Int
deriving DecidableEq,Inhabited
def aA.enc(o:dX)(x:aA):List C:=[I x.R,I x.d,I x.a9]
def aA.enc_fz(x:aA):dM (aA.enc .own x)=aA.enc .U x:=by simp[dM,aA.enc]
def aA.enc_fr(x:aA):i6 (aA.enc .own x):=⟨trivial,trivial,trivial,trivial⟩
def aA.wf(x:aA):Prop:=oy x.R/\oy x.d/\oy x.a9
def aA.sml(_:aA):Prop:=True
def ce(o:dX)(x:List aA):List C:=[.s o (x.map (aA.enc o))]
def gL(x:List aA):dM (ce .own x)=ce .U x:=by simp[dM,ce,aA.enc_fz,<-bW,C8]
theorem yV(x:List aA):i6 (ce .own x):=⟨⟨.inl ψ,bi _ _ λy _=>aA.enc_fr y⟩,trivial⟩
def Rc(x:List aA):Prop:=x.length<=9223372036854775807/\∀y∈x,aA.wf y
def dY(x:List aA):Prop:=x.length<=1048576/\∀y∈x,aA.sml y
structure aE where
 R:Int
 a4:Int
 y:Int
deriving DecidableEq,Inhabited
def aE.enc(o:dX)(x:aE):List C:=[I x.R,I x.a4,I x.y]
def aE.enc_fz(x:aE):dM (aE.enc .own x)=aE.enc .U x:=by simp[dM,aE.enc]
def aE.enc_fr(x:aE):i6 (aE.enc .own x):=⟨trivial,trivial,trivial,trivial⟩
def aE.wf(x:aE):Prop:=oy x.R/\oy x.a4/\oy x.y
def aE.sml(_:aE):Prop:=True
def cJ(o:dX)(x:List aE):List C:=[.s o (x.map (aE.enc o))]
def mW(x:List aE):dM (cJ .own x)=cJ .U x:=by simp[dM,cJ,aE.enc_fz,<-bW,C8]
def Ng(x:List aE):Prop:=x.length<=9223372036854775807/\∀y∈x,aE.wf y
def eD(x:List aE):Prop:=x.length<=1048576/\∀y∈x,aE.sml y
structure bu where
 Id:Int
 Addr:Int
 y:Int
 a5:Int
deriving DecidableEq,Inhabited
def bu.enc(o:dX)(x:bu):List C:=[I x.Id,I x.Addr,I x.y,I x.a5]
def bu.enc_fz(x:bu):dM (bu.enc .own x)=bu.enc .U x:=by simp[dM,bu.enc]
def bu.enc_fr(x:bu):i6 (bu.enc .own x):=⟨trivial,trivial,trivial,trivial,trivial⟩
def bu.wf(x:bu):Prop:=oy x.Id/\oy x.Addr/\oy x.y/\oy x.a5
def bu.sml(_:bu):Prop:=True
def oG(o:dX)(x:List bu):List C:=[.s o (x.map (bu.enc o))]
def Nm(x:List bu):dM (oG .own x)=oG .U x:=by simp[dM,oG,bu.enc_fz,<-bW,C8]
def Ub(x:List bu):Prop:=x.length<=9223372036854775807/\∀y∈x,bu.wf y
def PV(x:List bu):Prop:=x.length<=1048576/\∀y∈x,bu.sml y
structure aF where
 Z:List (List Int)
deriving DecidableEq,Inhabited
def aF.enc(o:dX)(x:aF):List C:=[.s o (x.Z.map (aH o))]
def aF.enc_fz(x:aF):dM (aF.enc .own x)=aF.enc .U x:=by simp[dM,aF.enc,dH,<-bW,C8]
def Cg:type_of% @aF.enc_fz:=@aF.enc_fz
theorem aF.enc_fr(x:aF):i6 (aF.enc .own x):=⟨⟨.inl ψ,bi _ _ λy _=>bO y⟩,trivial⟩
def aF.wf(x:aF):Prop:=FF x.Z
def aF.sml(x:aF):Prop:=AH x.Z
def qk(o:dX)(x:List aF):List C:=[.s o (x.map (aF.enc o))]
def N6(x:List aF):Prop:=x.length<=9223372036854775807/\∀y∈x,aF.wf y
def KP(x:List aF):Prop:=x.length<=1048576/\∀y∈x,aF.sml y
structure dI where
 To:Int
 Addr:Int
deriving DecidableEq,Inhabited
def dI.enc(o:dX)(x:dI):List C:=[I x.To,I x.Addr]
def dI.enc_fz(x:dI):dM (dI.enc .own x)=dI.enc .U x:=by simp[dM,dI.enc]
def dI.enc_fr(x:dI):i6 (dI.enc .own x):=⟨trivial,trivial,trivial⟩
def dI.wf(x:dI):Prop:=oy x.To/\oy x.Addr
def dI.sml(_:dI):Prop:=True
def cL(o:dX)(x:List dI):List C:=[.s o (x.map (dI.enc o))]
def oI(x:List dI):dM (cL .own x)=cL .U x:=by simp[dM,cL,dI.enc_fz,<-bW,C8]
theorem tC(x:List dI):i6 (cL .own x):=⟨⟨.inl ψ,bi _ _ λy _=>dI.enc_fr y⟩,trivial⟩
def RK(x:List dI):Prop:=x.length<=9223372036854775807/\∀y∈x,dI.wf y
def NS(x:List dI):Prop:=x.length<=1048576/\∀y∈x,dI.sml y
def zI(o:dX)(x:List (List dI)):List C:=[.s o (x.map (cL o))]
def Ni(x:List (List dI)):Prop:=x.length<=9223372036854775807/\∀y∈x,RK y
def Kn(x:List (List dI)):Prop:=x.length<=1048576/\∀y∈x,NS y
structure aP where
 V:List (List dI)
 a2:List (List Int)
deriving DecidableEq,Inhabited
def aP.enc(o:dX)(x:aP):List C:=[.s o (x.V.map (cL o)),.s o (x.a2.map (aH o))]
def aP.enc_fz(x:aP):dM (aP.enc .own x)=aP.enc .U x:=by simp[dM,aP.enc,oI,dH,<-bW,C8]
theorem aP.enc_fr(x:aP):i6 (aP.enc .own x):=⟨⟨.inl ψ,bi _ _ λy _=>tC y⟩,⟨.inl ψ,bi _ _ λy _=>bO y⟩,trivial⟩
def aP.wf(x:aP):Prop:=Ni x.V/\FF x.a2
def aP.sml(x:aP):Prop:=Kn x.V/\AH x.a2
structure aT where
 Addr:Int
 d:Int
 b7:Int
deriving DecidableEq,Inhabited
def aT.enc(o:dX)(x:aT):List C:=[I x.Addr,I x.d,I x.b7]
def aT.enc_fz(x:aT):dM (aT.enc .own x)=aT.enc .U x:=by simp[dM,aT.enc]
def aT.enc_fr(x:aT):i6 (aT.enc .own x):=⟨trivial,trivial,trivial,trivial⟩
def aT.wf(x:aT):Prop:=oy x.Addr/\oy x.d/\oy x.b7
def aT.sml(_:aT):Prop:=True
def dm(o:dX)(x:List aT):List C:=[.s o (x.map (aT.enc o))]
def Jl(x:List aT):dM (dm .own x)=dm .U x:=by simp[dM,dm,aT.enc_fz,<-bW,C8]
theorem xg(x:List aT):i6 (dm .own x):=⟨⟨.inl ψ,bi _ _ λy _=>aT.enc_fr y⟩,trivial⟩
def N1(x:List aT):Prop:=x.length<=9223372036854775807/\∀y∈x,aT.wf y
def mH(x:List aT):Prop:=x.length<=1048576/\∀y∈x,aT.sml y
structure bS where
 b8:Int
 a6:List aT
deriving DecidableEq,Inhabited
def bS.enc(o:dX)(x:bS):List C:=[I x.b8,.s o (x.a6.map (aT.enc o))]
def bS.enc_fz(x:bS):dM (bS.enc .own x)=bS.enc .U x:=by simp[dM,bS.enc,aT.enc_fz,<-bW,C8]
theorem bS.enc_fr(x:bS):i6 (bS.enc .own x):=⟨trivial,⟨.inl ψ,bi _ _ λy _=>aT.enc_fr y⟩,trivial⟩
def bS.wf(x:bS):Prop:=oy x.b8/\N1 x.a6
def bS.sml(x:bS):Prop:=mH x.a6
structure cn where
 a3:Int
 a0:Int
 T:List Int
deriving DecidableEq,Inhabited
def cn.enc(o:dX)(x:cn):List C:=[I x.a3,I x.a0,.s o (x.T.map (rI o))]
def cn.enc_fz(x:cn):dM (cn.enc .own x)=cn.enc .U x:=by simp[dM,cn.enc,rI,<-bW,C8]
theorem cn.enc_fr(x:cn):i6 (cn.enc .own x):=⟨trivial,trivial,⟨.inl ψ,bi _ _ λy _=>qj y⟩,trivial⟩
def cn.wf(x:cn):Prop:=oy x.a3/\oy x.a0/\fm x.T
def cn.sml(x:cn):Prop:=u6 x.T
structure cz where
 X:cn
 b0:Int
 b:Int
deriving DecidableEq,Inhabited
def cz.enc(o:dX)(x:cz):List C:=[I x.X.a3,I x.X.a0,.s o (x.X.T.map (rI o)),I x.b0,I x.b]
def cz.enc_fz(x:cz):dM (cz.enc .own x)=cz.enc .U x:=by simp[dM,cz.enc,rI,<-bW,C8]
theorem cz.enc_fr(x:cz):i6 (cz.enc .own x):=⟨trivial,trivial,⟨.inl ψ,bi _ _ λy _=>qj y⟩,trivial,trivial,trivial⟩
def cz.wf(x:cz):Prop:=cn.wf x.X/\oy x.b0/\oy x.b
def cz.sml(x:cz):Prop:=cn.sml x.X
structure ac where
 F:ah
 o:List aB
 J:List aA
 M:List aE
 O:List bu
 S:List aF
 w:aP
 a7:bS
 b3:Int
 b2:Int
 b1:Int
 b:Int
 q:Bool
 Y:cz
deriving DecidableEq,Inhabited
def ac.enc(o:dX)(x:ac):List C:=[.s o (x.F.G.W.T.map (aH o)),.s o (x.F.G.W.a1.map (rB o)),.s o (x.F.G.Q.K.map (bm.enc o)),I x.F.Calls,.s o (x.F.u.map (rI o)),.s o (x.o.map (aB.enc o)),.s o (x.J.map (aA.enc o)),.s o (x.M.map (aE.enc o)),.s o (x.O.map (bu.enc o)),.s o (x.S.map (aF.enc o)),.s o (x.w.V.map (cL o)),.s o (x.w.a2.map (aH o)),I x.a7.b8,.s o (x.a7.a6.map (aT.enc o)),I x.b3,I x.b2,I x.b1,I x.b,B x.q,I x.Y.X.a3,I x.Y.X.a0,.s o (x.Y.X.T.map (rI o)),I x.Y.b0,I x.Y.b]
def ac.enc_fz(x:ac):dM (ac.enc .own x)=ac.enc .U x:=by simp[dM,ac.enc,Cg,bm.enc_fz,aE.enc_fz,bu.enc_fz,aB.enc_fz,aA.enc_fz,aT.enc_fz,rB,oI,rI,dH,<-bW,C8]
theorem ac.enc_fr(x:ac):i6 (ac.enc .own x):=⟨⟨.inl ψ,bi _ _ λy _=>bO y⟩,⟨.inl ψ,bi _ _ λy _=>Hx y⟩,⟨.inl ψ,bi _ _ λy _=>bm.enc_fr y⟩,trivial,⟨.inl ψ,bi _ _ λy _=>qj y⟩,⟨.inl ψ,bi _ _ λy _=>aB.enc_fr y⟩,⟨.inl ψ,bi _ _ λy _=>aA.enc_fr y⟩,⟨.inl ψ,bi _ _ λy _=>aE.enc_fr y⟩,⟨.inl ψ,bi _ _ λy _=>bu.enc_fr y⟩,⟨.inl ψ,bi _ _ λy _=>aF.enc_fr y⟩,⟨.inl ψ,bi _ _ λy _=>tC y⟩,⟨.inl ψ,bi _ _ λy _=>bO y⟩,trivial,⟨.inl ψ,bi _ _ λy _=>aT.enc_fr y⟩,trivial,trivial,trivial,trivial,trivial,trivial,trivial,⟨.inl ψ,bi _ _ λy _=>qj y⟩,trivial,trivial,trivial⟩
def ac.wf(x:ac):Prop:=ah.wf x.F/\Nh x.o/\Rc x.J/\Ng x.M/\Ub x.O/\N6 x.S/\aP.wf x.w/\bS.wf x.a7/\oy x.b3/\oy x.b2/\oy x.b1/\oy x.b/\WW x.q/\cz.wf x.Y
def ac.sml(x:ac):Prop:=ah.sml x.F/\gI x.o/\dY x.J/\eD x.M/\PV x.O/\KP x.S/\aP.sml x.w/\bS.sml x.a7/\cz.sml x.Y
structure kD where
 b6:Int
 c1:Int
 c5:Int
 c2:Int
deriving DecidableEq,Inhabited
def kD.enc(o:dX)(x:kD):List C:=[I x.b6,I x.c1,I x.c5,I x.c2]
def kD.enc_fr(x:kD):i6 (kD.enc .own x):=⟨trivial,trivial,trivial,trivial,trivial⟩
structure WV where
 Id:Int
 y:Int
 Sum:Int
deriving DecidableEq,Inhabited
structure bJ where
 Id:Int
 T:List Int
deriving DecidableEq,Inhabited
def bJ.enc(o:dX)(x:bJ):List C:=[I x.Id,.s o (x.T.map (rI o))]
def bJ.enc_fz(x:bJ):dM (bJ.enc .own x)=bJ.enc .U x:=by simp[dM,bJ.enc,rI,<-bW,C8]
theorem bJ.enc_fr(x:bJ):i6 (bJ.enc .own x):=⟨trivial,⟨.inl ψ,bi _ _ λy _=>qj y⟩,trivial⟩
def bJ.sml(x:bJ):Prop:=u6 x.T
def HC(x:List bJ):Prop:=x.length<=1048576/\∀y∈x,bJ.sml y
structure aG where
 b:Int
 O:List bJ
deriving DecidableEq,Inhabited
def aG.enc(o:dX)(x:aG):List C:=[I x.b,.s o (x.O.map (bJ.enc o))]
def aG.enc_fz(x:aG):dM (aG.enc .own x)=aG.enc .U x:=by simp[dM,aG.enc,bJ.enc_fz,<-bW,C8]
def Cj:type_of% @aG.enc_fz:=@aG.enc_fz
theorem aG.enc_fr(x:aG):i6 (aG.enc .own x):=⟨trivial,⟨.inl ψ,bi _ _ λy _=>bJ.enc_fr y⟩,trivial⟩
def aG.sml(x:aG):Prop:=HC x.O
structure br where
 a:ac
 b5:aG
deriving DecidableEq,Inhabited
def br.enc(o:dX)(x:br):List C:=[.s o (x.a.F.G.W.T.map (aH o)),.s o (x.a.F.G.W.a1.map (rB o)),.s o (x.a.F.G.Q.K.map (bm.enc o)),I x.a.F.Calls,.s o (x.a.F.u.map (rI o)),.s o (x.a.o.map (aB.enc o)),.s o (x.a.J.map (aA.enc o)),.s o (x.a.M.map (aE.enc o)),.s o (x.a.O.map (bu.enc o)),.s o (x.a.S.map (aF.enc o)),.s o (x.a.w.V.map (cL o)),.s o (x.a.w.a2.map (aH o)),I x.a.a7.b8,.s o (x.a.a7.a6.map (aT.enc o)),I x.a.b3,I x.a.b2,I x.a.b1,I x.a.b,B x.a.q,I x.a.Y.X.a3,I x.a.Y.X.a0,.s o (x.a.Y.X.T.map (rI o)),I x.a.Y.b0,I x.a.Y.b,I x.b5.b,.s o (x.b5.O.map (bJ.enc o))]
def br.enc_fz(x:br):dM (br.enc .own x)=br.enc .U x:=by simp[dM,br.enc,Cg,bm.enc_fz,aE.enc_fz,bu.enc_fz,aB.enc_fz,bJ.enc_fz,aA.enc_fz,aT.enc_fz,rB,oI,rI,dH,<-bW,C8]
theorem br.enc_fr(x:br):i6 (br.enc .own x):=⟨⟨.inl ψ,bi _ _ λy _=>bO y⟩,⟨.inl ψ,bi _ _ λy _=>Hx y⟩,⟨.inl ψ,bi _ _ λy _=>bm.enc_fr y⟩,trivial,⟨.inl ψ,bi _ _ λy _=>qj y⟩,⟨.inl ψ,bi _ _ λy _=>aB.enc_fr y⟩,⟨.inl ψ,bi _ _ λy _=>aA.enc_fr y⟩,⟨.inl ψ,bi _ _ λy _=>aE.enc_fr y⟩,⟨.inl ψ,bi _ _ λy _=>bu.enc_fr y⟩,⟨.inl ψ,bi _ _ λy _=>aF.enc_fr y⟩,⟨.inl ψ,bi _ _ λy _=>tC y⟩,⟨.inl ψ,bi _ _ λy _=>bO y⟩,trivial,⟨.inl ψ,bi _ _ λy _=>aT.enc_fr y⟩,trivial,trivial,trivial,trivial,trivial,trivial,trivial,⟨.inl ψ,bi _ _ λy _=>qj y⟩,trivial,trivial,trivial,⟨.inl ψ,bi _ _ λy _=>bJ.enc_fr y⟩,trivial⟩
structure Wd where
 a4:Int
 Mapped:Int
 W:Int
 Held:Int
 nX:Int
 Cached:Int
 c3:Int
 Posted:Int
deriving DecidableEq,Inhabited
def Lm{β:Type}{f:α->β}{l:List α}{K:Nat->Prop}(h:K l.length):Ln (l.map f).length K:=Ln.mk (O1 ..) h
def Wm{z:Int}{K:Int->Prop}(h : -9223372036854775808<=z/\z<=9223372036854775807)(a:K z):Wr .i64 z K:=CP (fJ h.1 h.2) a
variable{p:Prop}
def dT[Decidable p](h:p)(a:p->X):Bf (decide p) X Y:=.D a λe=>absurd h e
def dF[Decidable p](h:¬p)(a:¬p->Y):Bf (decide p) X Y:=.D (λe=>absurd e h) a
variable{b:Int}
def nT{a:Int}(h:a≠b)(c:a≠b->X):Bf (a != b) X Y:=.N c λe=>absurd e h
def nF{a:Int}(h:a=b)(c:a=b->Y):Bf (a != b) X Y:=.N (λe=>absurd h e) c
def eT{a:Int}(h:a=b)(c:a=b->X):Bf (a == b) X Y:=.E c λe=>absurd h e
def eF{a:Int}(h:a≠b)(c:a≠b->Y):Bf (a == b) X Y:=.E (λe=>absurd e h) c
def Bn{b:Bool}(h:Bf b Y X):Bf (!b) X Y:=.not h
def Bt(h:X):Bf true X Y:=.t rfl h
def Bu(h:Y):Bf false X Y:=.f rfl h
def Fm{b:Kd}(h1:k=b)(h:cs=a):jV k b cs a:=.mk h1 h
def dV[Decidable p](h:p)(a:X):Bf (decide p) X Y:=.D (λ_=>a) λe=>absurd h e
def dW[Decidable p](h:¬p)(a:Y):Bf (decide p) X Y:=.D (λe=>absurd e h) λ_=>a
def nV{a:Int}(h:a≠b)(c:X):Bf (a != b) X Y:=.N (λ_=>c) λe=>absurd e h
def nW{a:Int}(h:a=b)(c:Y):Bf (a != b) X Y:=.N (λe=>absurd h e) λ_=>c
def eV{a:Int}(h:a=b)(c:X):Bf (a == b) X Y:=.E (λ_=>c) λe=>absurd h e
def eW{a:Int}(h:a≠b)(c:Y):Bf (a == b) X Y:=.E (λe=>absurd e h) λ_=>c
structure Nk(Y:Prop):Prop where
 out:Y
structure ZF(X Y:Prop):Prop where
def ZF.rf{X:Prop}:ZF X X:=⟨⟩
def gO(y:Y)(h:Nk Y->X:=by intro y;(conv=>whnf);(first|with_reducible (first|refine Lm ?_|refine Wm ω ?_|refine Bn ?_|refine Fm rfl ?_)|refine Bt ?_|refine Bu ?_|skip);exact y.out)(_:ZF X Y:=by (fail_if_success with_reducible exact ZF.rf);exact ⟨⟩):X:=h ⟨y⟩
def gP(y:Y)(h:Nk Y->X:=by intro y;(conv=>whnf);(first|with_reducible (first|refine Lm ?_|refine Wm ω ?_|refine Bn ?_|refine Fm rfl ?_)|refine Bt ?_|refine Bu ?_|refine CB (by assumption) ?_|refine CF (aa (by assumption)) ?_|refine CJ rfl (aa (by assumption)) rfl ?_|refine CD ?_|refine CM (by assumption) (.inl rfl) ?_|skip);exact y.out)(_:ZF X Y:=by (fail_if_success with_reducible exact ZF.rf);exact ⟨⟩):X:=h ⟨y⟩
def gD(y:Y)(h:Nk Y->X:=by intro y;(conv=>whnf);(first|with_reducible (first|refine Lm ?_|refine Wm ω ?_|refine dV ω ?_|refine dW ω ?_|refine Bn ?_|refine Fm rfl ?_)|refine Bt ?_|refine Bu ?_|skip);exact y.out)(_:ZF X Y:=by (fail_if_success with_reducible exact ZF.rf);exact ⟨⟩):X:=h ⟨y⟩
def gE(y:Y)(h:Nk Y->X:=by intro y;(conv=>whnf);(first|with_reducible (first|refine Lm ?_|refine Wm ω ?_|refine dV ω ?_|refine dW ω ?_|refine Bn ?_|refine Fm rfl ?_)|refine Bt ?_|refine Bu ?_|refine CB (by assumption) ?_|refine CF (aa (by assumption)) ?_|refine CJ rfl (aa (by assumption)) rfl ?_|refine CD ?_|refine CM (by assumption) (.inl rfl) ?_|skip);exact y.out)(_:ZF X Y:=by (fail_if_success with_reducible exact ZF.rf);exact ⟨⟩):X:=h ⟨y⟩
def gA(y:Y)(h:Nk Y->X:=by intro y;(conv=>whnf);(first|with_reducible (first|refine Lm ?_|refine Wm ω ?_|refine dV ω ?_|refine dW ω ?_|refine nV ω ?_|refine nW ω ?_|refine eV ω ?_|refine eW ω ?_|refine Bn ?_|refine Fm rfl ?_)|refine Bt ?_|refine Bu ?_|skip);exact y.out)(_:ZF X Y:=by (fail_if_success with_reducible exact ZF.rf);exact ⟨⟩):X:=h ⟨y⟩
def gB(y:Y)(h:Nk Y->X:=by intro y;(conv=>whnf);(first|with_reducible (first|refine Lm ?_|refine Wm ω ?_|refine dV ω ?_|refine dW ω ?_|refine nV ω ?_|refine nW ω ?_|refine eV ω ?_|refine eW ω ?_|refine Bn ?_|refine Fm rfl ?_)|refine Bt ?_|refine Bu ?_|refine CB (by assumption) ?_|refine CF (aa (by assumption)) ?_|refine CJ rfl (aa (by assumption)) rfl ?_|refine CD ?_|refine CM (by assumption) (.inl rfl) ?_|skip);exact y.out)(_:ZF X Y:=by (fail_if_success with_reducible exact ZF.rf);exact ⟨⟩):X:=h ⟨y⟩
def ZO(y:Y)(h:Nk Y->X:=by intro y;(repeat' first|refine gO ?_|fail);exact y.out):X:=h ⟨y⟩
def ZP(y:Y)(h:Nk Y->X:=by intro y;(repeat' first|refine gP ?_|fail);exact y.out):X:=h ⟨y⟩
def ZD(y:Y)(h:Nk Y->X:=by intro y;(repeat' first|refine gD ?_|fail);exact y.out):X:=h ⟨y⟩
def ZE(y:Y)(h:Nk Y->X:=by intro y;(repeat' first|refine gE ?_|fail);exact y.out):X:=h ⟨y⟩
def ZA(y:Y)(h:Nk Y->X:=by intro y;(repeat' first|refine gA ?_|fail);exact y.out):X:=h ⟨y⟩
def ZB(y:Y)(h:Nk Y->X:=by intro y;(repeat' first|refine gB ?_|fail);exact y.out):X:=h ⟨y⟩
def W3{z1 z2:Int}(h:z1=z2):T6 (I z1) (I z2):=by subst h;rfl
def WP(c:C):T6 c c:=(nQ [c]).1
def wA(h:X:=by repeat'(first|exact trivial|rfl|refine CN ?_ ?_)):X:=h
def wB(h:X:=by repeat'(first|exact trivial|rfl|refine CN ?_ ?_|(exact W3 (by first|omega|(simp only;omega)|(simp;omega))))):X:=h
def wC(h:X:=by repeat'(first|exact trivial|rfl|exact WP _|refine CN ?_ ?_|(exact W3 (by first|omega|(simp only;omega)|(simp;omega))))):X:=h
def fO(n : Nat){a : Func}(tb : List (Nat × Nat × List Nat))(d : Tryz.prog.funcs[f]? = some a)(e : a.body = some c)(g : aw Tryz.prog TE ⟨n, [], []⟩ (DF Tryz.prog TE ⟨n, [], []⟩ tb) c (UA TE a.results.toList k rcs) (lay (xM 0 A)))(b : sh = true \/ i6 rcs := by exact .inr ⟨trivial, trivial⟩)(h : (a.name == "runtime.NumGoroutine") = false := by kernel_rfl)(i : gw (nB tb) c = true := by kernel_rfl)(j : A.length + (a.ntmps - A.length) = n := by rfl) : zzA f sh A k rcs := VX d h e i j b g
def fP(n : Nat){a : Func}(mo : List (Nat × List Nat))(tb : List (Nat × Nat × List Nat))(d : Tryz.prog.funcs[f]? = some a)(e : a.body = some c)(g : aw Tryz.prog TE ⟨n, [], mo⟩ (DF Tryz.prog TE ⟨n, [], mo⟩ tb) c (UA TE a.results.toList k rcs) (lay (xM 0 A)))(b : sh = true \/ i6 rcs := by exact .inr ⟨trivial, trivial⟩)(h : (a.name == "runtime.NumGoroutine") = false := by kernel_rfl)(i : gw (nB tb) c = true := by kernel_rfl)(j : A.length + (a.ntmps - A.length) = n := by rfl) : zzA f sh A k rcs := VX d h e i j b g
def fM(n : Nat){a : Func}{A B : List MA}(mo : List (Nat × List Nat))(tb : List (Nat × Nat × List Nat))(b : List (Nat × Nat))(g : Tryz.prog.funcs[f]? = some a)(h : a.body = some c)(i : ∀(u : Nat -> Nat -> Value)(p : Nat -> Value), aw Tryz.prog TE ⟨n, Mo p 0 A, mo⟩ (DF Tryz.prog TE ⟨n, Mo p 0 A, mo⟩ tb) c (Vb TE a.results.toList k rcs u A B b) (lay (zW u 0 A)))(d : sh = true \/ i6 rcs := by exact .inr ⟨trivial, trivial⟩)(j : (a.name == "runtime.NumGoroutine") = false := by kernel_rfl)(l : gw (nB tb) c = true := by kernel_rfl)(o : A.length + (a.ntmps - A.length) = n := by rfl)(e : Ky (Jc 0 A b) = true := by rfl) : zzB f sh A B k rcs := Wl b g j h l o e d i
end Go.Proofs.YtiopgblagimpmaaGreat.Ab
