/- A region that draws its order may be run in the text's order, where its operations are apart. No condition. -/
import Derived.Test.YtcblmfpcekokjaaGreatKDb
import Derived.Orders
import Derived.Test.YtcblmfpcekokjaaGreatKDa
import Derived.KernelRfl
import Derived.Test.YtcblmfpcekokjaaGreatProg
set_option linter.unusedVariables false
set_option linter.defProp false
set_option linter.unusedSimpArgs false
set_option linter.constructorNameAsVariable false
namespace Go.Proofs.YtcblmfpcekokjaaGreat.Ab
open Go.RowKit
def dE(o:Oper)(i:Nat):Bool:=o.after.toList.any λe=>Region.binds .any e&&Nat.beq e.on i
def ee(ops:Array Oper)(i:Nat):Oper:=ops.getD i default
def below(n:Nat)(p:Nat->Bool):Bool:=(List.range n).all p
def yH(ops:Array Oper)(i j:Nat):Bool:=match(ee ops i).dst with|some d=>((ee ops j).looksAt ops).any (Nat.beq d)|none=>false
def Ls:List Nat->Nat
 | []=>0
 | k::a=>2 ^ k ||| Ls a
def ons(o:Oper):List Nat:=(o.after.toList.filter λe=>Region.binds .any e).map (·.on)
variable{α:Type}
def frc(n:Nat)(K:Nat->α):α:=match n with|0=>K 0|n+1=>K (n+1)
def WB(n:Nat)(K:Nat->α):frc n K=K n:=by cases n<;>rfl
def clo(ops:Array Oper):Nat->Nat->Nat
 | 0,S=>S
 | k+1,S=>bif S.testBit k then frc (S ||| Ls (ons (ee ops k))) (clo ops k) else clo ops k S
def Ko(ops:Array Oper)(m:Nat):Bool:=
 below ops.size λj=>((ee ops j).after.toList.all λe=>!Region.binds .any e || Nat.blt e.on j) &&
  (bif Nat.blt j m then below m (λi=>Nat.beq i j || ((dE (ee ops j) i || dE (ee ops i) j || (ee ops i).apart ops (ee ops j))&&(!yH ops i j || dE (ee ops j) i))) else frc (clo ops j (Ls (ons (ee ops j)))) λS=>below j λi=>S.testBit i)
def El:List (Nat × Nat × List Nat)->Nat->Option (Nat × List Nat)
 | [],_=>none
 | p::l,id=>bif Nat.beq id p.1 then some p.2 else El l id
def je(P:Program)(TE:Nat->Option TI)(N:gw)(ops:Array Oper)(o:Oper)(K:(Nat->AV)->Prop)(F:Nat->AV):Prop:=
 hJ F ops o.guard (λF=>match o.dst with|some d=>dJ P TE F o.op λa=>ch N F d a K|none=>False)
  (λF=>match o.dst with|some d=>ch N F d (.Y (.tup []) []) K|none=>False)
def rz:Op->Option (Option Nat × Nat)
 | .buildSlice T 1 ps=>(match ps.toList with|[(0,.tmp s)]=>some (some T,s)|_=>none)
 | .move (.tmp s)=>some (none,s)
 | _=>none
def own1(T:Option Nat)(k:Kd)(cs:List C):Bool:=match T with
 | some _=>(match k with
   | .one=>(match cs with|[c]=>gj c|_=>false)
   | .agg=>(match cs with|[c]=>gj c|_=>false)
   | _=>false)
 | none=>(match k with|.tup _=>!b6 cs|_=>false)
def ZL(TE:Nat->Option TI)(N:gw)(F:Nat->AV)(d:Nat)(T:Option Nat)(s:Nat)(K:(Nat->AV)->Prop):Prop:=match T with
 | some T=>ix TE N F d T 1 [(0,.tmp s)] K
 | none=>kW N F d (.tmp s) K
def Q6(F:Nat->AV)(o:Oper):Option (Option Nat × Nat):=
 match o.guard with
 | some _=>none
 | none=>match rz o.op with
  | none=>none
  | some p=>match F p.2 with
   | .Y k cs=>bif own1 p.1 k cs then some p else none
   | .dead=>none
   | .ref ..=>none
   | .b5 ..=>none
   | .iref ..=>none
   | .fn ..=>none
   | .fv _=>none
def lc(ops:Array Oper)(o:Oper)(s:Nat):Bool:=
 ((List.range ops.size).any λk=>dE o k&&(match(ee ops k).dst with|some a=>Nat.beq a s|none=>false))&&Nat.ble (ops.toList.filter λk=>(k.looksAt ops).any (Nat.beq s)).length 1
def vm(ds:List Nat)(o:Oper):Bool:=match o.dst with|some d=>ds.any (Nat.beq d)|none=>false
def twk:List Nat->List Nat
 | []=>[]
 | e::l=>bif Nat.ble 1000 e then(e - 1000)::twk l else []
def dec:List Nat->List (Nat × List Nat)
 | []=>[]
 | e::l=>bif Nat.ble 1000 e then dec l else(e,twk l)::dec l
def YO:Op->Bool
 | .move (.tmp _)=>true
 | .assign _=>true
 | .extract ..=>true
 | .build ..=>true
 | .buildSlice ..=>true
 | .store ..=>true
 | .load ..=>true
 | .fieldAddr ..=>true
 | .field ..=>true
 | .binOp ..=>true
 | .unOp ..=>true
 | .call c=>(vA c).isSome
 | .slice _ _ none (some _) none=>true
 | .slice _ _ (some _) none none=>true
 | _=>false
def th:Op->Bool
 | .call c=>(match c.callee with|.value (.func _)=>true|_=>false)
 | _=>false
def BO(l:List (Nat × List Nat))(i:Nat):Bool:=l.any λp=>Nat.beq p.1 i
def AL(ops:Array Oper)(j i:Nat):Bool:=(clo ops j (Ls (ons (ee ops j)))).testBit i
def ZV(o:Oper):Bool:=match o.guard with|none=>true|some _=>false
def nmI(sch:List (Nat × List Nat))(i:Nat):Bool:=sch.any λp=>Nat.beq p.1 i&&!p.2.isEmpty
def ZX(ops:Array Oper)(a b:Oper)(nm:Bool):Bool:=match b.dst with
 | none=>false
 | some c=>ZV a&&(YO a.op || th a.op)&&!(match a.dst with|some d=>Nat.beq d c|none=>false)&&!(a.looksAt ops).any (Nat.beq c)&&ZV b&&!(b.looksAt ops).any (Nat.beq c)&&(nm || match rz b.op with|none=>true|some p=>!lc ops b p.2)
def GX(ops:Array Oper)(ds:List Nat)(nm:Nat->Bool)(i j:Nat):Bool:=
 bif vm ds (ee ops j) then(bif vm ds (ee ops i) then(dE (ee ops j) i || dE (ee ops i) j || (ee ops i).apart ops (ee ops j))&&(!yH ops i j || dE (ee ops j) i)&&!(match(ee ops i).dst with|some d=>(match(ee ops j).dst with|some e=>Nat.beq d e|none=>false)|none=>false) else true)
 else(bif vm ds (ee ops i) then(AL ops j i || AL ops i j || ZX ops (ee ops j) (ee ops i) (nm i))&&(!yH ops i j || dE (ee ops j) i) else true)
def K4(ops:Array Oper)(ds:List Nat):List (Nat × List Nat)->Bool
 | []=>true
 | k::l=>Nat.blt k.1 ops.size&&!BO l k.1&&((ee ops k.1).after.toList.all λe=>!Region.binds .any e || !(Nat.beq k.1 e.on || BO l e.on)) &&
  (vm ds (ee ops k.1) || ((l.all λj=>AL ops j.1 k.1)&&(below ops.size λp=>!vm ds (ee ops p) || BO l p || AL ops k.1 p || k.2.any (Nat.beq p))&&(!(l.any λj=>vm ds (ee ops j.1)) || (ZV (ee ops k.1)&&(YO (ee ops k.1).op || th (ee ops k.1).op)))))&&K4 ops ds l
def Ky(ops:Array Oper)(ds:List Nat)(sch:List (Nat × List Nat)):Bool:=
 (below ops.size λj=>((ee ops j).after.toList.all λe=>!Region.binds .any e || Nat.blt e.on j)&&BO sch j&&(!vm ds (ee ops j) || (match rz (ee ops j).op with|none=>true|some p=>!lc ops (ee ops j) p.2 || ds.any (Nat.beq p.2)))&&below ops.size λi=>Nat.beq i j || GX ops ds (nmI sch) i j)&&Nat.beq sch.length ops.size&&K4 ops ds sch
def rr(tb:List (Nat × Nat × List Nat))(id:Nat)(ops:Array Oper):Bool:=
 match El tb id with
 | some (m,ds)=>bif Nat.ble 65536 m then true else bif Nat.ble 256 m then Ky ops (ds.take (m - 256)) (dec (ds.drop (m - 256))) else(Nat.ble m ops.size&&below m λj=>match(ee ops j).dst with|some d=>ds.any (Nat.beq d)|none=>true)&&Ko ops m
 | none=>false
def ox(P:Program)(TE:Nat->Option TI)(N:gw)(ops:Array Oper)(o:Oper)(K:(Nat->AV)->Prop)(F:Nat->AV):Prop:=
 match Q6 F o with
 | some p=>(match o.dst with|some d=>bif lc ops o p.2 then ZL TE N F d p.1 p.2 K else False|none=>False)
 | none=>je P TE N ops o K F
def WN(P:Program)(TE:Nat->Option TI)(N:gw)(ops:Array Oper):Nat->List Oper->((Nat->AV)->Prop)->(Nat->AV)->Prop
 | 0,l,K,F=>Tk P TE N ops l K F
 | _+1,[],K,F=>K F
 | m+1,o::l,K,F=>ox P TE N ops o (WN P TE N ops m l K) F
def XN(ds:List Nat)(t:Nat):Bool:=ds.any (Nat.beq t)
def a1u(ds:List Nat):AV->AV
 | .ref t off st=>bif XN ds t then .dead else .ref t off st
 | .b5 t off st ag=>bif XN ds t then .dead else .b5 t off st ag
 | .fn f caps=>bif caps.any (XN ds) then .dead else .fn f caps
 | .Y k cs=>.Y k cs
 | .iref r off=>.iref r off
 | .fv Ok=>.fv Ok
 | .dead=>.dead
def clr(ds:List Nat)(F:Nat->AV):Nat->AV:=λt=>a1u ds (F t)
theorem HZ(ds:List Nat)(F:Nat->AV)(t:Nat):clr ds F t=bif ds.any (λd=>(F t).uses d) then .dead else F t:=by
 unfold clr;cases F t with
 | dead=>cases ds.any λd=>AV.uses d .dead<;>rfl
 | Y k i=>
  have:ds.any (λd=>(AV.Y k i).uses d)=false:=by
   rw[<-OA,I7]
   rintro⟨d,_,h⟩
   cases h
  rw[this];rfl
 | iref r a=>
  have:ds.any (λd=>(AV.iref r a).uses d)=false:=by
   rw[<-OA,I7]
   rintro⟨d,_,h⟩
   cases h
  rw[this];rfl
 | fv Ok=>
  have:ds.any (λd=>(AV.fv Ok).uses d)=false:=by
   rw[<-OA,I7]
   rintro⟨d,_,h⟩
   cases h
  rw[this];rfl
 | ref j a l=>rfl
 | b5 j a l n=>rfl
 | fn f caps=>
  have:ds.any (λd=>(AV.fn f caps).uses d)=caps.any (XN ds):=by
   rw[C9,I7,I7];constructor
   ·rintro⟨d,b,h⟩
    simp only[AV.uses,I7]at h;obtain⟨c,e,g⟩:=h;exact⟨c,e,I7.2 ⟨d,b,g⟩⟩
   rintro⟨c,e,h⟩
   obtain⟨d,b,g⟩:=I7.1 h
   grind [AV.uses]
  rw[this];rfl
inductive Sm(a b:AV)(K:Prop):Prop
 |mk_ (h:a=b/\K)
def Sm.rf{a:AV}{K:Prop}(h:K):Sm a a K:=.mk_ ⟨rfl,h⟩
def CH:type_of% @Sm.rf:=@Sm.rf
def Sm.out{a b:AV}{K:Prop}(h:Sm a b K):a=b/\K:=h.1
def a1h(P:Program)(TE:Nat->Option TI)(ops:Array Oper)(p:Nat)(K:Prop)(F:Nat->AV):Prop:=
 match(ee ops p).dst with
 | none=>False
 | some d=>(match Q6 F (ee ops p) with
   | some _=>False
   | none=>dJ P TE F (ee ops p).op λa=>Sm a (F d) K)
def VV(P:Program)(TE:Nat->Option TI)(ops:Array Oper):List Nat->Prop->(Nat->AV)->Prop
 | [],K,_=>K
 | p::l,K,F=>a1h P TE ops p (VV P TE ops l K F) F
def V8(P:Program)(TE:Nat->Option TI)(N:gw)(ops:Array Oper)(nm:Bool)(o:Oper)(K:(Nat->AV)->Prop)(F:Nat->AV):Prop:=
 match nm with
 | false=>ox P TE N ops o K F
 | true=>(match Q6 F o with
   | some _=>False
   | none=>je P TE N ops o K F)
def Th(P:Program)(TE:Nat->Option TI)(N:gw)(ops:Array Oper)(ds:List Nat)(nm:Nat->Bool):List (Nat × List Nat)->((Nat->AV)->Prop)->(Nat->AV)->Prop
 | [],K,F=>K F
 | k::l,K,F=>bif vm ds (ee ops k.1) then V8 P TE N ops (nm k.1) (ee ops k.1) (Th P TE N ops ds nm l K) F else k7 P TE N ops (ee ops k.1) (λa=>VV P TE ops k.2 (Th P TE N ops ds nm l K a) a) F
def Yk:List Nat->(List Nat->Prop)->Prop
 | [],K=>K []
 | a::l,K=>Yk l λb=>K (a::b)
def RK:∀(l:List Nat)(K:List Nat->Prop),Yk l K=K l
 | [],_=>rfl
 | a::l,K=>by rw[Yk,RK l]
def JP(l:List Nat)(j:Nat):Bool:=l.any (Nat.beq j)
def UW(ops:Array Oper)(done:List Nat):List Nat:=(List.range ops.size).filter λj=>!JP done j&&((ee ops j).after.toList.all λe=>!Region.binds .any e || JP done e.on)
def cjL(p:Nat->Prop):Nat->List Nat->Prop
 | i,[]=>p i
 | i,j::l=>p i/\cjL p j l
def cjX(l:List Nat)(K:Prop)(p:Nat->Prop):Prop:=match l with
 | []=>K
 | i::l=>cjL p i l
def Ze(P:Program)(TE:Nat->Option TI)(N:gw)(ops:Array Oper)(K:(Nat->AV)->Prop):Nat->List Nat->(Nat->AV)->Prop
 | 0,done,F=>cjX (UW ops done) (K F) λ_=>False
 | n+1,done,F=>cjX (UW ops done) (K F) λi=>k7 P TE N ops (ee ops i) (Ze P TE N ops K n (i::done)) F
def DD(P:Program)(TE:Nat->Option TI)(N:gw)(tb:List (Nat × Nat × List Nat))(id:Nat)(ops:Array Oper)(K:(Nat->AV)->Prop)(F:Nat->AV):Prop:=
 match El tb id with
 | some (m,ds)=>bif Nat.ble 65536 m then Ze P TE N ops K ops.size [] F else bif Nat.ble 256 m then Yk (ds.take (m - 256)) λa=>Th P TE N ops a (nmI (dec (ds.drop (m - 256)))) (dec (ds.drop (m - 256))) K (clr a F) else WN P TE N ops m ops.toList K (clr ds F)
 | none=>False
variable{i n:Nat}
theorem iX{p:Nat->Bool}(h:below n p=true)(a:i<n):p i=true:=O7.1 h i ψ
theorem cG{o:Oper} : dE o i=true↔∃e,e∈o.after/\Region.binds .any e=true/\e.on=i:=by grind [v4,Nat.beq_refl,dE]
theorem bQ{ops:Array Oper}{o:Oper}(h:ops[i]? = some o):ee ops i=o:=by simp[ee,ID,h]
section
variable{P:Program}{w0 w w1:World}{M S0 S:am}{N:gw}{φ:Nat->am}{F:Nat->AV}{a:Act}{TE:Nat->Option TI}{ops:Array Oper}
variable{d:Nat}
theorem Hz{b:Bool}(a:F d=.Y .one [.v (.bool b)]):Le F d b=F:=by grind [v4,Le]
theorem jZ(o:Oper)(t:Nat)(h:t∈ew o.op):t∈o.looksAt ops:=by grind [Go.Oper.looksAt,ew,tm]
structure Yl0(P:Program)(TE:Nat->Option TI)(N:gw)(ops:Array Oper)(o:Oper)(F:Nat->AV)(d:Nat)(av:AV):Prop where
 dst:o.dst=some d
 lt:N.free d=true
 self:av.uses d=false
 from_:fV F (o.looksAt ops) av
 at_:∀F':Nat->AV,jz F F' (o.looksAt ops)->∀K':(Nat->AV)->Prop,K' (put F' d av)->je P TE N ops o K' F'
def jz.refl(F:Nat->AV)(ts:List Nat):jz F F ts:=λ_ _=>⟨rfl,λ_ _ _ _ h=>h⟩
theorem Co:type_of% @jz.refl:=@jz.refl
variable{K:(Nat->AV)->Prop}{o:Oper}
theorem E5(h:je P TE N ops o K F):∃d av,Yl0 P TE N ops o F d av/\K (put F d av):=by
 cases e:o.dst with
 | none=>
  exfalso;unfold je at h;rw[e]at h;unfold hJ at h
  grind [Bf.out]
 | some d=>
  have put1:∀{a:Nat->AV}{av:AV}{c:(Nat->AV)->Prop},N.free d=true->av.uses d=false->c (put a d av)->ch N a d av c:=λA B E=>by grind [ch]
  have put2:∀{a:Nat->AV}{av:AV}{c:(Nat->AV)->Prop},ch N a d av c->N.free d=true/\av.uses d=false/\c (put a d av):=fun {a av c} n=>by grind [ch]
  have pure1:dJ P TE F o.op (λav=>ch N F d av K)->∃av,N.free d=true/\av.uses d=false/\K (put F d av)/\fV F (o.looksAt ops) av/\∀a:Nat->AV,jz F a (o.looksAt ops)->∀c:(Nat->AV)->Prop,c (put a d av)->dJ P TE a o.op (λav=>ch N a d av c):=λn=>by
   obtain⟨av,A,B,E⟩:=mz n
   grind [fV.mono,jZ,jz.mono]
  unfold je at h;rw[e]at h;unfold hJ at h;cases r:o.guard with
  | none=>
   rw[r]at h;obtain⟨av,i,k,l,w,C⟩:=pure1 h;exact⟨d,av,⟨e,i,k,w,λa f c t=>by unfold je hJ;simp_all⟩,l⟩
  | some p=>
   obtain⟨j,want⟩:=p;rw[r]at h;simp only at h;cases y:(ops[j]?).bind (·.dst) with
   | none=>grind
   | some u=>
    rw[y]at h;simp only at h;have q:u∈o.looksAt ops:=by grind [Go.Oper.looksAt]
    split at h
    case h_3=>exact h.elim
    case h_2=>
     rename_i J L g;obtain⟨i,k,l⟩:=put2 h;refine⟨d,.Y (.tup []) [],⟨e,i,k,(λd e=>by cases e),λa f c t=>?_⟩,l⟩;unfold je hJ;rw[r,e];simp only;rw[y];simp only;rw[(f u q).1.trans g];exact put1 i k t
    rename_i b g;have same:∀{a:Nat->AV},jz F a (o.looksAt ops)->a u=.Y .one [.v (.bool b)]:=λf=>(f u q).1.trans g
    have back:∀{a:Nat->AV}{c:(Nat->AV)->Prop},jz F a (o.looksAt ops)->(b=want->dJ P TE a o.op (λav=>ch N a d av c))->(b = !want->ch N a d (.Y (.tup []) []) c)->je P TE N ops o c a:=fun {a c} f A B=>by
     unfold je hJ;rw[r,e];simp only;rw[y];simp only;rw[same f];simp only;refine Bf.P (λG=>?_) (λG=>?_)
     all_goals grind [Hz]
    have D:=Hz g;replace h:=Bf.out h;by_cases H:b=want
    ·have n:dJ P TE F o.op (λav=>ch N F d av K):=ψ
     obtain⟨av,i,k,l,w,C⟩:=pure1 n;exact⟨d,av,⟨e,i,k,w,λa f c t=>back f (λ_=>C a f c t) ψ⟩,l⟩
    have n:ch N F d (.Y (.tup []) []) K:=ψ
    obtain⟨i,k,l⟩:=put2 n;exact⟨d,.Y (.tup []) [],⟨e,i,k,(λd e=>by cases e),ψ⟩,l⟩
def aft:AV->AV
 | .Y k a=>.Y k (splice a 0 (List.replicate a.length .x))
 | _=>.Y .one [.x]
theorem Wy(v:AV)(e:Nat):(aft v).uses e=false:=by unfold aft;split<;>rfl
def eff(a:Option Nat)(d:Nat)(av:AV)(F:Nat->AV):Nat->AV:=λt=>if t=d then av else if a=some t then aft (F t) else F t
theorem Ku(av:AV)(a:∀t,(F t).uses d=false):put F d av=eff none d av F:=by grind [tc,kq,G4,eff]
variable{s:Nat}
theorem Zz{v:AV}(h:v.uses s=false):wU s v=v:=by
 cases v with
 | b5 t a b c=>grind [AV.uses,wU]
 | ref t a b=>simp only[AV.uses]at h;cases b<;>simp[wU,h]
 | _=>rfl
theorem WJ{k:Kd}{cs:List C}(av:AV)(a:F s=.Y k cs)(c:∀t,(F t).uses d=false)(e:∀t,(F t).uses s=false):put (updH F s k (splice cs 0 (List.replicate cs.length .x))) d av=eff (some s) d av F:=by
 funext t
 unfold eff;by_cases h:t=d
 ·grind [tc]
 rw[kq _ _ h,CJ h];by_cases b:t=s
 ·subst b;rw[kc,CK rfl,a];rfl
 grind [Nat.beq_eq,Zz,G4,updH]
theorem Qi{T:Nat}{k:Kd}{c:C}(o:k=.one\/k=.agg)(p:F s=.Y k [c])(q:gj c=true)(h:ix TE N F d T 1 [(0,.tmp s)] K) :
  ∃av,N.free d=true/\(∀e,av.uses e=false)/\K (put (updH F s k [.x]) d av)/\∀(F':Nat->AV)(b:(Nat->AV)->Prop),F' s=.Y k [c]->b (put (updH F' s k [.x]) d av)->ix TE N F' d T 1 [(0,.tmp s)] b:=by
 have key:∀F':Nat->AV,F' s=.Y k [c]->∀b:(Nat->AV)->Prop,ix TE N F' d T 1 [(0,.tmp s)] b=N5 TE T λ_ a=>bif Nat.ble (1*a.size) 16777216 then(bif Nat.beq 1 a.size&&Nat.ble (0*a.size+a.size) (rep a.zero 1).length then ch N (updH F' s k [.x]) d (.Y .one [.s .own (chunk a.size 1 (splice (rep a.zero 1) (0*a.size) [c]))]) b else False) else False:=by
  intro F' f b;unfold ix
  congr 1
  funext e a
  rcases o with rfl|rfl<;>simp only[dS,fillW,plS,zJ,qZ,f,jU,b6,q,cond_true,cond_false,iQ,tf,List.length_singleton,List.replicate]
  all_goals rfl
 rw[key F p]at h;obtain⟨e,a,g,n⟩:=iP h;cases i:Nat.ble (1*a.size) 16777216 with
 | false=>grind
 | true=>
  cases j:(Nat.beq 1 a.size&&Nat.ble (0*a.size+a.size) (rep a.zero 1).length) with
  | false=>grind
  | true=>
   rw[i,j]at g;simp only[cond_true]at g;unfold ch at g;cases l:N.free d with
   | false=>grind
   | true=>
    rw[l]at g;refine⟨_,rfl,λ_=>rfl,g,λF' b f r=>?_⟩
    grind [ch]
variable{T:Option Nat}
theorem Z2{k:Kd}{cs:List C}(j:F s=.Y k cs)(l:own1 T k cs=true)(h:ZL TE N F d T s K) :
  ∃av,N.free d=true/\(∀e,av.uses e=false)/\K (put (updH F s k (splice cs 0 (List.replicate cs.length .x))) d av)/\∀(F':Nat->AV)(a:(Nat->AV)->Prop),F' s=.Y k cs->a (put (updH F' s k (splice cs 0 (List.replicate cs.length .x))) d av)->ZL TE N F' d T s a:=by
 cases T with
 | some T=>
  have f:(k=.one\/k=.agg)/\∃c,cs=[c]/\gj c=true:=by
   unfold own1 at l
   grind
  obtain⟨n,c,rfl,o⟩:=f;exact Qi n j o h
 | none=>
  have f:∃b,k=.tup b/\b6 cs=false:=by
   unfold own1 at l
   grind
  obtain⟨b,rfl,p⟩:=f;have key:∀F':Nat->AV,F' s=.Y (.tup b) cs->∀a,ZL TE N F' d none s a=ch N (updH F' s (.tup b) (splice cs 0 (List.replicate cs.length .x))) d (.Y (.tup b) cs) a:=λF' g a=>by grind [ZL,kW]
  rw[key F j]at h;unfold ch at h;cases i:N.free d with
  | false=>grind
  | true=>
   rw[i]at h;refine⟨_,rfl,λ_=>rfl,h,λF' a g q=>?_⟩
   grind [ch]
structure Yl(P:Program)(TE:Nat->Option TI)(N:gw)(ops:Array Oper)(o:Oper)(F:Nat->AV)(mv:Option Nat)(d:Nat)(av:AV):Prop where
 dst:o.dst=some d
 lt:N.free d=true
 self:av.uses d=false
 from_:fV F (o.looksAt ops) av
 mvl:∀s,mv=some s->o.guard=none/\(∃T,rz o.op=some (T,s))/\lc ops o s=true
 at_:∀F':Nat->AV,jz F F' (o.looksAt ops)->(∀t,(F' t).uses d=false)->(∀s,mv=some s->∀t,(F' t).uses s=false)->∀K':(Nat->AV)->Prop,K' (eff mv d av F')->ox P TE N ops o K' F'
theorem QP{o:Op}(h:rz o=some (T,s)):(∃a ps,T=some a/\o=.buildSlice a 1 ps/\ps.toList=[(0,.tmp s)])\/(T=none/\o=.move (.tmp s)):=by
 unfold rz at h
 grind
theorem d9(h:rz o.op=some (T,s)):s∈o.looksAt ops:=by
 refine jZ o s ?_;unfold ew;refine List.mem_flatMap.2 ⟨.tmp s,?_,by simp[tm]⟩
 grind [QP,Go.Op.operands]
theorem N1{p:Option Nat × Nat}(h:Q6 F o=some p):o.guard=none/\rz o.op=some p/\∃k cs,F p.2=.Y k cs/\own1 p.1 k cs=true:=by grind [Q6]
theorem AS{F':Nat->AV}(a:jz F F' (o.looksAt ops)):Q6 F' o=Q6 F o:=by
 unfold Q6;cases c:o.guard with
 | some _=>rfl
 | none=>
  cases b:rz o.op with
  | none=>rfl
  | some p=>simp only;rw[(a p.2 (d9 b)).1]
theorem x8(c:Q6 F o=none)(h:je P TE N ops o K F)(e:∀d,o.dst=some d->∀t,(F t).uses d=false):∃d av,Yl P TE N ops o F none d av/\K (eff none d av F):=by
 obtain⟨d,av,a,f⟩:=E5 h;refine⟨d,av,⟨a.dst,a.lt,a.self,a.from_,ψ,λg i j _ k b=>?_⟩,by grind [Ku,Yl0.dst]⟩
 grind [AS,Yl0.at_,Ku,ox]
theorem uP(h:ox P TE N ops o K F)(E:∀d,o.dst=some d->∀t,(F t).uses d=false)(y:∀T s,o.guard=none->rz o.op=some (T,s)->lc ops o s=true->∀t,(F t).uses s=false) :
  ∃r d av,Yl P TE N ops o F r d av/\K (eff r d av F):=by
 unfold ox at h;cases f:Q6 F o with
 | none=>
  grind [x8]
 | some p=>
  rw[f]at h;obtain⟨G,a,k,H,g,b⟩:=N1 f;simp only at h;cases i:o.dst with
  | none=>grind
  | some d=>
   rw[i]at h;simp only at h;cases c:lc ops o p.2 with
   | false=>grind
   | true=>
    rw[c]at h;simp only[cond_true]at h;obtain⟨av,A,u,J,B⟩:=Z2 g b h;refine⟨some p.2,d,av,⟨i,A,u d,λe w=>(by rw[u e]at w;cases w),λs y=>?_,λC j l n D q=>?_⟩,?_⟩
    ·grind
    ·unfold ox
     rw[AS j,f];simp only;rw[i];simp only;rw[c];refine B C D ((j p.2 (d9 a)).1.trans g) ?_;rw[WJ av ((j p.2 (d9 a)).1.trans g) l (n p.2 rfl)];exact q
    grind [WJ]
theorem RR{nm:Bool}(h:V8 P TE N ops nm o K F)(b:∀d,o.dst=some d->∀t,(F t).uses d=false)(c:∀T s,o.guard=none->rz o.op=some (T,s)->lc ops o s=true->∀t,(F t).uses s=false) :
  ∃a d av,Yl P TE N ops o F a d av/\K (eff a d av F)/\(nm=true->a=none):=by
 unfold V8 at h
 grind [uP,x8]
end
section
variable{P:Program}{w0 w w1:World}{M S0 S:am}{N:gw}{φ:Nat->am}{F:Nat->AV}{a:Act}{TE:Nat->Option TI}{ops:Array Oper}
def Db(P:Program)(TE:Nat->Option TI)(N:gw)(ops:Array Oper)(m i:Nat)(K:(Nat->AV)->Prop)(F:Nat->AV):Prop:=
 match ops[i]? with
 | none=>K F
 | some o=>if i<m then ox P TE N ops o K F else k7 P TE N ops o K F
def PO(P:Program)(TE:Nat->Option TI)(N:gw)(ops:Array Oper)(m:Nat)(K:(Nat->AV)->Prop):Nat->Array Bool->(Nat->AV)->Prop
 | 0,listed,F=>Region.ready .any ops listed=[]/\K F
 | fuel+1,listed,F=>(Region.ready .any ops listed=[]->K F)/\∀i,i∈Region.ready .any ops listed->Db P TE N ops m i (PO P TE N ops m K fuel (listed.setIfInBounds i true)) F
variable{Q:Exit->Act->World->Prop}{Kc:Act->World->Prop}{K:(Nat->AV)->Prop}{o:Oper}
theorem bv.oneP0(h:bv w0 M S0 N S φ F a w)(c:∀t i,TE t=some i->j7 P t i)(b:je P TE N ops o K F)(p:∀F' j e,K F'->St w0 M S0 N F' j e->Kc j e) :
  if Region.wanted o (yielded ops a.tmps) then o.wp P a w Kc Q else Kc (a.put o.dst undef) w:=by
 unfold je at b;rcases EH h b with⟨f,b⟩|⟨f,b⟩
 ·rw[f,CK rfl]
  cases g:o.dst with
  | none=>grind
  | some d=>
   rw[g]at b;obtain⟨av,k,l⟩:=h.pure_ c b;refine l Kc Q λv e q=>?_
   grind [bv.putD_new]
 rw[f,CJ (by simp)];cases g:o.dst with
 | none=>grind
 | some d=>
  rw[g]at b;obtain⟨F',k,n⟩:=h.putD_new (v:=undef) (pi.same (av:=.Y (.tup []) []) Vr) b
  grind
variable{d:Nat}
def Uk{p:Option Nat × Nat}(f:Q6 F o=some p)(c:o.dst=some d)(h:ZL TE N F d p.1 p.2 K):k7 P TE N ops o K F:=by
 obtain⟨e,a,-⟩:=N1 f;obtain⟨T,s⟩:=p;rcases QP a with⟨i,j,rfl,b,g⟩|⟨rfl,b⟩
 ·unfold k7 hJ
  rw[e];simp only;rw[b];simp only[Gh];rw[c];simp only[kM,g];exact h
 unfold k7 hJ;rw[e];simp only;rw[b];simp only[Gh];rw[c];simp only[kM];exact h
theorem bv.oneP(h:bv w0 M S0 N S φ F a w)(c:∀t i,TE t=some i->j7 P t i)(b:ox P TE N ops o K F)(g:∀F' j k,K F'->St w0 M S0 N F' j k->Kc j k) :
  if Region.wanted o (yielded ops a.tmps) then o.wp P a w Kc Q else Kc (a.put o.dst undef) w:=by
 unfold ox at b;cases e:Q6 F o with
 | none=>rw[e]at b;exact h.oneP0 c b g
 | some p=>
  rw[e]at b;simp only at b;cases l:o.dst with
  | none=>grind
  | some d=>
   rw[l]at b;simp only at b;cases f:lc ops o p.2 with
   | false=>grind
   | true=>
    rw[f]at b;have:=h.one c (Uk (P:=P) (ops:=ops) e l b) (Q:=Q) g
    grind
variable{m i:Nat}
theorem PN(c:∀t i,TE t=some i->j7 P t i)(b:Db P TE N ops m i K F)(g:St w0 M S0 N F a w)(d:∀F' e f,K F'->St w0 M S0 N F' e f->Kc e f):wpOp P ops Q i Kc a w:=by
 unfold Db at b;unfold wpOp;cases j:ops[i]? with
 | none=>grind
 | some o=>
  rw[j]at b;simp only at b |-;obtain⟨S,φ,h⟩:=g;have:if Region.wanted o (yielded ops a.tmps) then o.wp P a w Kc Q else Kc (a.put o.dst undef) w:=by
   split at b
   ·exact h.oneP c b d
   exact h.one c b d
  grind
def Ha(b:∀t i,TE t=some i->j7 P t i){m:Nat}{K:(Nat->AV)->Prop}{Q:Exit->Act->World->Prop}(g:∀F' d e,K F'->St w0 M S0 N F' d e->Q .normal d e) :
  ∀(fuel:Nat)(listed:Array Bool)(F:Nat->AV)(a:Act)(w:World),PO P TE N ops m K fuel listed F->St w0 M S0 N F a w->wpAny P .any ops Q fuel listed a w
 | 0,_,F,a,w,c,f=>⟨c.1,g F a w c.2 f⟩
 | fuel+1,_,F,a,w,c,f=>⟨λj=>g F a w (c.1 j) f,λi k=>PN b (c.2 i k) f λF' d e l h=>Ha b g fuel _ F' d e l h⟩
structure Hh(ops:Array Oper)(m:Nat)(F:Nat->AV)(listed:Array Bool):Prop where
 dst:∀j o d,j<m->ops[j]? = some o->listed.getD j true=false->o.dst=some d->∀t,(F t).uses d=false
 mv:∀j o T s,j<m->ops[j]? = some o->listed.getD j true=false->o.guard=none->rz o.op=some (T,s)->lc ops o s=true->∀t,(F t).uses s=false
def DC(ops:Array Oper)(listed:Array Bool):Prop:=∀j a,ops[j]? = some a->listed.getD j false=true->∀k,dE a k=true->listed.getD k false=true
variable{e:Nat}
theorem XP{v:AV}(h:(kl d v).uses e=true):v.uses e=true/\v.uses d=false:=by
 rw[G4]at h;cases a:v.uses d with
 | true=>rw[a]at h;cases h
 | false=>grind
theorem Eg{α:Type}{p:α->Bool} : ∀{l:List α}{i j:Nat}{x y:α},(l.filter p).length<=1->l[i]? = some x->l[j]? = some y->p x=true->p y=true->i=j
 | [],_,_,_,_,_,h,_,_,_=>by simp at h
 | a::l,0,0,_,_,_,_,_,_,_=>rfl
 | a::l,i+1,j+1,x,y,h,b,c,d,e=>by
  rw[Eg (l:=l) (I9 (List.Sublist.length_le ((List.sublist_cons_self a l).filter p)) h) b c d e]
 | a::l,0,j+1,x,y,h,b,c,d,e=>by
  simp only[List.getElem?_cons_zero,C2]at b;subst b;rw[List.filter_cons_of_pos d]at h;have:y∈l.filter p:=S8.2 ⟨t4 c,e⟩;have:=List.length_pos_of_mem this;rw[List.length_cons]at h;omega
 | a::l,i+1,0,x,y,h,b,c,d,e=>by
  simp only[List.getElem?_cons_zero,C2]at c;subst c;rw[List.filter_cons_of_pos e]at h;have:x∈l.filter p:=S8.2 ⟨t4 b,d⟩;have:=List.length_pos_of_mem this;rw[List.length_cons]at h;omega
variable{j:Nat}{listed:Array Bool}
theorem kv{a:Nat}(b:(listed.setIfInBounds j true).getD a true=false):a≠j:=λe=>by simp_all
variable{av:AV}{t:Nat}
theorem lY{a:Option Nat}(b:av.uses e=false)(c:(F t).uses e=false):(eff a d av F t).uses e=false:=by grind [Wy,eff]
theorem Hh.put{o:Option Nat}(h:Hh ops m F listed)(p:∀a b g,a<m->a≠j->ops[a]? = some b->listed.getD a true=false->b.dst=some g->av.uses g=false)(q:∀a b T s,a<m->a≠j->ops[a]? = some b->listed.getD a true=false->b.guard=none->rz b.op=some (T,s)->lc ops b s=true->av.uses s=false) :
  Hh ops m (eff o d av F) (listed.setIfInBounds j true):=by
 refine⟨λa b g i c e k t=>?_,λa b T s i c e r l n t=>?_⟩
 ·have f:=kv e
  rw[getD_set_ne true (Ne.symm f)]at e;exact lY ψ (h.dst a b g i c e k t)
 have f:=kv e;rw[getD_set_ne true (Ne.symm f)]at e;exact lY ψ (h.mv a b T s i c e r l n t)
inductive sD(ops:Array Oper):Nat->Nat->Prop
 |one {j i:Nat} (h:dE (ee ops j) i=true):sD ops j i
 |step {j k i:Nat} (h:dE (ee ops j) k=true) (h2:sD ops k i):sD ops j i
def sD.trans{k:Nat}(h:sD ops j k)(h2:sD ops k i):sD ops j i:=by
 induction h with
 | one h=>exact .step h h2
 | step h _ a=>exact .step h (a h2)
theorem Mw{i:Nat} : ∀{a:List Nat},(Ls a).testBit i=true->i∈a
 | [],h=>by simp[Ls]at h
 | k::a,h=>by
  rw[Ls,Nat.testBit_or,OC]at h;rcases h with h|h
  ·grind
  exact IA _ (Mw h)
theorem BI(h:(Ls (ons o)).testBit i=true):dE o i=true:=by
 have:=Mw h
 grind [cG,ons]
def ya{j:Nat} : ∀(k S:Nat),(∀i,S.testBit i=true->sD ops j i)->∀i,(clo ops k S).testBit i=true->sD ops j i
 | 0,_,h,i,a=>h i a
 | k+1,S,h,i,a=>by
  rw[clo,WB]at a;cases c:S.testBit k with
  | false=>rw[c]at a;exact ya k S h i a
  | true=>
   rw[c]at a;refine ya k _ (λe b=>?_) i a;rw[Nat.testBit_or,OC]at b;rcases b with d|d
   ·exact h e d
   exact(h k c).trans (.one (BI d))
theorem rp(d:DC ops listed)(b:∀j n,ops[j]? = some n->∀e∈n.after,Region.binds .any e=true->e.on<j)(o:sD ops j i):j<ops.size->(∀k,dE (ee ops j) k=true->listed.getD k false=true)->listed.getD i false=true:=by
 induction o with
 | one h=>grind
 | @step j k i h h2 ih=>
  intro f p;have r:k<j:=by
   have c:=(show ops[j]? = some ops[j] from SC f)
   rw[bQ c]at h;obtain⟨e,g,l,rfl⟩:=cG.1 h;exact b j _ c e g l
  have a:k<ops.size:=ω
  have c:=(show ops[k]? = some ops[k] from SC a)
  exact ih a λq a=>d k _ c (p k h) q (by rw[bQ c]at a;exact a)
theorem DC.put(h:DC ops listed)(d:j∈Region.ready .any ops listed):DC ops (listed.setIfInBounds j true):=by
 obtain⟨l,n,f,b⟩:=mem_ready.1 d;intro k ok g c e i;by_cases a:k=j
 ·grind [cG,Go.getD_set_true]
 rw[getD_set_ne false (Ne.symm a)]at c;exact getD_set_true (h k ok g c e i)
theorem iC{s:Nat}(h:lc ops o s=true):(∃k ok,dE o k=true/\ops[k]? = some ok/\ok.dst=some s)/\∀(i j:Nat)(a b:Oper),ops[i]? = some a->ops[j]? = some b->s∈a.looksAt ops->s∈b.looksAt ops->i=j:=by
 unfold lc at h;rw[I0]at h;obtain⟨q,c⟩:=h;constructor
 ·grind [bQ,v4]
 intro i j a b d e f g;have l:=O2 c;have n:ops.toList[i]? = some a:=by simpa using d
 have p:ops.toList[j]? = some b:=by simpa using e
 grind [Nat.beq_refl,Eg]
structure ZA(ops:Array Oper)(m:Nat):Prop where
 back:∀j oj,ops[j]? = some oj->∀e∈oj.after,Region.binds .any e=true->e.on<j
 tail:∀j,m<=j->j<ops.size->∀i,i<j->sD ops j i
 apart:∀i j oi oj,i<m->j<m->i≠j->ops[i]? = some oi->ops[j]? = some oj->dE oj i=true\/dE oi j=true\/oi.apart ops oj=true
 look:∀i j oi oj d,i<m->j<m->i≠j->ops[i]? = some oi->ops[j]? = some oj->oi.dst=some d->d∈oj.looksAt ops->dE oj i=true
theorem Mn(h:Ko ops m=true):ZA ops m:=by
 have o:∀j b,ops[j]? = some b->_:=λj b a=>iX h (C6.1 a).1
 refine⟨λj b a e t p=>?_,λj u a i f=>?_,λi j q b f a g r k=>?_,λi j q b d f a g r k w y=>?_⟩
 ·grind [bQ,Nat.blt_eq]
 ·have l:=(show ops[j]? = some ops[j] from SC a)
  have:=o j _ l;simp only[I0]at this;have c:=this.2;rw[show Nat.blt j m=false by rw[<-OA,Nat.blt_eq];omega]at c;simp only[cond_false,WB]at c;exact ya j _ (λA n=>.one (BI n)) i (iX c f)
 ·grind [bQ,Nat.blt_eq,iX,Nat.beq_eq]
 have:=o j b k;rw[bQ k]at this;simp only[I0]at this;have c:=this.2;rw[show Nat.blt j m=true by simpa[Nat.blt_eq] using a]at c
 grind [iX,bQ,Nat.beq_eq,yH]
theorem Ug(V:ZA ops m){c:Oper}{u:Option Nat}(R:ops[i]? = some c)(w:i<m) :
  ∀(fuel:Nat)(listed:Array Bool)(F:Nat->AV),i∈Region.ready .any ops listed->Hh ops m F listed->DC ops listed->Yl P TE N ops c F u d av->PO P TE N ops m K fuel (listed.setIfInBounds i true) (eff u d av F)->PO P TE N ops m K (fuel+1) listed F:=by
 have self:∀(listed:Array Bool)(F:Nat->AV),i∈Region.ready .any ops listed->Hh ops m F listed->Yl P TE N ops c F u d av->∀S:(Nat->AV)->Prop,S (eff u d av F)->ox P TE N ops c S F:=λlisted F W a g S hK=>by
  have b:=(mem_ready.1 W).1;refine g.at_ F (Co _ _) (a.dst i c d w R b g.dst) (λs X=>?_) S hK;obtain⟨A,⟨T,h2⟩,h3⟩:=g.mvl s X;exact a.mv i c T s w R b A h2 h3
 intro fuel
 induction fuel with
 | zero=>
  intro listed F W a E g H;refine⟨ψ,λj Y=>?_⟩;by_cases n:j=i
  ·grind [Db]
  have:=ready_mono Y n;rw[H.1]at this;cases this
 | succ fuel ih=>
  intro listed F W a E g H;refine⟨ψ,λj Y=>?_⟩;by_cases n:j=i
  ·grind [Db]
  have A:=H.2 j (ready_mono Y n);obtain⟨B,f,o,hall⟩:=mem_ready.1 Y;have b:=(mem_ready.1 W).1;have unl:∀k,listed.getD k true=false->listed.getD k false=true->False:=ψ
  have noedge:∀k ok,ops[k]? = some ok->listed.getD k true=false->dE f k=false:=λk ok hk Z=>by grind [cG]
  have noedge':∀k ok,ops[k]? = some ok->listed.getD k true=false->dE c k=false:=λk ok hk Z=>by grind [cG,Go.mem_ready]
  have G:j<m:=by
   rcases Nat.lt_or_ge j m with h|h
   ·exact h
   have C:=(C6.1 o).1;refine(unl i b (rp E V.back (V.tail j h C i ω) C λk hk=>?_)).elim
   grind [bQ,cG]
  have hap:c.apart ops f=true:=by grind [ZA.apart]
  obtain⟨ap1,ap2,ap3⟩:=Oper.apart_spec hap;unfold Db at A |-;rw[o]at A |-;simp only[CK G]at A |-;have hdl:d∉f.looksAt ops:=ap1 d g.dst;have cd:∀t,(F t).uses d=false:=a.dst i c d w R b g.dst
  have cdj':∀l,f.dst=some l->∀t,(F t).uses l=false:=λl J=>a.dst j f l G o B J
  have cmv:∀s,u=some s->(∀t,(F t).uses s=false)/\s∉f.looksAt ops/\s∈c.looksAt ops:=λs X=>by
   obtain⟨L,⟨T,q⟩,r⟩:=g.mvl s X;exact⟨a.mv i c T s w R b L q r,λhl=>n ((iC r).2 i j c f R o (d9 q) hl).symm,d9 q⟩
  have cmvj:∀T s,f.guard=none->rz f.op=some (T,s)->lc ops f s=true->(∀t,(F t).uses s=false)/\s∉c.looksAt ops/\s∈f.looksAt ops:=λT s L q r=>
   ⟨a.mv j f T s G o B L q r,λhl=>n ((iC r).2 i j c f R o hl (d9 q)).symm,d9 q⟩
  have avno:∀e,e∉c.looksAt ops->(∀t,(F t).uses e=false)->av.uses e=false:=λe A h2=>by
   cases hu:av.uses e with
   | false=>rfl
   | true=>
    rcases g.from_ e hu with h|⟨t,_,h⟩
    all_goals grind
  obtain⟨mvj,l,avj,p,hKj⟩:=uP A (λl J t=>lY ψ (cdj' l J t)) (λT s L q r t=>by grind [lY]);have hdne:d≠l:=λe=>ap2 d g.dst (by rw[p.dst,e])
  have hdjl:l∉c.looksAt ops:=ap3 l p.dst;have cdj:∀t,(F t).uses l=false:=cdj' l p.dst
  have cmj:∀s,mvj=some s->(∀t,(F t).uses s=false)/\s∉c.looksAt ops/\s∈f.looksAt ops:=λs X=>by
   obtain⟨L,⟨T,q⟩,r⟩:=p.mvl s X
   grind
  have lookj:∀t,t∈f.looksAt ops->eff u d av F t=F t:=λt U=>by grind [eff]
  have looki:∀t,t∈c.looksAt ops->eff mvj l avj F t=F t:=λt U=>by grind [eff]
  have avjno:∀e,e∉f.looksAt ops->(∀t,(F t).uses e=false)->avj.uses e=false:=λe A h2=>by
   cases hu:avj.uses e with
   | false=>rfl
   | true=>
    rcases p.from_ e hu with h|⟨t,U,h⟩
    all_goals grind
  have agrj:jz (eff u d av F) F (f.looksAt ops):=λt U=>by grind [eff]
  refine p.at_ F agrj cdj ψ _ (ih (listed.setIfInBounds j true) (eff mvj l avj F) (ready_mono W (Ne.symm n)) (a.put (λj' o' d' M D y O Q=>?_) (λj' o' T s M D y O L q r=>?_)) (E.put Y) ?_ ?_)
  ·refine avjno d' (λh=>?_) (a.dst j' o' d' M y O Q)
   grind [ZA.look]
  ·exact avjno s (λh=>D ((iC r).2 j' j o' f y o (d9 q) h)) (a.mv j' o' T s M y O L q r)
  ·refine⟨g.dst,g.lt,g.self,λe he=>?_,g.mvl,λF' hA Q hs' S hK=>g.at_ F' (λt U=>?_) Q hs' S hK⟩
   ·rcases g.from_ e he with h|⟨t,U,h⟩
    all_goals grind
   obtain⟨a1,a2⟩:=hA t U
   grind [eff]
  rw[Array.setIfInBounds_comm _ _ n];have:eff u d av (eff mvj l avj F)=eff mvj l avj (eff u d av F):=by grind [eff]
  grind
theorem js{o:Op}{K a:AV->Prop}(h:dJ P TE F o K)(b:∀av,K av->a av):dJ P TE F o a:=by
 obtain⟨av,c,-,d⟩:=mz h
 grind [Co]
theorem bw{a:(Nat->AV)->Prop}(h:ch N F d av K)(b:∀F',K F'->a F'):ch N F d av a:=by grind [ch]
variable{y:Operand}
theorem fL{K b:(Nat->AV)->Option Nat->List C->Prop}(h:iQ F y K)(g:∀F' ag cs,K F' ag cs->b F' ag cs):iQ F y b:=by
 cases y with
 | tmp t=>
  simp only[iQ]at h |-;cases d:F t with
  | Y k cs=>
   grind
  | b5 e f c ag=>
   rw[d]at h;cases c with
   | cons s c=>
    simp only at h |-;cases a:F e with
    | Y k cs=>
     rw[a]at h;obtain⟨r,j,i,l,n,o⟩:=Lq.out h;exact .mk_ ψ
    | _=>grind
   | nil=>
    grind
  | _=>grind
 | _=>exact h.elim
variable{x:Operand}
theorem H1{K a:AV->Prop}(h:bS F x K)(b:∀av,K av->a av):bS F x a:=by
 obtain⟨av,c,-,d⟩:=my h
 grind [Co]
theorem Lu{a:(Nat->AV)->Prop}(h:nH N F d x K)(j:∀F',K F'->a F'):nH N F d x a:=by
 have i:∀y,bS F y (λb=>ch N F d b K)->bS F y (λb=>ch N F d b a):=λy h=>H1 h λb h=>bw h j
 have k:∀y,iQ F y (λF' c e=>ch N F' d (.Y (mu c) e) K)->iQ F y (λF' c e=>ch N F' d (.Y (mu c) e) a):=λy h=>fL h λF' c e h=>bw h j
 cases x with
 | tmp t=>
  grind [nH]
 | const v=>exact i (.const v) h
 | global g=>exact i (.global g) h
 | func f=>exact i (.func f) h
theorem Vg{a:(Nat->AV)->Prop}(h:HA N F d x K)(b:∀F',K F'->a F'):HA N F d x a:=by grind [bw,Lu,HA,Q4]
variable{b:(Nat->AV)->Prop}
theorem GF{cs:List C}(h:vE F x cs K)(d:∀F',K F'->b F'):vE F x cs b:=by
 cases x with
 | tmp t=>
  simp only[vE]at h |-;cases e:F t with
  | Y k f=>
   grind [dS]
  | ref g i c=>
   rw[e]at h;cases c with
   | cons s c=>
    simp only at h |-;cases a:F g with
    | Y k f=>
     rw[a]at h;obtain⟨r,j,l,n,o,p⟩:=Pu.out h;exact Pu.mk l n o rfl (d _ p)
    | _=>grind
   | nil=>
    grind [dS]
  | _=>grind
 | _=>exact h.elim
variable{T:Nat}
theorem DO{a:(Nat->AV)->Prop}(h:pW TE F T x y K)(b:∀F',K F'->a F'):pW TE F T x y a:=by
 unfold pW at h |-;split at h
 all_goals grind [cJ,Co,GF,fL]
theorem Pp{g:Option (Nat × Bool)}{K1 a K1' K0':(Nat->AV)->Prop}(h:hJ F ops g K1 a)(h1:∀F,K1 F->K1' F)(b:∀F,a F->K0' F):hJ F ops g K1' K0':=by
 unfold hJ at h |-;split at h
 ·exact h1 _ h
 rename_i j want;split at h
 all_goals grind [Bf.out,Bf.in_]
theorem y7{K a:(Nat->AV)->Option Nat->List C->Prop}(h:zJ F x K)(c:∀F' ag cs,K F' ag cs->a F' ag cs):zJ F x a:=by
 obtain⟨ag,cs,d,b⟩:=cJ h;refine b F (Co _ _) _ ?_
 grind [fL]
theorem lL{c:Nat->Option (Nat × Nat)} : ∀{parts:List (Nat × Operand)}{cs:List C}{K a:(Nat->AV)->List C->Prop}{F:Nat->AV},fillW c parts cs K F->(∀F' cs,K F' cs->a F' cs)->fillW c parts cs a F
 | [],cs,K,a,F,h,b=>b _ _ h
 | p::rest,cs,K,a,F,h,b=>by
  simp only[fillW]at h |-;split at h
  case h_2=>exact h.elim
  rename_i q e;refine y7 h λF' f xs h=>?_
  cases d:(Nat.beq xs.length q.2&&Nat.ble (q.1+q.2) cs.length) with
  | false=>grind
  | true=>
   rw[d]at h;simp only[cond_true,dS]at h |-;exact lL h b
variable{parts:List (Nat × Operand)}
theorem Mq{a:(Nat->AV)->Prop}(h:n8 TE N F d T parts K)(b:∀F',K F'->a F'):n8 TE N F d T parts a:=by grind [lL,bw,n8]
theorem Kk{n:Nat}{a:(Nat->AV)->Prop}(h:ix TE N F d T n parts K)(c:∀F',K F'->a F'):ix TE N F d T n parts a:=by
 obtain⟨e,f,h,b⟩:=iP h;refine b _ ?_
 grind [bw,dS,lL,tf]
theorem Lt{K a:Bool->(Nat->AV)->List (List C)->Prop}(h:Kf F y K)(c:∀b F' xr,K b F' xr->a b F' xr):Kf F y a:=by
 unfold Kf at h |-;split at h
 all_goals grind [fL,cJ,Co]
theorem GY{K a:(Nat->AV)->List (List C)->Prop}(h:GL F x K)(c:∀F' xr,K F' xr->a F' xr):GL F x a:=by
 obtain⟨d,e,f,b⟩:=cJ h;refine b F (Co _ _) _ ?_
 grind [fL]
theorem Tz{a:(Nat->AV)->Prop}(h:GW TE N F d T x y K)(f:∀F',K F'->a F'):GW TE N F d T x y a:=by
 obtain⟨e,p,h,g⟩:=iP h;refine g _ (Lt h λb F' q h=>GY h λF'' c h=>?_);obtain⟨i,j,k,l,n,o⟩:=h.out;exact Ce i j k l n rfl (bw o f)
theorem Mp{a:(Nat->AV)->Prop}(h:uB TE N F d T x K)(b:∀F',K F'->a F'):uB TE N F d T x a:=by
 unfold uB at h |-;split at h
 all_goals grind [fL,bw]
theorem Qk(h:kW N F d x K)(c:∀F',K F'->b F'):kW N F d x b:=by
 have std:∀{y:Operand},bS F y (λa=>ch N F d a K)->bS F y (λa=>ch N F d a b):=λh=>H1 h λa h=>bw h c
 cases x with
 | tmp t=>
  simp only[kW]at h |-
  grind [bw]
 | const v=>grind [kW]
 | global g=>grind [kW]
 | func f=>grind [kW]
theorem PS{a:(Nat->AV)->Prop}(h:yO N F d x K)(b:∀F',K F'->a F'):yO N F d x a:=by
 unfold yO at h |-;split at h
 case h_2=>exact h.elim
 split at h
 all_goals grind [Nt.out,Nt.mk,bw]
theorem Lx{a:(Nat->AV)->Prop}(h:uM N F d x K)(b:∀F',K F'->a F'):uM N F d x a:=by
 unfold uM at h |-
 grind [bw]
variable{c:(Nat->AV)->Prop}
theorem WE{b:Operand}(h:Li TE N F d T x b K)(f:∀F',K F'->c F'):Li TE N F d T x b c:=by
 unfold Li at h |-;obtain⟨e,q,h,a⟩:=iP h;refine a _ ?_;obtain⟨n,g,i⟩:=nA h;refine i F (Co _ _) _ (fL g λF' r t h=>?_);split at h
 case h_2=>exact h.elim
 obtain⟨m,y,j,k,l,o,p,h⟩:=h.out;exact .mk_ ⟨m,y,j,k,l,o,p,_,rfl,bw h f⟩
theorem VP{b:Operand}(h:MW TE N F d T x b K)(f:∀F',K F'->c F'):MW TE N F d T x b c:=by
 unfold MW at h |-;obtain⟨e,q,h,a⟩:=iP h;refine a _ ?_;obtain⟨n,g,i⟩:=nA h;refine i F (Co _ _) _ (fL g λF' r t h=>?_);split at h
 case h_2=>exact h.elim
 obtain⟨m,y,j,k,l,o,p,h⟩:=h.out;exact .mk_ ⟨m,y,j,k,l,o,p,_,rfl,bw h f⟩
theorem LE{b:Op}{f:(Nat->AV)->Prop}(h:kM P TE N d b K F)(a:∀F',K F'->f F'):kM P TE N d b f F:=by
 cases b with
 | assign x=>exact Vg h a
 | box T x=>grind [y7,bw,kM,VL]
 | build T j=>exact Mq h a
 | buildSlice T n j=>exact Kk h a
 | range T x=>exact Mp h a
 | move x=>exact Qk h a
 | next x str=>
  cases str with
  | true=>exact h.elim
  | false=>exact PS h a
 | entry x=>exact Lx h a
 | call c=>
  grind [js,bw,Tz,kM]
 | slice T x g e i=>
  cases g with
  | some g=>
   cases e with
   | some _=>grind [js,bw,kM]
   | none=>
    cases i with
    | some _=>grind [js,bw,kM]
    | none=>grind [js,bw,VP,kM]
  | none=>
   cases e with
   | none=>grind [js,bw,kM]
   | some e=>
    cases i with
    | some _=>grind [js,bw,kM]
    | none=>
     grind [js,bw,WE,kM]
 | _=>grind [js,bw,kM]
theorem g9{off n:Nat}{st:cT}{K a:(Nat->AV)->List C->Prop}(h:lendAt F t off st n K)(b:∀F' cs,K F' cs->a F' cs):lendAt F t off st n a:=by
 unfold lendAt at h |-;split at h
 case h_2=>exact h.elim
 split at h
 ·grind [dS]
 obtain⟨r,j,c,d,e,f⟩:=Lq.out h;refine .mk_ ?_
 grind
theorem cI:∀{xs:List (Operand × Nat)}{K a:(Nat->AV)->List (MA × vX)->Prop}{F:Nat->AV},lendP xs K F->(∀F' l,K F' l->a F' l)->lendP xs a F
 | [],K,a,F,h,b=>b _ _ h
 | (x,0)::xs,K,a,F,h,b=>cI (xs:=xs) h ψ
 | (x,1)::xs,K,a,F,h,b=>by
  simp only[lendP]at h |-;split at h
  case h_2=>exact h.elim
  split at h
  ·exact g9 h λF' c h=>cI h ψ
  ·exact g9 h λF' c h=>cI h ψ
  ·exact g9 h λF' c h=>cI h ψ
  exact h.elim
 | (x,n+2)::xs,K,a,F,h,b=>by
  simp only[lendP]at h |-;split at h
  case h_2=>exact h.elim
  split at h
  ·split at h
   ·exact cI h ψ
   exact h.elim
  ·exact cI h ψ
  exact h.elim
theorem lg:∀{l:List (MA × vX)}{xs:List Operand}{K a:Bool->List MA->Prop},valsP F l xs K->(∀b A,K b A->a b A)->valsP F l xs a
 | [],[],K,a,h,c=>c _ _ h
 | (m,.no)::l,x::xs,K,a,h,c=>by
  obtain⟨f,g,d,e⟩:=cJ h;refine e F (Co _ _) _ (lg d λb A h=>?_)
  grind
 | (m,.at_ t off st)::l,x::xs,K,a,h,c=>lg (l:=l) (xs:=xs) h ψ
 | (m,.box t)::l,x::xs,K,a,h,c=>lg (l:=l) (xs:=xs) h ψ
 | [],_::_,K,a,h,c=>h.elim
 | (m,.no)::l,[],K,a,h,c=>h.elim
 | (m,.at_ t off st)::l,[],K,a,h,c=>h.elim
 | (m,.box t)::l,[],K,a,h,c=>h.elim
theorem dY{K b:(Nat->AV)->Prop}(a:∀F',K F'->b F'):∀{l:List (MA × vX)}{B:List MA}{F:Nat->AV},j8 l B K F->j8 l B b F
 | [],[],F,h=>a _ h
 | [],_::_,F,h=>h.elim
 | (m,.no)::l,[],F,h=>h.elim
 | (m,.at_ t off st)::l,[],F,h=>h.elim
 | (m,.box t)::l,[],F,h=>h.elim
 | (m,.no)::l,.val _ _::B,F,h=>dY a (l:=l) (B:=B) h
 | (m,.no)::l,.mut _ _::B,F,h=>dY a (l:=l) (B:=B) h
 | (m,.no)::l,.ptr _::B,F,h=>dY a (l:=l) (B:=B) h
 | (m,.at_ t off st)::l,.val _ _::B,F,h=>h.elim
 | (m,.at_ t off st)::l,.ptr _::B,F,h=>h.elim
 | (m,.box t)::l,.val _ _::B,F,h=>h.elim
 | (m,.box t)::l,.mut _ _::B,F,h=>h.elim
 | (m,.at_ t off st)::l,.mut ag out::B,F,h=>by
  simp only[j8]at h |-;split at h
  case h_2=>exact h.elim
  split at h
  ·rename_i k c _ _
   cases d:Nat.ble (off+out.length) c.length with
   | false=>grind
   | true=>
    rw[d]at h;simp only[cond_true,dS]at h |-;exact dY a h
  obtain⟨r,j,e,f,g,i⟩:=Pu.out h;exact Pu.mk e f g rfl (dY a i)
 | (m,.box t)::l,.ptr out::B,F,h=>by
  simp only[j8]at h |-;split at h
  ·exact dY a h
  exact h.elim
variable{modes:List Nat}{args:List Operand}{f:Nat}
theorem Qd{d:Option Nat}{a:(Nat->AV)->Prop}(h:oz P N F d f args modes K)(j:∀F',K F'->a F'):oz P N F d f args modes a:=by
 unfold oz at h |-;refine cI h λF' l h=>?_
 cases c:(zN l&&Nat.beq args.length modes.length) with
 | false=>grind
 | true=>
  rw[c]at h;refine lg h λb A h=>?_
  obtain⟨n,B,k,rcs,e,g,i⟩:=cn.out h;refine CP e g (dY (λF'' h=>?_) i)
  grind [bw]
theorem nZ{F:Nat->AV}{K a:Nat->Nat->Prop}(h:Fn F x K)(b:∀t o,K t o->a t o):Fn F x a:=by grind [xb,Fn]
theorem RU{d:Option Nat}{cs:List C}{c a b:Nat}{f:(Nat->AV)->Prop}{k:Kd}{rcs:List C}{B:List MA}(h:DZ N F d t cs c a e b K k rcs B)(l:∀F',K F'->f F'):DZ N F d t cs c a e b f k rcs B:=by
 unfold DZ at h |-;split at h
 case h_2=>exact h.elim
 rename_i g i;cases j:(Nat.beq g.length a&&Nat.beq i.length b) with
 | false=>grind
 | true=>
  rw[j]at h;simp only[cond_true,dS]at h |-
  grind [bw]
theorem P0{d:Option Nat}{a b:Nat}(h:mO P N F d f args a b K)(e:∀F',K F'->c F'):mO P N F d f args a b c:=by
 unfold mO at h |-;split at h
 case h_2=>exact h.elim
 refine nZ h λt g h=>nZ h λi j h=>?_
 split at h
 all_goals grind [dS,cn.out,CP,RU]
theorem wN{d:Option Nat}{a:(Nat->AV)->Prop}(h:mN P N F d f args modes K)(b:∀F',K F'->a F'):mN P N F d f args modes a:=by grind [P0,Qd,mN]
theorem LV{off:Nat}{z:Int}{v:Value}{a:(Nat->AV)->Prop}(h:putMap F t off z v K)(f:∀F',K F'->a F'):putMap F t off z v a:=by
 unfold putMap at h |-;cases b:F t with
 | Y k d=>
  rw[b]at h;simp only at h |-;cases e:d[off]? with
  | none=>grind
  | some c=>
   rw[e]at h;cases c with
   | m g=>
    simp only at h |-;have:=h.out;refine Mu.mk rfl ?_
    grind [dS]
   | _=>exact h.elim
 | _=>grind
theorem z8{v:Operand}(h:rJ TE F T x y v K)(f:∀F',K F'->b F'):rJ TE F T x y v b:=by
 unfold rJ at h |-;split at h
 case h_2=>exact h.elim
 obtain⟨z,c,d⟩:=kD h;refine d F (Co F _) _ ?_;obtain⟨g,a,e⟩:=kD c;refine e F (Co F _) _ ?_;split at a
 case h_2=>exact a.elim
 split at a
 all_goals grind [LV]
theorem mt{a:(Nat->AV)->Prop}(h:k7 P TE N ops o K F)(c:∀F',K F'->a F'):k7 P TE N ops o a F:=by
 unfold k7 at h |-;refine Pp h (λF h=>?_) (λF h=>?_)
 ·split at h
  ·rename_i p _
   have lt:yi P N F o.dst p.1 p.2.1 p.2.2 K->yi P N F o.dst p.1 p.2.1 p.2.2 a:=λh=>wN h λF' h=>by grind [sC]
   cases b:UC N o.op with
   | false=>grind
   | true=>
    rw[b]at h;rcases h with h|h
    ·refine .pl ?_
     grind [DO,z8,LE,mE]
    exact .lt (lt h)
  grind [DO,z8,LE]
 grind [bw]
theorem JT{m:Nat}(a:ZA ops m){K:(Nat->AV)->Prop}(hm:m<=ops.size):∀(l:List Oper)(k:Nat)(listed:Array Bool)(F:Nat->AV),(∀j,l[j]? = ops[k+j]?)->listed.size=ops.size->(∀j,j<ops.size->listed.getD j true=decide (j<k))->Hh ops m F listed->DC ops listed->
  WN P TE N ops (m - k) l K F->PO P TE N ops m K l.length listed F
 | [],k,listed,F,C,L,b,_,_,i=>by
  have D:ops.size<=k:=by
   rcases Nat.lt_or_ge k ops.size with h|h
   ·have:=C 0;simp[h]at this
   exact h
  refine⟨?_,?_⟩
  ·apply List.eq_nil_iff_forall_not_mem.2
   grind [Go.mem_ready]
  cases M:m - k with
  | zero=>rw[M]at i;exact i
  | succ x=>omega
 | o::l,k,listed,F,C,L,b,c,n,i=>by
  have w:ops[k]? = some o:=by simpa using (C 0).symm
  have D:=(C6.1 w).1;have hready:k∈Region.ready .any ops listed:=mem_ready.2 ⟨by rw[b k D];simp,o,w,λe he hb=>by grind [ZA.back]⟩;have A:∀j,l[j]? = ops[k+1+j]?:=λj=>by have:=C (j+1);grind
  have r:∀j,j<ops.size->(listed.setIfInBounds k true).getD j true=decide (j<k+1):=λj O=>by
   by_cases y:j=k
   ·simp_all
   rw[getD_set_ne true (Ne.symm y),b j O]
   grind
  show PO P TE N ops m K (l.length+1) listed F;by_cases f:k<m
  ·have e1:m - k=(m - (k+1))+1:=ω
   rw[e1]at i;obtain⟨mv,d,av,Q,i⟩:=uP (show ox P TE N ops o (WN P TE N ops (m - (k+1)) l K) F from i) (λd hd=>c.dst k o d f w (by rw[b k D];simp) hd) (λT s R S U=>c.mv k o T s f w (by rw[b k D];simp) R S U);refine Ug a w f l.length listed F hready c n Q (JT a hm l (k+1) _ _ A (by simpa using L) r (c.put (λE G H p u q hl'' B=>?_) (λE G T s p u q hl'' R S U=>?_)) (n.put hready) i)
   ·cases V:av.uses H with
    | false=>rfl
    | true=>
     rcases Q.from_ H V with h|⟨t,_,h⟩
     ·have:=a.look E k G o H p f u q w B h
      grind [cG,ZA.back]
     rw[c.dst E G H p q hl'' B t]at h;cases h
   cases V:av.uses s with
   | false=>rfl
   | true=>
    rcases Q.from_ s V with h|⟨t,_,h⟩
    ·grind [iC,d9]
    rw[c.mv E G T s p q hl'' R S U t]at h;cases h
  refine⟨ψ,λj O=>?_⟩;have y:j=k:=by
   obtain⟨h1,oj,W,hall⟩:=mem_ready.1 O;have g:=(C6.1 W).1;rw[b j g]at h1;simp at h1;rcases Nat.lt_or_ge k j with X|hge
   ·exfalso
    have h2:=rp n a.back (a.tail j ω g k X) g λk' hk'=>by grind [bQ,cG]
    grind
   omega
  subst y;unfold Db;rw[w];simp only[CJ f];have e0:m - j=0:=ω
  rw[e0]at i;have hp':k7 P TE N ops o (Tk P TE N ops l K) F:=i;have Y:∀J,Tk P TE N ops l K J->PO P TE N ops m K l.length (listed.setIfInBounds j true) J:=λJ Z=>
   JT a hm l (j+1) _ J A (by simpa using L) r ⟨ψ,ψ⟩ (n.put hready) (by rw[show m - (j+1)=0 by omega];cases l<;>exact Z)
  grind [mt]
theorem St.clr(h:St w0 M S0 N F a w)(ds:List Nat):St w0 M S0 N (Ab.clr ds F) a w:=by
 obtain⟨S,φ,h⟩:=h;refine⟨S,φ,λt=>?_,h.dis,h.disS,h.ex,h.sub,h.sup,h.old,h.size,h.defers,h.par⟩;rw[HZ];cases b:ds.any (λd=>(F t).uses d) with
 | true=>trivial
 | false=>
  simp only[cond_false];refine(h.slot t).keep (φ:=φ) (λt _ _ _=>h.slot t) (λc _=>⟨λk e f=>?_,rfl,λ_ _ _=>⟨rfl,rfl⟩⟩) (λ_ _ _=>⟨rfl,rfl⟩) (λ_ _ _=>⟨rfl,rfl⟩) (λ_ _ h=>h) (λ_ _ h=>h)
  grind [HZ,AV.uses]
theorem Jd(g:∀t i,TE t=some i->j7 P t i)(E:P.follows .mixedOrders=true){id:Nat}{ds:List Nat}(b:((Nat.ble m ops.size&&below m λj=>match(ee ops j).dst with|some d=>ds.any (Nat.beq d)|none=>true)&&Ko ops m)=true)(G:WN P TE N ops m ops.toList K (Ab.clr ds F))(H:St w0 M S0 N F a w)(J:∀F' u y,K F'->St w0 M S0 N F' u y->Q .normal u y):(Code.region id ops true).wp P Q a w:=by
 simp only[I0]at b;obtain⟨⟨A,L⟩,b⟩:=b;have c:m<=ops.size:=by simp_all
 refine wp_region_any E ?_;have l:St w0 M S0 N (Ab.clr ds F) a {w with drawn:=w.drawn+1}:=by
  have O:=H.clr ds;obtain⟨S,φ,h⟩:=O;exact⟨S,φ,h.more (w1:={w with drawn:=w.drawn+1}) (λ_ _ h=>h) ψ ⟨rfl,rfl,rfl,z5 _,λ_ _ _=>rfl,λ_ _ _ _=>rfl,λ_ _ _ _=>rfl⟩⟩
 refine Ha g (m:=m) J ops.size (Array.replicate ops.size false) _ a _ ?_ l;have R:∀d,ds.any (Nat.beq d)=true->∀t,(Ab.clr ds F t).uses d=false:=λd U t=>by
  rw[HZ];cases Z:ds.any (λd=>(F t).uses d) with
  | true=>rfl
  | false=>
   simp_all
 have B:∀j o d,j<m->ops[j]? = some o->o.dst=some d->ds.any (Nat.beq d)=true:=λj o d f C U=>by grind [iX,bQ]
 have D:=Mn b;have:=JT (P:=P) (TE:=TE) (N:=N) D (K:=K) c ops.toList 0 (Array.replicate ops.size false) (Ab.clr ds F) (by simp) (by simp) (λj f=>by simp[f]) ⟨ψ,λj o T s f C _ _ _ V t=>by
   obtain⟨k,ok,n,W,X⟩:=(iC V).1;obtain⟨e,p,q,rfl⟩:=cG.1 n;have:=D.back j o C e p q
   grind⟩ (λj oj f Y=>by
   have r:=(C6.1 f).1;simp[r]at Y) G
 simpa using this
end
section
variable{P:Program}{w0 w w1:World}{M S0 S:am}{N:gw}{φ:Nat->am}{F:Nat->AV}{a:Act}{TE:Nat->Option TI}{ops:Array Oper}{ds:List Nat}{nm:Nat->Bool}
def ZF(P:Program)(TE:Nat->Option TI)(ops:Array Oper)(p:Nat)(F:Nat->AV):Prop:=∃d,(ee ops p).dst=some d/\Q6 F (ee ops p)=none/\dJ P TE F (ee ops p).op λa=>a=F d
def zY(P:Program)(TE:Nat->Option TI)(N:gw)(ops:Array Oper)(ds:List Nat)(listed:Array Bool)(i:Nat)(K:(Nat->AV)->Prop)(F:Nat->AV):Prop:=
 match ops[i]? with
 | none=>K F
 | some o=>if vm ds o=true then ox P TE N ops o K F else k7 P TE N ops o (λa=>(∀p,listed.getD p false=true->vm ds (ee ops p)=true->AL ops i p=false->ZF P TE ops p a)/\K a) F
def LY(P:Program)(TE:Nat->Option TI)(N:gw)(ops:Array Oper)(ds:List Nat)(K:(Nat->AV)->Prop):Nat->Array Bool->(Nat->AV)->Prop
 | 0,listed,F=>Region.ready .any ops listed=[]/\K F
 | fuel+1,listed,F=>(Region.ready .any ops listed=[]->K F)/\∀i,i∈Region.ready .any ops listed->zY P TE N ops ds listed i (LY P TE N ops ds K fuel (listed.setIfInBounds i true)) F
variable{Q:Exit->Act->World->Prop}{K:(Nat->AV)->Prop}{i:Nat}{listed:Array Bool}
theorem MT(c:∀t i,TE t=some i->j7 P t i)(b:zY P TE N ops ds listed i K F)(g:St w0 M S0 N F a w){Kc:Act->World->Prop}(d:∀F' e f,K F'->St w0 M S0 N F' e f->Kc e f):wpOp P ops Q i Kc a w:=by
 unfold zY at b;unfold wpOp;cases j:ops[i]? with
 | none=>grind
 | some o=>
  rw[j]at b;simp only at b |-;obtain⟨S,φ,h⟩:=g;have:if Region.wanted o (yielded ops a.tmps) then o.wp P a w Kc Q else Kc (a.put o.dst undef) w:=by
   split at b
   ·exact h.oneP c b d
   exact h.one c (mt b λF' h=>h.2) d
  grind
def wh(b:∀t i,TE t=some i->j7 P t i){K:(Nat->AV)->Prop}{Q:Exit->Act->World->Prop}(g:∀F' d e,K F'->St w0 M S0 N F' d e->Q .normal d e) :
  ∀(fuel:Nat)(listed:Array Bool)(F:Nat->AV)(a:Act)(w:World),LY P TE N ops ds K fuel listed F->St w0 M S0 N F a w->wpAny P .any ops Q fuel listed a w
 | 0,_,F,a,w,c,f=>⟨c.1,g F a w c.2 f⟩
 | fuel+1,_,F,a,w,c,f=>⟨λj=>g F a w (c.1 j) f,λi k=>MT b (c.2 i k) f λF' d e l h=>wh b g fuel _ F' d e l h⟩
def cu(ts:List Nat)(F F1:Nat->AV):Prop:=∀t e,(F1 t).uses e=true->e∈ts\/∃a,(F a).uses e=true
theorem cu.refl(ts:List Nat)(F:Nat->AV):cu ts F F:=λt _ h=>.inr ⟨t,h⟩
variable{F1:Nat->AV}{ts:List Nat}
theorem cu.trans{F a:Nat->AV}(h1:cu ts F F1)(h2:cu ts F1 a):cu ts F a:=λt e h=>by
 rcases h2 t e h with h|⟨b,h⟩
 ·exact .inl h
 exact h1 b e h
variable{d:Nat}
theorem cu.clean(h:cu ts F F1)(b:d∉ts)(c:∀t,(F t).uses d=false):∀t,(F1 t).uses d=false:=λt=>by
 cases a:(F1 t).uses d with
 | false=>rfl
 | true=>
  rcases h t d a with h|⟨e,h⟩
  all_goals grind
theorem cu.put{ts:List Nat}{dj:Nat}{av:AV}(h:∀e,av.uses e=true->e∈ts\/∃b,(F b).uses e=true):cu ts F (put F dj av):=λt e a=>by
 by_cases c:t=dj
 ·grind [tc]
 rw[kq _ _ c]at a;exact .inr ⟨t,(XP a).1⟩
variable{v:AV}{t e:Nat}
theorem UB(h:(wU t v).uses e=true):v.uses e=true:=by
 cases v with
 | b5 a b d f=>simp only[wU]at h;cases c:Nat.beq a t<;>rw[c]at h<;>first|exact h|cases h
 | ref a b d=>cases d<;>simp only[wU]at h<;>first|exact h|(cases c:Nat.beq a t<;>rw[c]at h<;>first|exact h|cases h)
 | _=>exact h
theorem cu.updH{ts:List Nat}{t:Nat}{k:Kd}{cs:List C} : cu ts F (updH F t k cs):=λs e a=>by
 unfold Ab.updH at a;cases b:Nat.beq s t with
 | true=>rw[b]at a;cases a
 | false=>grind [UB]
theorem Ww(h:(Xf t v).uses e=true):v.uses e=true:=by
 cases v with
 | b5 a b d f=>simp only[Xf]at h;cases c:Nat.beq a t<;>rw[c]at h<;>first|exact h|cases h
 | ref a b d=>simp only[Xf]at h;cases c:Nat.beq a t<;>rw[c]at h<;>first|exact h|cases h
 | _=>exact h
theorem cu.kill{ts:List Nat}{t:Nat} : cu ts F (kill F t):=λs e a=>by
 unfold Ab.kill at a;cases b:Nat.beq s t with
 | true=>rw[b]at a;cases a
 | false=>grind [Ww]
variable{av:AV}
theorem cB(h:t≠d):eff none d av F t=F t:=by grind [eff]
theorem qq{a:Option Nat} : eff a d av F d=av:=by grind [eff]
theorem Vl : eff none d (F d) F=F:=by grind [qq,cB]
theorem om(a:d∉ts)(b:∀t,(F t).uses d=false):jz (eff none d av F) F ts:=λt c=>by grind [cB]
variable{dj:Nat}
theorem YX(a:dj≠d):put (eff none d v F) dj av=eff none d (kl dj v) (put F dj av):=by grind [tc,cB,kq,qq]
variable{b:Kd}
theorem rU{a:List C}(c:t≠d):updH (eff none d v F) t b a=eff none d (wU t v) (updH F t b a):=by grind [qq,Nat.beq_eq,cB,updH]
theorem DW{a:List C}(c:t≠d):updH F t b a d=wU t (F d):=by grind [Nat.beq_eq,updH]
theorem QD{a:List C}(c:t≠d):updN (eff none d v F) t b a=eff none d (Xd t v) (updN F t b a):=by grind [qq,Nat.beq_eq,cB,updN]
theorem M9{a:List C}(c:t≠d):updN F t b a d=Xd t (F d):=by grind [Nat.beq_eq,updN]
theorem Vz(h:(Xd t v).uses e=true):v.uses e=true:=by
 cases v with
 | b5 b c a f=>
  cases a with
  | nil=>exact h
  | cons s a=>simp only[Xd]at h;cases d:Nat.beq b t<;>rw[d]at h<;>first|exact h|cases h
 | ref b c a=>
  cases a with
  | nil=>exact h
  | cons s a=>simp only[Xd]at h;cases d:Nat.beq b t<;>rw[d]at h<;>first|exact h|cases h
 | _=>exact h
theorem cu.updN{ts:List Nat}{t:Nat}{k:Kd}{cs:List C} : cu ts F (updN F t k cs):=λs e a=>by
 unfold Ab.updN at a;cases b:Nat.beq s t with
 | true=>rw[b]at a;cases a
 | false=>grind [Vz]
def Fq(d:Nat)(ts:List Nat)(v:AV)(F:Nat->AV)(K:(Nat->AV)->Prop)(F1:Nat->AV):Prop:=∃a,(v=F d->a=F1 d)/\K (eff none d a F1)/\cu ts F F1
def Fq3(d:Nat)(ts:List Nat)(v:AV)(F:Nat->AV)(K:(Nat->AV)->Option Nat->List C->Prop)(F1:Nat->AV)(ag:Option Nat)(cs:List C):Prop:=∃a,(v=F d->a=F1 d)/\K (eff none d a F1) ag cs/\cu ts F F1
def Fq.trans{v1:AV}{a:Nat->AV}(h1:v=F d->v1=F1 d)(b:cu ts F F1)(h:Fq d ts v1 F1 K a):Fq d ts v F K a:=by
 obtain⟨c,f,g,i⟩:=h;exact⟨c,λe=>f (h1 e),g,b.trans i⟩
theorem iL(h:ch N (eff none d v F) dj av K)(a:dj≠d)(b:∀e,av.uses e=true->e∈ts\/∃c,(F c).uses e=true):ch N F dj av (Fq d ts v F K):=by
 unfold ch at h |-;cases f:(N.free dj&&!av.uses dj) with
 | false=>grind
 | true=>
  rw[f]at h;simp only[cond_true]at h |-;rw[YX a]at h;exact⟨kl dj v,λe=>by grind [kq],h,cu.put b⟩
variable{cs:List C}{k:Kd}
def jR : ∀e,(AV.Y k cs).uses e=true->e∈ts\/∃a,(F a).uses e=true:=λe h=>by cases h
theorem JE{p:(Nat->AV)->(AV->Prop)->Prop}{ts0:List Nat}(h:sX p (eff none d v F) ts0 λav=>ch N (eff none d v F) dj av K)(a:dj≠d)(j:∀t,t∈ts0->t∈ts)(k:d∉ts)(b:∀t,(F t).uses d=false) :
  p F λav=>ch N F dj av (Fq d ts v F K):=by
 obtain⟨av,c,f,g⟩:=h;refine g F (om ψ b) _ (iL c a λe i=>?_);rcases f e i with h|⟨t,l,h⟩
 all_goals grind [cB]
variable{y:Operand}
theorem sx{K:(Nat->AV)->Option Nat->List C->Prop}(h:iQ (eff none d v F) y K)(n:d∉tm y)(o:∀t,(F t).uses d=false):iQ F y (Fq3 d ts v F K):=by
 have fin:∀{t:Nat}{k:Kd}{b:List C}{a:Option Nat}{xs:List C},t≠d->K (updH (eff none d v F) t k b) a xs->Fq3 d ts v F K (updH F t k b) a xs:=fun {t k b a xs} c h=>by
  rw[rU c]at h;exact⟨_,λe=>by rw[DW c,e],h,cu.updH⟩
 have Fc:∀{t:Nat}{k:Kd}{b:List C}{a:Option Nat}{xs:List C},t≠d->K (updN (eff none d v F) t k b) a xs->Fq3 d ts v F K (updN F t k b) a xs:=fun {t k b a xs} c h=>by
  rw[QD c]at h;exact⟨_,λe=>by rw[M9 c,e],h,cu.updN⟩
 cases y with
 | tmp t=>
  have c:t≠d:=λe=>n (by simp[tm,e])
  simp only[iQ]at h |-;rw[cB c]at h;cases g:F t with
  | Y p q=>
   grind
  | b5 i u l a=>
   rw[g]at h;have w:i≠d:=λe=>by have:=o t;rw[g,e]at this;simp[AV.uses]at this
   cases l with
   | cons s l=>
    simp only at h |-;rw[cB w]at h;cases f:F i with
    | Y p q=>
     rw[f]at h;obtain⟨r,j,A,B,D,E⟩:=Lq.out h;exact .mk_ ψ
    | _=>grind
   | nil=>
    grind [cB]
  | _=>grind
 | _=>exact h.elim
theorem XU{K:(Nat->AV)->Option Nat->List C->Prop}(h:zJ (eff none d v F) y K)(b:d∉tm y)(c:∀t,(F t).uses d=false):zJ F y (Fq3 d ts v F K):=by
 obtain⟨i,xs,a,f⟩:=cJ h;refine f F (om b c) _ ?_;cases g:b6 xs with
 | true=>rw[g]at a;exact⟨v,λe=>e,a,cu.refl _ _⟩
 | false=>grind [sx]
def FqL(d:Nat)(ts:List Nat)(v:AV)(F:Nat->AV)(K:(Nat->AV)->List C->Prop)(F1:Nat->AV)(cs:List C):Prop:=∃a,(v=F d->a=F1 d)/\K (eff none d a F1) cs/\cu ts F F1
theorem BM{d:Nat}{ts:List Nat}{c:Nat->Option (Nat × Nat)}(a:d∉ts):∀{parts:List (Nat × Operand)}{cs:List C}{K:(Nat->AV)->List C->Prop}{F:Nat->AV}{v:AV},fillW c parts cs K (eff none d v F)->(∀p,p∈parts->d∉tm p.2)->(∀t,(F t).uses d=false)->
  fillW c parts cs (FqL d ts v F K) F
 | [],cs,K,F,v,h,_,b=>⟨v,λe=>e,h,cu.refl _ _⟩
 | p::rest,cs,K,F,v,h,r,b=>by
  simp only[fillW]at h |-;split at h
  case h_2=>exact h.elim
  rename_i q u;refine y7 (XU (ts:=ts) h ψ b) λw y xs h=>?_
  obtain⟨A,g,h,f⟩:=h;cases i:(Nat.beq xs.length q.2&&Nat.ble (q.1+q.2) cs.length) with
  | false=>grind
  | true=>
   rw[i]at h;simp only[cond_true,dS]at h |-;refine lL (BM a h ψ (f.clean a b)) λB cs2 j=>?_
   obtain⟨k,l,n,o⟩:=j;exact⟨k,λe=>l (g e),n,f.trans o⟩
variable{parts:List (Nat × Operand)}{T:Nat}
theorem RV(h:n8 TE N (eff none d v F) dj T parts K)(a:dj≠d)(b:d∉ts)(c:∀p,p∈parts->d∉tm p.2)(e:∀t,(F t).uses d=false) :
  n8 TE N F dj T parts (Fq d ts v F K):=by
 unfold n8 at h |-;split at h
 case h_2=>exact h.elim
 rename_i size bytes zero flds k;cases f:Jt TE flds with
 | false=>grind
 | true=>
  rw[f]at h;refine lL (BM b h c e) λl n h=>?_
  obtain⟨o,g,h,i⟩:=h;exact bw (iL (ts:=ts) h a jR) λq j=>Fq.trans g i j
variable{n:Nat}
theorem PX(h:ix TE N (eff none d v F) dj T n parts K)(a:dj≠d)(c:d∉ts)(f:∀p,p∈parts->d∉tm p.2)(g:∀t,(F t).uses d=false) :
  ix TE N F dj T n parts (Fq d ts v F K):=by
 unfold ix at h |-;obtain⟨e,i,h,b⟩:=iP h;refine b _ ?_;cases j:Nat.ble (n*i.size) 16777216 with
 | false=>grind
 | true=>
  rw[j]at h;simp only[cond_true]at h |-;cases n with
  | zero=>
   cases parts with
   | nil=>exact iL h a jR
   | cons=>exact h.elim
  | succ n=>
   simp only[dS]at h |-;refine lL (BM c h f g) λq r h=>?_
   obtain⟨u,k,h,l⟩:=h;rw[tf]at h |-;exact bw (iL (ts:=ts) h a jR) λw o=>Fq.trans k l o
theorem Vb(h:kW N (eff none d v F) dj (.tmp t) K)(a:dj≠d)(c:d∉ts)(l:t∈ts)(g:∀t,(F t).uses d=false):kW N F dj (.tmp t) (Fq d ts v F K):=by
 have b:t≠d:=ψ
 have std:bS (eff none d v F) (.tmp t) (λf=>ch N (eff none d v F) dj f K)->bS F (.tmp t) (λf=>ch N F dj f (Fq d ts v F K)):=λh=>
  JE (p:=λF K=>bS F (.tmp t) K) (my h) a (λn o=>by grind [tm]) c g
 simp only[kW]at h |-;rw[cB b]at h;split at h
 ·rename_i i xs q
  cases j:b6 xs with
  | true=>grind [iL]
  | false=>
   rw[j]at h;simp only[cond_false]at h |-;rw[rU b]at h;exact bw (iL (ts:=ts) h a jR) λr k=>Fq.trans (F1:=updH F t (.tup i) _) (λe=>by grind [DW]) cu.updH k
 all_goals exact std h
variable{x:Operand}
theorem Zl{b:Operand}(h:Li TE N (eff none d v F) dj T x b K)(c:dj≠d)(f:d∉tm x)(g:d∉tm b)(j:∀t,(F t).uses d=false):Li TE N F dj T x b (Fq d ts v F K):=by
 unfold Li at h |-;obtain⟨e,A,h,a⟩:=iP h;refine a _ ?_;obtain⟨n,k,i⟩:=nA h;refine i F (om g j) _ ?_;refine fL (sx (ts:=ts) k f j) λB C D h=>?_
 obtain⟨E,l,h,o⟩:=h;split at h
 case h_2=>exact h.elim
 obtain⟨m,y,p,q,r,u,w,h⟩:=h.out;exact .mk_ ⟨m,y,p,q,r,u,w,_,rfl,bw (iL (ts:=ts) h c jR) λG i=>Fq.trans l o i⟩
theorem Z7{b:Operand}(h:MW TE N (eff none d v F) dj T x b K)(c:dj≠d)(f:d∉tm x)(g:d∉tm b)(j:∀t,(F t).uses d=false):MW TE N F dj T x b (Fq d ts v F K):=by
 unfold MW at h |-;obtain⟨e,A,h,a⟩:=iP h;refine a _ ?_;obtain⟨n,k,i⟩:=nA h;refine i F (om g j) _ ?_;refine fL (sx (ts:=ts) k f j) λB C D h=>?_
 obtain⟨E,l,h,o⟩:=h;split at h
 case h_2=>exact h.elim
 obtain⟨m,y,p,q,r,u,w,h⟩:=h.out;exact .mk_ ⟨m,y,p,q,r,u,w,_,rfl,bw (iL (ts:=ts) h c jR) λG i=>Fq.trans l o i⟩
theorem TX(h:nH N (eff none d v F) dj x K)(a:dj≠d)(j:d∉ts)(k:∀t,t∈tm x->t∈ts)(o:∀t,(F t).uses d=false):nH N F dj x (Fq d ts v F K):=by
 have l:∀y,(∀t,t∈tm y->t∈ts)->bS (eff none d v F) y (λn=>ch N (eff none d v F) dj n K)->bS F y (λn=>ch N F dj n (Fq d ts v F K)):=λy q h=>JE (p:=λF K=>bS F y K) (my h) a q j o
 have A:∀y,(∀t,t∈tm y->t∈ts)->iQ (eff none d v F) y (λb e i=>ch N b dj (.Y (mu e) i) K)->iQ F y (λb e i=>ch N b dj (.Y (mu e) i) (Fq d ts v F K)):=λy q h=>
  fL (sx (ts:=ts) h ψ o) λb e i h=>by
   obtain⟨B,r,h,u⟩:=h;exact bw (iL (ts:=ts) h a jR) λC w=>Fq.trans r u w
 cases x with
 | tmp t=>
  grind [cB,tm,nH]
 | const c=>exact l (.const c) k h
 | global g=>exact l (.global g) k h
 | func f=>exact l (.func f) k h
theorem Ju(a:t≠d):kill (eff none d v F) t=eff none d (Xf t v) (kill F t):=by grind [qq,pb,cB,uR]
theorem Z4(h:HA N (eff none d v F) dj x K)(a:dj≠d)(c:d∉ts)(j:∀t,t∈tm x->t∈ts)(l:∀t,(F t).uses d=false):HA N F dj x (Fq d ts v F K):=by
 have f:Nu N (eff none d v F) dj x=Nu N F dj x:=by
  cases x with
  | tmp t=>
   grind [cB,tm,Nu]
  | _=>rfl
 unfold HA at h |-;cases b:WG N dj x with
 | true=>
  rw[b]at h;simp only[cond_true]at h |-;exact iL (ts:=ts) h a jR
 | false=>
 rw[b]at h;simp only[cond_false]at h |-;unfold Q4 at h |-;rw[f]at h;cases i:Nu N F dj x with
 | none=>grind [TX]
 | some p=>
  rw[i]at h;simp only at h |-;obtain⟨rfl,n⟩:=Hj i;have g:p.1≠d:=λe=>c (e ▸ j p.1 (by simp[tm]))
  rw[Ju g]at h;exact bw (iL (ts:=ts) h a jR) λo k=>Fq.trans (F1:=kill F p.1) (λe=>by grind [pb]) cu.kill k
theorem Re(h:vE (eff none d v F) x cs K)(l:d∉tm x)(n:∀t,(F t).uses d=false):vE F x cs (Fq d ts v F K):=by
 have fin:∀{t:Nat}{k:Kd}{cs:List C},t≠d->K (updH (eff none d v F) t k cs)->Fq d ts v F K (updH F t k cs):=fun {t k cs} a h=>by
  rw[rU a]at h;exact⟨_,λe=>by rw[DW a,e],h,cu.updH⟩
 have Fc:∀{t:Nat}{k:Kd}{cs:List C},t≠d->K (updN (eff none d v F) t k cs)->Fq d ts v F K (updN F t k cs):=fun {t k cs} a h=>by
  rw[QD a]at h;exact⟨_,λe=>by rw[M9 a,e],h,cu.updN⟩
 have finP:∀{t:Nat}{k:Kd}{cs:List C},t≠d->K (Xx (eff none d v F) t k cs)->Fq d ts v F K (Xx F t k cs):=fun {t k cs} a h=>by
  cases k with
  | box=>exact fin a h
  | _=>exact Fc a h
 cases x with
 | tmp t=>
  have a:t≠d:=λe=>l (by simp[tm,e])
  simp only[vE]at h |-;rw[cB a]at h;cases c:F t with
  | Y k o=>
   grind [dS]
  | ref f p g=>
   rw[c]at h;have i:f≠d:=λe=>by have:=n t;rw[c,e]at this;simp[AV.uses]at this
   cases g with
   | cons s g=>
    simp only at h |-;rw[cB i]at h;cases b:F f with
    | Y k o=>
     rw[b]at h;obtain⟨r,j,q,u,w,y⟩:=Pu.out h;exact Pu.mk q u w rfl (finP i y)
    | _=>grind
   | nil=>
    grind [cB,dS]
  | _=>grind
 | _=>exact h.elim
theorem W4(h:pW TE (eff none d v F) T x y K)(b:d∉ts)(n:d∉tm x)(j:d∉tm y)(c:∀t,(F t).uses d=false):pW TE F T x y (Fq d ts v F K):=by
 unfold pW at h |-;split at h
 ·rename_i i r
  obtain⟨u,k,a,e⟩:=cJ h;refine e F (om j c) _ ?_;cases o:Nat.beq k.length i.size with
  | false=>grind
  | true=>
   rw[o]at a;simp only[cond_true]at a |-;cases p:b6 k with
   | true=>grind [Re]
   | false=>
    rw[p]at a;simp only[cond_false]at a |-;refine fL (sx (ts:=ts) a j c) λw q f h=>?_
    obtain⟨A,a,h,l⟩:=h;cases g:Nat.beq f.length i.size with
    | false=>grind
    | true=>rw[g]at h;exact GF (Re (ts:=ts) h n (l.clean b c)) λB e=>Fq.trans a l e
 exact h.elim
def Zh(a:d∉tm y):qZ (eff none d v F) y=qZ F y:=by
 cases y with
 | tmp t=>exact cB λe=>a (by simp[tm,e])
 | _=>rfl
theorem Zd{K:Bool->(Nat->AV)->List (List C)->Prop}(h:Kf (eff none d v F) y K)(b:d∉tm y)(c:∀t,(F t).uses d=false):Kf F y λe F1 rows=>∃v1,(v=F d->v1=F1 d)/\K e (eff none d v1 F1) rows/\cu ts F F1:=by
 have a:=Zh (F:=F) (v:=v) b;unfold Kf at h |-;rw[a]at h;split at h
 ·refine fL (sx (ts:=ts) h b c) λF1 f g h=>?_
  obtain⟨v1,i,h,j⟩:=h
  grind
 grind [cJ,om,cu.refl]
theorem XW{K:(Nat->AV)->List (List C)->Prop}(h:GL (eff none d v F) y K)(b:d∉tm y)(c:∀t,(F t).uses d=false):GL F y λF1 rows=>∃v1,(v=F d->v1=F1 d)/\K (eff none d v1 F1) rows/\cu ts F F1:=by
 obtain⟨e,xs,a,f⟩:=cJ h;refine f F (om b c) _ ?_;split at a
 ·grind [cu.refl]
 ·refine fL (sx (ts:=ts) a b c) λF1 e g h=>?_
  obtain⟨v1,a,h,i⟩:=h
  grind
 exact a.elim
theorem XJ(h:GW TE N (eff none d v F) dj T x y K)(b:dj≠d)(c:d∉ts)(j:d∉tm x)(k:d∉tm y)(f:∀t,(F t).uses d=false):GW TE N F dj T x y (Fq d ts v F K):=by
 obtain⟨e,B,h,a⟩:=iP h;refine a _ (Lt (Zd (ts:=ts) h k f) λC D E h=>?_);obtain⟨G,l,h,g⟩:=h;refine GY (XW (ts:=ts) h j (g.clean c f)) λH i h=>?_
 obtain⟨J,n,h,o⟩:=h;obtain⟨p,q,r,u,w,h⟩:=Ap.out h;refine Ce p q r u w rfl (bw (iL (ts:=ts) h b jR) λL A=>?_);exact Fq.trans l g (Fq.trans n o A)
theorem Wq{f:Oper}(E:f.guard=none)(g:YO f.op=true)(k:f.dst≠some d)(A:d∉f.looksAt ops)(B:∀t,(F t).uses d=false)(h:k7 P TE N ops f K (eff none d v F)) :
  k7 P TE N ops f (Fq d (f.looksAt ops) v F K) F:=by
 unfold k7 hJ at h |-;rw[E]at h |-;simp only at h |-;have j:∀t,t∈ew f.op->t∈f.looksAt ops:=λt l=>jZ f t l
 have pur:∀b,b≠d->dJ P TE (eff none d v F) f.op (λq=>ch N (eff none d v F) b q K)->dJ P TE F f.op λq=>ch N F b q (Fq d (f.looksAt ops) v F K):=λb k h=>
  JE (p:=λF K=>dJ P TE F f.op K) (mz h) k j A B
 have dne:∀b,f.dst=some b->b≠d:=ψ
 have tmI:∀x,x∈f.op.operands.toList->∀t,t∈tm x->t∈f.looksAt ops:=λx G t l=>j t (List.mem_flatMap.2 ⟨x,G,l⟩)
 cases e:f.op with
 | store T x y=>
  rw[e]at h tmI;simp only[Gh]at h |-;cases a:f.dst with
  | some b=>rw[a]at h;simp only[kM]at h;exact h.elim
  | none=>
   grind [W4,Go.Op.operands]
 | move x=>
  rw[e]at h tmI;cases a:f.dst with
  | none=>rw[a]at h;exact h.elim
  | some b=>
   rw[a]at h;cases x with
   | tmp t=>
    simp only[Gh,kM]at h |-;exact Vb h (dne b a) A (tmI (.tmp t) (by simp[Op.operands]) t (by simp[tm])) B
   | _=>rw[e]at g;cases g
 | assign x=>
  rw[e]at h tmI
  grind [Z4,Gh,kM,Go.Op.operands]
 | build T H=>
  rw[e]at h tmI
  grind [RV,Gh,kM,Go.Op.operands]
 | buildSlice T n H=>
  rw[e]at h tmI
  grind [PX,Gh,kM,Go.Op.operands]
 | extract x i=>rw[e]at h pur;cases a:f.dst with|none=>rw[a]at h;exact h.elim|some b=>rw[a]at h;exact pur b (dne b a) h
 | load T x=>rw[e]at h pur;cases a:f.dst with|none=>rw[a]at h;exact h.elim|some b=>rw[a]at h;exact pur b (dne b a) h
 | fieldAddr T x i=>rw[e]at h pur;cases a:f.dst with|none=>rw[a]at h;exact h.elim|some b=>rw[a]at h;exact pur b (dne b a) h
 | field T x i=>rw[e]at h pur;cases a:f.dst with|none=>rw[a]at h;exact h.elim|some b=>rw[a]at h;exact pur b (dne b a) h
 | binOp o T x y L=>rw[e]at h pur;cases a:f.dst with|none=>rw[a]at h;exact h.elim|some b=>rw[a]at h;exact pur b (dne b a) h
 | unOp o T x=>rw[e]at h pur;cases a:f.dst with|none=>rw[a]at h;exact h.elim|some b=>rw[a]at h;exact pur b (dne b a) h
 | call c=>
  rw[e]at g h tmI;cases J:vA c with
  | none=>grind [YO]
  | some p=>
   have r:=DJ J;subst r;cases a:f.dst with
   | none=>rw[a]at h;exact h.elim
   | some b=>
    grind [XJ,Gh,kM,Go.Op.operands,Go.Call.operands]
 | slice T x C u D=>
  rw[e]at g h tmI pur;cases C with
  | some C=>
   cases u with
   | some _=>cases g
   | none=>
    cases D with
    | some _=>cases g
    | none=>
     cases a:f.dst with
     | none=>rw[a]at h;exact h.elim
     | some b=>
      rw[a]at h;simp only[Gh,kM]at h |-;cases w:ZO N b with
      | false=>simp_all
      | true=>
       grind [Z7,Go.Op.operands]
  | none=>
   cases u with
   | none=>cases g
   | some u=>
    cases D with
    | some _=>cases g
    | none=>
     cases a:f.dst with
     | none=>rw[a]at h;exact h.elim
     | some b=>
      rw[a]at h;simp only[Gh,kM]at h |-;cases w:ZO N b with
      | false=>simp_all
      | true=>
       grind [Zl,Go.Op.operands]
 | _=>rw[e]at g;cases g
theorem Zr{a:Oper}(c:a.guard=none)(f:YO a.op=true)(b:a.dst≠some d)(g:d∉a.looksAt ops)(i:∀t,(F t).uses d=false)(h:k7 P TE N ops a K F) :
  k7 P TE N ops a (λF1=>K F1/\cu (a.looksAt ops) F F1) F:=by
 refine mt (Wq (d:=d) (v:=F d) c f b g i (by rw[Vl];exact h)) λF1 j=>?_
 obtain⟨k,e,l,u⟩:=j
 grind [Vl]
theorem cu.setH{ts:List Nat}{t:Nat}{k:Kd}{cs:List C} : cu ts F (setH F t (.Y k cs)):=λs e a=>by
 unfold Ab.setH at a;cases b:Nat.beq s t with
 | true=>rw[b]at a;cases a
 | false=>grind
variable{rcs:List C}
theorem RI(h:ch N F d (.Y k rcs) K):ch N F d (.Y k rcs) λF1=>K F1/\cu ts F F1:=by
 unfold ch at h |-;cases a:(N.free d&&!(AV.Y k rcs).uses d) with
 | false=>grind
 | true=>rw[a]at h;exact⟨h,cu.put λe b=>by cases b⟩
theorem zb{off:Nat}{st:cT}{K:(Nat->AV)->List C->Prop}(h:lendAt F t off st n K):lendAt F t off st n λF1 cs=>K F1 cs/\cu ts F F1:=by
 unfold lendAt at h |-;split at h
 all_goals grind [dS,cu.updH]
def oB{ts:List Nat} : ∀{xs:List (Operand × Nat)}{K:(Nat->AV)->List (MA × vX)->Prop}{F:Nat->AV},lendP xs K F->lendP xs (λF1 l=>K F1 l/\cu ts F F1) F
 | [],K,F,h=>⟨h,cu.refl _ _⟩
 | (x,0)::xs,K,F,h=>oB (xs:=xs) h
 | (x,1)::xs,K,F,h=>by
  simp only[lendP]at h |-;split at h
  case h_2=>exact h.elim
  split at h
  ·exact g9 (zb (ts:=ts) h) λF1 c h=>cI (oB (ts:=ts) h.1) λb l a=>⟨a.1,h.2.trans a.2⟩
  ·exact g9 (zb (ts:=ts) h) λF1 c h=>cI (oB (ts:=ts) h.1) λb l a=>⟨a.1,h.2.trans a.2⟩
  ·exact g9 (zb (ts:=ts) h) λF1 c h=>cI (oB (ts:=ts) h.1) λb l a=>⟨a.1,h.2.trans a.2⟩
  exact h.elim
 | (x,n+2)::xs,K,F,h=>by
  simp only[lendP]at h |-;split at h
  case h_2=>exact h.elim
  split at h
  ·split at h
   ·exact cI (oB (ts:=ts) h) λb l a=>⟨a.1,cu.kill.trans a.2⟩
   exact h.elim
  ·exact cI (oB (ts:=ts) h) λb l a=>⟨a.1,cu.kill.trans a.2⟩
  exact h.elim
theorem oA{ts:List Nat}{K:(Nat->AV)->Prop} : ∀{l:List (MA × vX)}{B:List MA}{F:Nat->AV},j8 l B K F->j8 l B (λF1=>K F1/\cu ts F F1) F
 | [],[],F,h=>⟨h,cu.refl _ _⟩
 | [],_::_,F,h=>h.elim
 | (m,.no)::l,[],F,h=>h.elim
 | (m,.at_ t off st)::l,[],F,h=>h.elim
 | (m,.box t)::l,[],F,h=>h.elim
 | (m,.no)::l,.val _ _::B,F,h=>oA (l:=l) (B:=B) h
 | (m,.no)::l,.mut _ _::B,F,h=>oA (l:=l) (B:=B) h
 | (m,.no)::l,.ptr _::B,F,h=>oA (l:=l) (B:=B) h
 | (m,.at_ t off st)::l,.val _ _::B,F,h=>h.elim
 | (m,.at_ t off st)::l,.ptr _::B,F,h=>h.elim
 | (m,.box t)::l,.val _ _::B,F,h=>h.elim
 | (m,.box t)::l,.mut _ _::B,F,h=>h.elim
 | (m,.at_ t off st)::l,.mut ag out::B,F,h=>by
  simp only[j8]at h |-;split at h
  case h_2=>exact h.elim
  split at h
  ·rename_i k c _ _
   cases d:Nat.ble (off+out.length) c.length with
   | false=>grind
   | true=>
    rw[d]at h;simp only[cond_true,dS]at h |-;exact dY (λb a=>⟨a.1,cu.updH.trans a.2⟩) (oA (ts:=ts) h)
  obtain⟨r,j,e,f,g,i⟩:=Pu.out h;exact Pu.mk e f g rfl (dY (λb a=>⟨a.1,cu.updH.trans a.2⟩) (oA (ts:=ts) i))
 | (m,.box t)::l,.ptr out::B,F,h=>by
  simp only[j8]at h |-;split at h
  ·exact dY (λb a=>⟨a.1,cu.setH.trans a.2⟩) (oA (ts:=ts) h)
  exact h.elim
variable{modes:List Nat}{args:List Operand}{f:Nat}
theorem VX{d:Option Nat}(h:oz P N F d f args modes K):oz P N F d f args modes λF1=>K F1/\cu ts F F1:=by
 unfold oz at h |-;refine cI (oB (ts:=ts) h) λn l h=>?_
 obtain⟨h,c⟩:=h;cases e:(zN l&&Nat.beq args.length modes.length) with
 | false=>grind
 | true=>
  rw[e]at h;refine lg h λb A h=>?_
  obtain⟨o,B,k,rcs,g,a,i⟩:=cn.out h;refine CP g a (dY (λF'' h=>?_) (oA (ts:=ts) i));obtain⟨h,j⟩:=h;cases d with
  | none=>grind [cu.trans]
  | some d=>exact bw (RI (ts:=ts) h) λp a=>⟨a.1,(c.trans j).trans a.2⟩
theorem Yx{d:Option Nat}{c a b:Nat}{B:List MA}(h:DZ N F d t cs c a e b K k rcs B):DZ N F d t cs c a e b (λF1=>K F1/\cu ts F F1) k rcs B:=by
 unfold DZ at h |-;split at h
 case h_2=>exact h.elim
 rename_i g i;cases j:(Nat.beq g.length a&&Nat.beq i.length b) with
 | false=>grind
 | true=>
  rw[j]at h;simp only[cond_true,dS]at h |-;cases d with
  | none=>exact⟨h,cu.kill.trans cu.setH⟩
  | some d=>exact bw (RI (ts:=ts) h) λl f=>⟨f.1,(cu.kill.trans cu.setH).trans f.2⟩
theorem Vn{d:Option Nat}{a b:Nat}(h:mO P N F d f args a b K):mO P N F d f args a b λF1=>K F1/\cu ts F F1:=by
 unfold mO at h |-;split at h
 case h_2=>exact h.elim
 refine nZ h λt e h=>nZ h λg c h=>?_
 split at h
 case h_2=>exact h.elim
 rename_i i p;cases j:(Nat.beq g t&&Nat.ble (e+a) c&&Nat.ble (c+b) i.length) with
 | false=>grind
 | true=>
  rw[j]at h;simp only[cond_true,dS]at h |-;obtain⟨q,B,k,rcs,l,n,o⟩:=cn.out h;exact CP l n (Yx o)
def WC{d:Option Nat}(h:mN P N F d f args modes K):mN P N F d f args modes λF1=>K F1/\cu ts F F1:=by
 unfold mN at h |-;split
 ·rename_i p a;rw[a]at h;exact Vn h
 rename_i a;rw[a]at h;exact VX h
variable{s:Nat}
theorem Zc{dj:Option Nat}{a:Nat->AV}(u:cu ts F a):cu ts F (rv1 F dj s a):=by
 unfold rv1;split
 case h_2=>exact u
 rename_i t c f;cases g:(dne dj s&&dne dj t) with
 | false=>exact u
 | true=>
  simp only[cond_true];split
  case h_2=>exact u
  split
  case h_2=>exact u
  intro q e b;by_cases d:q=s
  ·grind [uA]
  rw[gN _ _ d]at b;exact u q e b
theorem Qs{ts:List Nat}{dj:Option Nat} : ∀{l:List Nat}{a:Nat->AV},cu ts F a->cu ts F (rvE F dj l a)
 | [],_,u=>u
 | _::l,_,u=>Qs (l:=l) (Zc u)
theorem Xo{a:Oper}(k:a.guard=none)(i:th a.op=true)(h:k7 P TE N ops a K F):k7 P TE N ops a (λF1=>K F1/\cu (a.looksAt ops) F F1) F:=by
 have pur:∀d,a.dst=some d->dJ P TE F a.op (λg=>ch N F d g K)->dJ P TE F a.op λg=>ch N F d g λF1=>K F1/\cu (a.looksAt ops) F F1:=λd l h=>by
  have n:je P TE N ops a K F:=by grind [je,hJ]
  obtain⟨y,g,j,o⟩:=E5 n;have b:=j.dst;rw[l]at b;simp only[C2]at b;subst b;have A:=j.at_ F (Co _ _) (λF1=>K F1/\cu (a.looksAt ops) F F1) ⟨o,cu.put λe q=>(j.from_ e q).imp id ψ⟩
  grind [je,hJ]
 unfold k7 hJ at h |-;rw[k]at h |-;simp only at h |-;cases f:a.op with
 | call c=>
  rw[f]at h i;have r:vA c=none:=by grind [th,vA]
  have pl:mE P TE N a K F->mE P TE N a (λF1=>K F1/\cu (a.looksAt ops) F F1) F:=λh=>by grind [mE,kM]
  cases t:Gh N F (.call c) with
  | some p=>
   rw[t]at h;simp only at h |-;have lt:yi P N F a.dst p.1 p.2.1 p.2.2 K->yi P N F a.dst p.1 p.2.1 p.2.2 λF1=>K F1/\cu (a.looksAt ops) F F1:=λh=>wN (WC (ts:=a.looksAt ops) h) λF1 ⟨h,u⟩=>by grind [sC,Qs]
   cases w:UC N (.call c) with
   | false=>grind
   | true=>
    rw[w]at h;rcases h with h|h
    ·exact .pl (pl h)
    exact .lt (lt h)
  | none=>
   grind [mE]
 | _=>rw[f]at i;cases i
theorem XH{a:Oper}(c:a.guard=none)(e:(YO a.op || th a.op)=true)(b:a.dst≠some d)(f:d∉a.looksAt ops)(g:∀t,(F t).uses d=false)(h:k7 P TE N ops a K F) :
  k7 P TE N ops a (λF1=>K F1/\cu (a.looksAt ops) F F1) F:=by grind [Zr,Xo]
def Gq(d:Nat)(ts:List Nat)(F:Nat->AV)(K:(Nat->AV)->Prop)(F1:Nat->AV):Prop:=∃a,K (eff none d a F1)/\cu ts F F1
def Gq.trans{a:Nat->AV}(b:cu ts F F1)(h:Gq d ts F1 K a):Gq d ts F K a:=by
 obtain⟨c,e,f⟩:=h;exact⟨c,e,b.trans f⟩
theorem JJ(a:t≠d):setH (eff none d v F) t av=eff none d v (setH F t av):=by grind [qq,gN,cB,setH]
theorem zp{off:Nat}{st:cT}{K:(Nat->AV)->List C->Prop}(h:lendAt (eff none d v F) t off st n K)(a:t≠d):lendAt F t off st n λF1 cs=>∃v1,K (eff none d v1 F1) cs/\cu ts F F1:=by
 unfold lendAt at h |-;rw[cB a]at h;split at h
 case h_2=>exact h.elim
 split at h
 ·grind [dS,rU,cu.updH]
 obtain⟨r,j,b,c,e,f⟩:=Lq.out h;refine .mk_ ?_
 grind [rU,cu.updH]
theorem qV{ts:List Nat}{d:Nat}(a:d∉ts):∀{xs:List (Operand × Nat)}{K:(Nat->AV)->List (MA × vX)->Prop}{F:Nat->AV}{v:AV},lendP xs K (eff none d v F)->(∀x,x∈xs->d∉tm x.1)->(∀t,(F t).uses d=false)->
  lendP xs (λF1 l=>(∃v1,K (eff none d v1 F1) l/\cu ts F F1)/\∀q,q∈l->d∉q.2.slot) F
 | [],K,F,v,h,_,_=>⟨⟨v,h,cu.refl _ _⟩,ψ⟩
 | (x,0)::xs,K,F,v,h,w,c=>by
  simp only[lendP]at h |-;refine cI (qV a h ψ c) λF1 l h=>⟨h.1,λq b=>?_⟩
  rcases List.mem_cons.1 b with rfl|b
  ·exact λu=>by cases u
  exact h.2 q b
 | (x,1)::xs,K,F,v,h,w,c=>by
  simp only[lendP]at h |-;split at h
  case h_2=>exact h.elim
  rename_i s;have j:s≠d:=λe=>w _ O3 (by simp[tm,e])
  rw[cB j]at h;have y:∀{t:Nat}{F1:Nat->AV}{l:List (MA × vX)}{m:MA}{f:Nat}{A:cT}{K2:(Nat->AV)->List (MA × vX)->Prop},t≠d->((∃v1,K2 (eff none d v1 F1) ((m,.at_ t f A)::l)/\cu ts F F1)/\∀q,q∈l->d∉q.2.slot)->(∃v1,K2 (eff none d v1 F1) ((m,.at_ t f A)::l)/\cu ts F F1)/\∀q,q∈(m,vX.at_ t f A)::l->d∉q.2.slot:=λg h=>⟨h.1,λq b=>by
    rcases List.mem_cons.1 b with rfl|b
    · exact λu=>g (z3.1 u).symm
    exact h.2 q b⟩
  split at h
  ·exact g9 (zp (ts:=ts) h j) λF1 k h=>by
    obtain⟨v1,h,i⟩:=h;exact cI (qV a h ψ (i.clean a c)) λB l h=>by
     obtain⟨⟨o,h,p⟩,r⟩:=h;exact y (K2:=K) j ⟨⟨o,h,i.trans p⟩,r⟩
  ·exact g9 (zp (ts:=ts) h j) λF1 k h=>by
    obtain⟨v1,h,i⟩:=h;exact cI (qV a h ψ (i.clean a c)) λB l h=>by
     obtain⟨⟨o,h,p⟩,r⟩:=h;exact y (K2:=K) j ⟨⟨o,h,i.trans p⟩,r⟩
  ·rename_i t f A G D
   have g:t≠d:=λe=>by have:=c s;rw[D,e]at this;simp[AV.uses]at this
   exact g9 (zp (ts:=ts) h g) λF1 k h=>by
    obtain⟨v1,h,i⟩:=h;exact cI (qV a h ψ (i.clean a c)) λB l h=>by
     obtain⟨⟨o,h,p⟩,r⟩:=h;exact y (K2:=K) g ⟨⟨o,h,i.trans p⟩,r⟩
  exact h.elim
 | (x,n+2)::xs,K,F,v,h,w,c=>by
  simp only[lendP]at h |-;split at h
  case h_2=>exact h.elim
  rename_i s;have j:s≠d:=λe=>w _ O3 (by simp[tm,e])
  rw[cB j]at h;have y:∀{t:Nat}{k:List C},t≠d->lendP xs (λE l=>K E ((.ptr k,.box t)::l)) (kill (eff none d v F) t)->lendP xs (λF1 l=>(∃v1,K (eff none d v1 F1) ((.ptr k,.box t)::l)/\cu ts F F1)/\∀q,q∈(MA.ptr k,vX.box t)::l->d∉q.2.slot) (kill F t):=fun {t k} g h=>by
   rw[Ju g]at h;refine cI (qV a h ψ ((cu.kill (ts:=ts)).clean a c)) λB l h=>?_
   obtain⟨⟨o,h,p⟩,r⟩:=h;refine⟨⟨o,h,cu.kill.trans p⟩,λq b=>?_⟩;rcases List.mem_cons.1 b with rfl|b
   ·exact λu=>g (z3.1 u).symm
   exact r q b
  split at h
  ·rename_i t D
   have g:t≠d:=λe=>by have:=c s;rw[D,e]at this;simp[AV.uses]at this
   rw[cB g]at h;split at h
   all_goals simp_all
  all_goals simp_all
theorem xT{d:Nat}{v:AV}(a:∀t,(F t).uses d=false):∀{l:List (MA × vX)}{xs:List Operand}{K:Bool->List MA->Prop},valsP (eff none d v F) l xs K->(∀x,x∈xs->d∉tm x)->valsP F l xs K
 | [],[],K,h,_=>h
 | (m,.no)::l,x::xs,K,h,b=>by
  obtain⟨f,g,c,e⟩:=cJ h;exact e F (om ψ a) _ (xT a c ψ)
 | (m,.at_ t off st)::l,x::xs,K,h,b=>xT (l:=l) (xs:=xs) a h ψ
 | (m,.box t)::l,x::xs,K,h,b=>xT (l:=l) (xs:=xs) a h ψ
 | [],_::_,K,h,_=>h.elim
 | (m,.no)::l,[],K,h,_=>h.elim
 | (m,.at_ t off st)::l,[],K,h,_=>h.elim
 | (m,.box t)::l,[],K,h,_=>h.elim
theorem oy{ts:List Nat}{d:Nat}{K:(Nat->AV)->Prop} : ∀{l:List (MA × vX)}{B:List MA}{F:Nat->AV}{v:AV},j8 l B K (eff none d v F)->(∀q,q∈l->d∉q.2.slot)->j8 l B (Gq d ts F K) F
 | [],[],F,v,h,_=>⟨v,h,cu.refl _ _⟩
 | [],_::_,F,v,h,_=>h.elim
 | (m,.no)::l,[],F,v,h,_=>h.elim
 | (m,.at_ t off st)::l,[],F,v,h,_=>h.elim
 | (m,.box t)::l,[],F,v,h,_=>h.elim
 | (m,.no)::l,.val _ _::B,F,v,h,b=>oy (l:=l) (B:=B) h ψ
 | (m,.no)::l,.mut _ _::B,F,v,h,b=>oy (l:=l) (B:=B) h ψ
 | (m,.no)::l,.ptr _::B,F,v,h,b=>oy (l:=l) (B:=B) h ψ
 | (m,.at_ t off st)::l,.val _ _::B,F,v,h,_=>h.elim
 | (m,.at_ t off st)::l,.ptr _::B,F,v,h,_=>h.elim
 | (m,.box t)::l,.val _ _::B,F,v,h,_=>h.elim
 | (m,.box t)::l,.mut _ _::B,F,v,h,_=>h.elim
 | (m,.at_ t off st)::l,.mut ag out::B,F,v,h,b=>by
  have c:t≠d:=λe=>b _ O3 (by simp[vX.slot,e])
  have a:∀q,q∈l->d∉q.2.slot:=ψ
  simp only[j8]at h |-;rw[cB c]at h;split at h
  case h_2=>exact h.elim
  split at h
  ·rename_i k n _ _
   cases o:Nat.ble (off+out.length) n.length with
   | false=>grind
   | true=>
    rw[o]at h;simp only[cond_true,dS]at h |-;rw[rU c]at h;exact dY (λg f=>Gq.trans cu.updH f) (oy (ts:=ts) h a)
  obtain⟨r,j,p,u,w,i⟩:=Pu.out h;rw[rU c]at i;exact Pu.mk p u w rfl (dY (λg f=>Gq.trans cu.updH f) (oy (ts:=ts) i a))
 | (m,.box t)::l,.ptr out::B,F,v,h,b=>by
  have c:t≠d:=λe=>b _ O3 (by simp[vX.slot,e])
  have a:∀q,q∈l->d∉q.2.slot:=ψ
  simp only[j8]at h |-;rw[cB c]at h;split at h
  ·rw[JJ c]at h
   exact dY (λg f=>Gq.trans cu.setH f) (oy (ts:=ts) h a)
  exact h.elim
theorem UI{dj:Option Nat}(h:oz P N (eff none d v F) dj f args modes K)(n:dj≠some d)(a:d∉ts)(g:∀x,x∈args->d∉tm x)(i:∀t,(F t).uses d=false) :
  oz P N F dj f args modes (Gq d ts F K):=by
 unfold oz at h |-;refine cI (qV a h (λx o=>g _ (List.of_mem_zip o).1) i) λE l h=>?_
 obtain⟨⟨G,h,c⟩,p⟩:=h;cases q:(zN l&&Nat.beq args.length modes.length) with
 | false=>grind
 | true=>
  rw[q]at h;refine lg (xT (c.clean a i) h g) λb A h=>?_
  obtain⟨H,B,k,rcs,r,e,u⟩:=cn.out h;refine CP r e (dY (λF'' h=>?_) (oy (ts:=ts) u p));obtain⟨w,h,j⟩:=h;cases dj with
  | none=>exact⟨w,h,c.trans j⟩
  | some dj=>
   refine bw (iL (ts:=ts) h ψ jR) λJ e=>?_
   obtain⟨y,-,C,D⟩:=e;exact⟨y,C,(c.trans j).trans D⟩
theorem Yd{dj:Option Nat}{c a b:Nat}{B:List MA}(f:t≠d)(g:dj≠some d)(h:DZ N (eff none d v F) dj t cs c a e b K k rcs B):DZ N F dj t cs c a e b (Gq d ts F K) k rcs B:=by
 unfold DZ at h |-;split at h
 case h_2=>exact h.elim
 rename_i i j;cases l:(Nat.beq i.length a&&Nat.beq j.length b) with
 | false=>grind
 | true=>
  rw[l]at h;simp only[cond_true,dS]at h |-;rw[Ju f,JJ f]at h;cases dj with
  | none=>exact⟨_,h,cu.kill.trans cu.setH⟩
  | some dj=>
   refine bw (iL (ts:=ts) h ψ jR) λr n=>?_
   obtain⟨o,-,p,q⟩:=n;exact⟨o,p,(cu.kill.trans cu.setH).trans q⟩
theorem Q8{K:Nat->Nat->Prop}(b:d∉tm x)(c:∀t,(F t).uses d=false)(h:Fn (eff none d v F) x K):Fn F x λt o=>t≠d/\K t o:=by
 obtain⟨s,t,f,rfl,a,i⟩:=xb h;have g:s≠d:=λe=>b (by simp[tm,e])
 rw[cB g]at a;have j:t≠d:=λe=>by have:=c s;rw[a,e]at this;simp[AV.uses]at this
 grind [Fn]
theorem Vy{dj:Option Nat}{a b:Nat}(h:mO P N (eff none d v F) dj f args a b K)(g:dj≠some d)(c:∀x,x∈args->d∉tm x)(e:∀t,(F t).uses d=false) :
  mO P N F dj f args a b (Gq d ts F K):=by
 unfold mO at h |-;split at h
 case h_2=>exact h.elim
 refine nZ (Q8 (c _ (by simp)) e h) λt j h=>?_
 obtain⟨i,h⟩:=h;refine nZ (Q8 (c _ (by simp)) e h) λk l h=>?_
 replace h:=h.2;rw[cB i]at h;split at h
 all_goals grind [dS,cn.out,CP,Yd]
theorem WM{dj:Option Nat}(h:mN P N (eff none d v F) dj f args modes K)(a:dj≠some d)(b:d∉ts)(c:∀x,x∈args->d∉tm x)(e:∀t,(F t).uses d=false) :
  mN P N F dj f args modes (Gq d ts F K):=by grind [Vy,UI,mN]
theorem Xw{dj:Option Nat}{q:Nat}(c:q≠s):rv1 F dj s F1 q=F1 q:=by
 unfold rv1;cases F s with
 | ref t a b=>
  cases b with
  | cons=>rfl
  | nil=>
   simp only;cases(dne dj s&&dne dj t) with
   | false=>rfl
   | true=>
    simp only[cond_true];cases F1 t with
    | Y k d=>
     cases k with
     | box=>
      simp only;cases F1 s with
      | dead=>grind [gN]
      | _=>rfl
     | _=>rfl
    | _=>rfl
 | _=>rfl
theorem Zm{dj:Option Nat}{v1:AV}(c:∀t,(F t).uses d=false):∃a,rv1 (eff none d v F) dj s (eff none d v1 F1)=eff none d a (rv1 F dj s F1):=by
 by_cases b:s=d
 ·subst b
  have f:∃a,rv1 (eff none s v F) dj s (eff none s v1 F1)=eff none s a F1:=by
   unfold rv1;rw[qq];have set:∀x:AV,setH (eff none s v1 F1) s x=eff none s x F1:=λx=>by grind [uA,qq,gN,cB]
   grind
  obtain⟨a,g⟩:=f;refine⟨a,g.trans ?_⟩
  grind [qq,cB,Xw]
 refine⟨v1,?_⟩;unfold rv1;rw[cB b];cases h:F s with
 | ref t i j=>
  cases j with
  | cons=>rfl
  | nil=>
   have k:t≠d:=λe=>by have:=c s;rw[h,e]at this;simp[AV.uses]at this
   grind [cB,JJ]
 | _=>rfl
def W8{d:Nat}{dj:Option Nat}{v:AV}(a:∀t,(F t).uses d=false):∀{l:List Nat}{v1:AV}{F1:Nat->AV},∃b,rvE (eff none d v F) dj l (eff none d v1 F1)=eff none d b (rvE F dj l F1)
 | [],v1,_=>⟨v1,rfl⟩
 | s::l,v1,F1=>by
  simp only[rvE];obtain⟨b,e⟩:=Zm (dj:=dj) (v:=v) (v1:=v1) (s:=s) (F1:=F1) a;rw[e];exact W8 a
theorem X7{a:Oper}(B:a.guard=none)(k:th a.op=true)(g:a.dst≠some d)(w:d∉a.looksAt ops)(n:∀t,(F t).uses d=false)(h:k7 P TE N ops a K (eff none d v F)) :
  k7 P TE N ops a (Gq d (a.looksAt ops) F K) F:=by
 have f:∀t,t∈ew a.op->t∈a.looksAt ops:=λt o=>jZ a t o
 have tmI:∀x,x∈a.op.operands.toList->∀t,t∈tm x->t∈a.looksAt ops:=λx y t o=>f t (List.mem_flatMap.2 ⟨x,y,o⟩)
 have pur:∀dj,dj≠d->dJ P TE (eff none d v F) a.op (λj=>ch N (eff none d v F) dj j K)->dJ P TE F a.op λj=>ch N F dj j (Fq d (a.looksAt ops) v F K):=λdj g h=>
  JE (p:=λF K=>dJ P TE F a.op K) (mz h) g f w n
 unfold k7 hJ at h |-;rw[B]at h |-;simp only at h |-;cases b:a.op with
 | call c=>
  rw[b]at h k tmI;have q:vA c=none:=by grind [th,vA]
  have r:Gh N (eff none d v F) (.call c)=Gh N F (.call c):=by grind [th,Gh]
  rw[r]at h;have pl:mE P TE N a K (eff none d v F)->mE P TE N a (Gq d (a.looksAt ops) F K) F:=λh=>by
   unfold mE at h |-;rw[b]at h |-;cases C:a.dst with
   | none=>grind
   | some dj=>
    rw[C]at h;simp only[kM,q]at h |-;have A:=pur dj ψ;rw[b]at A;obtain⟨j,D,-,E⟩:=mz (A h);exact E F (Co _ _) _ (bw D λQ G=>by
      obtain⟨v1,-,H,u⟩:=G;exact⟨v1,H,u⟩)
  cases J:Gh N F (.call c) with
  | some p=>
   rw[J]at h;simp only at h |-;have i:∀x,x∈p.2.1->d∉tm x:=λx y L=>by grind [th,Gh,Go.Op.operands,Go.Call.operands]
   have lt:yi P N (eff none d v F) a.dst p.1 p.2.1 p.2.2 K->yi P N F a.dst p.1 p.2.1 p.2.2 (Gq d (a.looksAt ops) F K):=λh=>wN (WM (ts:=a.looksAt ops) h g w i n) λF1 h=>by
    obtain⟨v1,h,u⟩:=h;rw[sC]at h |-;obtain⟨M,e⟩:=W8 (dj:=a.dst) (v:=v) (l:=rvL N.mo) (v1:=v1) (F1:=F1) n;rw[e]at h;exact⟨M,h,Qs u⟩
   cases O:UC N (.call c) with
   | false=>grind
   | true=>
    rw[O]at h;rcases h with h|h
    ·exact .pl (pl h)
    exact .lt (lt h)
  | none=>
   grind [mE]
 | _=>rw[b]at k;cases k
theorem XB{a:Oper}(e:a.guard=none)(b:(YO a.op || th a.op)=true)(c:a.dst≠some d)(f:d∉a.looksAt ops)(g:∀t,(F t).uses d=false)(h:k7 P TE N ops a K (eff none d v F)) :
  k7 P TE N ops a (Gq d (a.looksAt ops) F K) F:=by
 rw[OC]at b;rcases b with b|b
 ·refine mt (Wq e b c f g h) λl i=>?_
  obtain⟨j,-,k,u⟩:=i;exact⟨j,k,u⟩
 grind [X7]
structure q8(ops:Array Oper)(ds:List Nat)(F:Nat->AV)(listed:Array Bool):Prop where
 dst:∀(j:Nat)(o:Oper)(d:Nat),vm ds o=true->ops[j]? = some o->listed.getD j true=false->o.dst=some d->∀t,(F t).uses d=false
 mv:∀(j:Nat)(o:Oper)(T:Option Nat)(s:Nat),vm ds o=true->ops[j]? = some o->listed.getD j true=false->o.guard=none->rz o.op=some (T,s)->lc ops o s=true->∀t,(F t).uses s=false
variable{j:Nat}
theorem q8.put{o:Option Nat}(h:q8 ops ds F listed)(p:∀b a g,vm ds a=true->b≠j->ops[b]? = some a->listed.getD b true=false->a.dst=some g->av.uses g=false)(q:∀b a T s,vm ds a=true->b≠j->ops[b]? = some a->listed.getD b true=false->a.guard=none->rz a.op=some (T,s)->lc ops a s=true->av.uses s=false) :
  q8 ops ds (eff o d av F) (listed.setIfInBounds j true):=by
 refine⟨λb a g i c e k t=>?_,λb a T s i c e r l n t=>?_⟩
 ·have f:=kv e
  rw[getD_set_ne true (Ne.symm f)]at e;exact lY ψ (h.dst b a g i c e k t)
 have f:=kv e;rw[getD_set_ne true (Ne.symm f)]at e;exact lY ψ (h.mv b a T s i c e r l n t)
theorem DG{o:Oper}(h:ZV o=true):o.guard=none:=by grind [ZV]
theorem Wz(h:(!ts.any (Nat.beq d))=true):d∉ts:=λa=>by grind [Nat.beq_refl]
theorem WL{a b:Oper}{c:Bool}(h:ZX ops a b c=true)(f:b.dst=some d):a.guard=none/\(YO a.op || th a.op)=true/\a.dst≠some d/\d∉a.looksAt ops/\b.guard=none/\d∉b.looksAt ops/\(c=true\/∀T s,rz b.op=some (T,s)->lc ops b s=false):=by
 unfold ZX at h;rw[f]at h;simp only[I0]at h;obtain⟨⟨⟨⟨⟨⟨g,i⟩,n⟩,j⟩,k⟩,l⟩,o⟩:=h;refine⟨DG g,i,λe=>?_,Wz j,DG k,Wz l,?_⟩
 ·simp_all
 grind
def Vv(h:AL ops j i=true):sD ops j i:=ya j _ (λ_ a=>.one (BI a)) i h
theorem QC{o:Oper}(h:vm ds o=true):∃d,o.dst=some d/\ds.any (Nat.beq d)=true:=by grind [vm]
structure YL(ops:Array Oper)(ds:List Nat)(nm:Nat->Bool):Prop where
 back:∀(j:Nat)(oj:Oper),ops[j]? = some oj->∀e∈oj.after,Region.binds .any e=true->e.on<j
 apart:∀(i j:Nat)(oi oj:Oper),vm ds oi=true->vm ds oj=true->i≠j->ops[i]? = some oi->ops[j]? = some oj->dE oj i=true\/dE oi j=true\/oi.apart ops oj=true
 look:∀(i j:Nat)(oi oj:Oper)(d:Nat),vm ds oi=true->i≠j->ops[i]? = some oi->ops[j]? = some oj->oi.dst=some d->d∈oj.looksAt ops->dE oj i=true
 differ:∀(i j:Nat)(oi oj:Oper)(d:Nat),vm ds oi=true->vm ds oj=true->i≠j->ops[i]? = some oi->ops[j]? = some oj->oi.dst=some d->oj.dst≠some d
 nf:∀(i j:Nat)(oi oj:Oper),vm ds oi=true->vm ds oj=false->i≠j->ops[i]? = some oi->ops[j]? = some oj->AL ops j i=true\/AL ops i j=true\/ZX ops oj oi (nm i)=true
 mvs:∀(j:Nat)(oj:Oper)(T:Option Nat)(s:Nat),vm ds oj=true->ops[j]? = some oj->rz oj.op=some (T,s)->lc ops oj s=true->ds.any (Nat.beq s)=true
theorem tD{d:Oper}(a:YL ops ds nm)(b:DC ops listed)(c:ops[j]? = some d)(f:∀e∈d.after,Region.binds .any e=true->listed.getD e.on false=true)(g:AL ops j i=true):listed.getD i false=true:=
 rp b a.back (Vv g) (C6.1 c).1 λk h=>by grind [bQ,cG]
theorem unl{k:Nat}(h1:listed.getD k true=false)(h2:listed.getD k false=true):False:=ψ
theorem jz.trans{a:Nat->AV}(h1:jz F F1 ts)(h2:jz F1 a ts):jz F a ts:=λt b=>by
 obtain⟨c,d⟩:=h1 t b;obtain⟨e,f⟩:=h2 t b
 grind
theorem q8.us{g:Oper}(n:YL ops ds nm)(h:q8 ops ds F listed)(o:ops[j]? = some g)(r:∀e∈g.after,Region.binds .any e=true->listed.getD e.on false=true)(u:cu (g.looksAt ops) F F1):q8 ops ds F1 (listed.setIfInBounds j true):=by
 refine⟨λi k t l b c d=>u.clean (λf=>?_) (h.dst i k t l b ?_ d),λi k T s l b c w p q=>u.clean (λf=>?_) (h.mv i k T s l b ?_ w p q)⟩
 ·have a:=kv c
  rw[getD_set_ne true (Ne.symm a)]at c;have:=n.look i j k g t l a b o d f
  grind [cG]
 ·have a:=kv c
  rwa [getD_set_ne true (Ne.symm a)]at c
 ·grind [kv,iC,d9]
 have a:=kv c
 rwa [getD_set_ne true (Ne.symm a)]at c
theorem YU{p:Nat}{b:Oper}(a:ops[p]? = some b)(j:d∉b.looksAt ops)(k:∀t,(F1 t).uses d=false)(e:b.dst≠some d)(h:ZF P TE ops p (eff none d v F1)):ZF P TE ops p F1:=by
 obtain⟨f,g,i,c⟩:=h;rw[bQ a]at g i c;refine⟨f,by grind [bQ],?_,?_⟩
 ·grind [bQ,AS,om]
 rw[bQ a];obtain⟨l,n,-,o⟩:=mz c
 grind [cB,om,jZ]
theorem Pe(W:YL ops ds nm){b:Oper}(D:ops[i]? = some b)(w:vm ds b=true) :
  ∀(fuel:Nat)(listed:Array Bool)(F:Nat->AV)(l:Option Nat)(av:AV),i∈Region.ready .any ops listed->q8 ops ds F listed->DC ops listed->Yl P TE N ops b F l d av->(nm i=true->l=none)->LY P TE N ops ds K fuel (listed.setIfInBounds i true) (eff l d av F)->LY P TE N ops ds K (fuel+1) listed F:=by
 have self:∀(listed:Array Bool)(F:Nat->AV)(l:Option Nat)(av:AV),i∈Region.ready .any ops listed->q8 ops ds F listed->Yl P TE N ops b F l d av->∀X:(Nat->AV)->Prop,X (eff l d av F)->ox P TE N ops b X F:=λlisted F l av hr a c X hK=>by
  have f:=(mem_ready.1 hr).1;refine c.at_ F (Co _ _) (a.dst i b d w D f c.dst) (λs hs=>?_) X hK;obtain⟨B,⟨T,h2⟩,h3⟩:=c.mvl s hs;exact a.mv i b T s w D f B h2 h3
 intro fuel
 induction fuel with
 | zero=>
  intro listed F l av hr a E c hnm H;refine⟨ψ,λj hj=>?_⟩;by_cases n:j=i
  ·grind [zY]
  have:=ready_mono hj n;rw[H.1]at this;cases this
 | succ fuel ih=>
  intro listed F l av hr a E c hnm H;refine⟨ψ,λj hj=>?_⟩;by_cases n:j=i
  ·grind [zY]
  have B:=H.2 j (ready_mono hj n);obtain⟨R,g,q,hall⟩:=mem_ready.1 hj;obtain⟨f,oi',C,halli⟩:=mem_ready.1 hr;rw[D]at C;simp only[C2]at C;subst C;have noedge:∀k ok,ops[k]? = some ok->listed.getD k true=false->dE g k=false:=λk ok hk hkun=>by grind [cG]
  have noedge':∀k ok,ops[k]? = some ok->listed.getD k true=false->dE b k=false:=λk ok hk hkun=>by grind [cG]
  have cd:∀t,(F t).uses d=false:=a.dst i b d w D f c.dst
  unfold zY at B |-;rw[q]at B |-;simp only at B |-;by_cases G:vm ds g=true
  case neg=>
   rw[CJ G]at B |-;have hji1:AL ops j i=false:=by grind [tD]
   have hij1:AL ops i j=false:=by grind [tD]
   have hfb:ZX ops g b (nm i)=true:=by grind [YL.nf]
   obtain⟨J,r,A,g4,g5,g6,g7⟩:=WL hfb c.dst;have hmv:l=none:=by
    cases l with
    | none=>rfl
    | some s=>
     obtain⟨-,⟨T,q1⟩,q2⟩:=c.mvl s rfl
     grind
   subst hmv;refine mt (XB J r A g4 cd B) λF1 hF1=>?_
   obtain⟨v,⟨S,hrun⟩,u⟩:=hF1;have cd1:∀t,(F1 t).uses d=false:=u.clean g4 cd
   have hisz:i<listed.size:=ψ
   have hrd:ZF P TE ops i (eff none d v F1):=S i (by simp[hisz]) (by grind [bQ]) hji1;refine⟨λp hp1 L hp3=>?_,ih (listed.setIfInBounds j true) F1 none v (ready_mono hr (Ne.symm n)) (a.us W q hall u) (E.put hj) ?_ (λ_=>rfl) (by grind [Array.setIfInBounds_comm])⟩
   ·have hpi:p≠i:=ψ
    have hpl:p<ops.size:=by
     rcases Nat.lt_or_ge p ops.size with h|h
     ·exact h
     rw[show ee ops p=default by simp[ee,ID,Array.getElem?_eq_none h]]at L;cases L
    have h0:ops[p]? = some ops[p]:=ψ
    have U:=L;rw[bQ h0]at U;refine YU h0 (λhlk=>?_) cd1 (W.differ i p b _ d w U (Ne.symm hpi) D h0 c.dst) (S p (getD_set_true hp1) L hp3);have:=W.look i p b _ d w (Ne.symm hpi) D h0 c.dst hlk;exact unl f (E p _ h0 hp1 i this)
   obtain⟨dp,q1,q2,q3⟩:=hrd;rw[bQ D]at q1 q2 q3;have hdp:dp=d:=by grind [Yl.dst]
   subst hdp;rw[qq]at q3;obtain⟨M,e1,e2,e3⟩:=mz q3;subst e1;have agr1:jz (eff none dp M F1) F1 (b.looksAt ops):=om g6 cd1;have fromv:fV F1 (b.looksAt ops) M:=λe he=>by
    rcases e2 e he with h|⟨t,Y,h⟩
    all_goals grind [jZ,cB]
   have Z:M.uses dp=false:=by
    cases hu:M.uses dp with
    | false=>rfl
    | true=>
     rcases fromv dp hu with h|⟨t,_,h⟩
     all_goals grind
   refine⟨c.dst,c.lt,Z,fromv,ψ,λF' hA O _ X hK=>?_⟩;have agr2:=agr1.trans hA;unfold ox;rw[AS agr2,q2];simp only;unfold je hJ
   grind [jz.mono,jZ,Yl.lt,Ku,ch]
  rw[CK G]at B |-;have hap:b.apart ops g=true:=by grind [YL.apart]
  obtain⟨ap1,ap2,ap3⟩:=Oper.apart_spec hap;have hdl:d∉g.looksAt ops:=ap1 d c.dst;have cdj':∀o,g.dst=some o->∀t,(F t).uses o=false:=λo hdj=>a.dst j g o G q R hdj
  have cmv:∀s,l=some s->(∀t,(F t).uses s=false)/\s∉g.looksAt ops/\s∈b.looksAt ops:=λs hs=>by
   obtain⟨J,⟨T,r⟩,A⟩:=c.mvl s hs;exact⟨a.mv i b T s w D f J r A,λhl=>n ((iC A).2 i j b g D q (d9 r) hl).symm,d9 r⟩
  have cmvj:∀T s,g.guard=none->rz g.op=some (T,s)->lc ops g s=true->(∀t,(F t).uses s=false)/\s∉b.looksAt ops/\s∈g.looksAt ops:=λT s J r A=>
   ⟨a.mv j g T s G q R J r A,λhl=>n ((iC A).2 i j b g D q hl (d9 r)).symm,d9 r⟩
  have avno:∀e,e∉b.looksAt ops->(∀t,(F t).uses e=false)->av.uses e=false:=λe B h2=>by
   cases hu:av.uses e with
   | false=>rfl
   | true=>
    rcases c.from_ e hu with h|⟨t,_,h⟩
    all_goals grind
  obtain⟨mvj,o,avj,y,hKj⟩:=uP B (λo hdj t=>lY ψ (cdj' o hdj t)) (λT s J r A t=>by grind [lY]);have hdne:d≠o:=λe=>ap2 d c.dst (by rw[y.dst,e])
  have hdjl:o∉b.looksAt ops:=ap3 o y.dst;have cdj:∀t,(F t).uses o=false:=cdj' o y.dst
  have cmj:∀s,mvj=some s->(∀t,(F t).uses s=false)/\s∉b.looksAt ops/\s∈g.looksAt ops:=λs hs=>by
   obtain⟨J,⟨T,r⟩,A⟩:=y.mvl s hs
   grind
  have lookj:∀t,t∈g.looksAt ops->eff l d av F t=F t:=λt Y=>by grind [eff]
  have looki:∀t,t∈b.looksAt ops->eff mvj o avj F t=F t:=λt Y=>by grind [eff]
  have avjno:∀e,e∉g.looksAt ops->(∀t,(F t).uses e=false)->avj.uses e=false:=λe B h2=>by
   cases hu:avj.uses e with
   | false=>rfl
   | true=>
    rcases y.from_ e hu with h|⟨t,Y,h⟩
    all_goals grind
  have agrj:jz (eff l d av F) F (g.looksAt ops):=λt Y=>by grind [eff]
  refine y.at_ F agrj cdj ψ _ (ih (listed.setIfInBounds j true) (eff mvj o avj F) l av (ready_mono hr (Ne.symm n)) (a.put (λj' o' d' hm' V Q hl' O=>?_) (λj' o' T s hm' V Q hl' J r A=>?_)) (E.put hj) ?_ hnm ?_)
  ·refine avjno d' (λh=>?_) (a.dst j' o' d' hm' Q hl' O)
   grind [YL.look]
  ·exact avjno s (λh=>V ((iC A).2 j' j o' g Q q (d9 r) h)) (a.mv j' o' T s hm' Q hl' J r A)
  ·refine⟨c.dst,c.lt,c.self,λe he=>?_,c.mvl,λF' hA O hs' X hK=>c.at_ F' (λt Y=>?_) O hs' X hK⟩
   ·rcases c.from_ e he with h|⟨t,Y,h⟩
    all_goals grind
   obtain⟨a1,a2⟩:=hA t Y
   grind [eff]
  rw[Array.setIfInBounds_comm _ _ n];have:eff l d av (eff mvj o avj F)=eff mvj o avj (eff l d av F):=by grind [eff]
  grind
theorem G6:∀{b:List Nat}{X:Prop}{F:Nat->AV},VV P TE ops b X F->X/\∀p,p∈b->ZF P TE ops p F
 | [],X,F,h=>⟨h,ψ⟩
 | p::l,X,F,h=>by
  simp only[VV]at h;unfold a1h at h;cases c:(ee ops p).dst with
  | none=>grind
  | some d=>
   rw[c]at h;simp only at h;cases f:Q6 F (ee ops p) with
   | some q=>grind
   | none=>
    rw[f]at h;simp only at h;obtain⟨g,i,-,-⟩:=mz h;obtain⟨e,k,j⟩:=(show g=F d/\X/\∀p,p∈l->ZF P TE ops p F from⟨i.out.1,G6 i.out.2⟩)
    refine⟨k,λn a=>?_⟩;rcases List.mem_cons.1 a with rfl|a
    ·exact⟨d,c,f,js h λg h=>h.out.1⟩
    grind
variable{l:List (Nat × List Nat)}
theorem zd : BO l i=true↔∃p,p∈l/\p.1=i:=by grind [v4,Nat.beq_refl,BO]
theorem uF{k:Nat × List Nat} : BO (k::l) i=(Nat.beq k.1 i || BO l i):=rfl
theorem HP(b:YL ops ds nm){K:(Nat->AV)->Prop} : ∀(l:List (Nat × List Nat))(listed:Array Bool)(F:Nat->AV),K4 ops ds l=true->listed.size=ops.size->(∀j,j<ops.size->listed.getD j true = !BO l j)->q8 ops ds F listed->DC ops listed->
  Th P TE N ops ds nm l K F->LY P TE N ops ds K l.length listed F
 | [],listed,F,_,hs,E,_,_,c=>by
  refine⟨?_,c⟩;apply List.eq_nil_iff_forall_not_mem.2;intro j R;obtain⟨S,o,ho,-⟩:=mem_ready.1 R;have G:=(C6.1 ho).1;rw[E j G]at S;cases S
 | k::l,listed,F,A,hs,E,a,H,c=>by
  simp only[K4,I0]at A;obtain⟨⟨⟨⟨q1,q2⟩,q3⟩,Z⟩,q5⟩:=A;have hk:k.1<ops.size:=by simp_all
  have r:ops[k.1]? = some ops[k.1]:=ψ
  have hrf:∀i,i<ops.size->listed.getD i true=true->listed.getD i false=true:=ψ
  have hready:k.1∈Region.ready .any ops listed:=mem_ready.2 ⟨by grind [uF,Nat.beq_refl],_,r,λe he hb=>by
    have G:=b.back k.1 _ r e he hb
    grind [bQ,uF]⟩
  have B:∀j,j<ops.size->(listed.setIfInBounds k.1 true).getD j true = !BO l j:=λj R=>by
   by_cases w:j=k.1
   ·simp_all
   rw[getD_set_ne true (Ne.symm w),E j R,uF,show Nat.beq k.1 j=false by rw[<-OA,Nat.beq_eq];exact Ne.symm w];rfl
  show LY P TE N ops ds K (l.length+1) listed F;simp only[Th]at c;rw[bQ r]at c Z;have U:listed.getD k.1 true=false:=(mem_ready.1 hready).1;cases f:vm ds ops[k.1] with
  | true=>
   rw[f]at c;simp only[cond_true]at c;obtain⟨mv,d,av,hy,c,hnm⟩:=RR c (λd hd=>a.dst k.1 _ d f r U hd) (λT s g1 g2 g3=>a.mv k.1 _ T s f r U g1 g2 g3);have C:∀e∈ops[k.1].after,Region.binds .any e=true->listed.getD e.on false=true:=by grind [Go.mem_ready]
   refine Pe b r f l.length listed F mv av hready a H hy hnm (HP b l _ _ q5 (by simpa using hs) B (a.put (λO Q V g D n hl'' J=>?_) (λO Q T s g D n hl'' g1 g2 g3=>?_)) (H.put hready) c)
   ·cases hu:av.uses V with
    | false=>rfl
    | true=>
     rcases hy.from_ V hu with h|⟨t,_,h⟩
     ·have:=b.look O k.1 Q _ V g D n r J h
      grind [cG]
     rw[a.dst O Q V g n hl'' J t]at h;cases h
   cases hu:av.uses s with
   | false=>rfl
   | true=>
    rcases hy.from_ s hu with h|⟨t,_,h⟩
    ·grind [iC,d9]
    rw[a.mv O Q T s g n hl'' g1 g2 g3 t]at h;cases h
  | false=>
   rw[f]at c Z;simp only[cond_false]at c;simp only[Bool.false_or,I0]at Z;obtain⟨⟨r1,r2⟩,r3⟩:=Z;refine⟨ψ,λj R=>?_⟩;obtain⟨hjun,oj,y,C⟩:=mem_ready.1 R;have hjlt:=(C6.1 y).1;have w:j=k.1:=by grind [zd,tD]
   subst w;rw[r]at y;simp only[C2]at y;subst y;unfold zY;rw[r];simp only[f,CJ (show ¬false=true by decide)];have post:∀u,VV P TE ops k.2 (Th P TE N ops ds nm l K u) u->q8 ops ds u (listed.setIfInBounds k.1 true)->(∀p,listed.getD p false=true->vm ds (ee ops p)=true->AL ops k.1 p=false->ZF P TE ops p u)/\LY P TE N ops ds K l.length (listed.setIfInBounds k.1 true) u:=λu L W=>by
    obtain⟨X,hrd⟩:=G6 L;refine⟨λp hp1 hp2 hp3=>hrd p ?_,HP b l _ _ q5 (by simpa using hs) B W (H.put hready) X⟩;have hpl:p<ops.size:=ψ
    grind [iX,uF,v4]
   cases hlater:l.any (λj=>vm ds (ee ops j.1)) with
   | false=>
    refine mt c λu L=>post u L ⟨λO Q V g n hl'' J=>?_,λO Q T s g n hl''=>?_⟩
    all_goals grind [zd,bQ]
   | true=>
    rw[hlater]at r3;simp only[Bool.not_true,Bool.false_or,I0]at r3;obtain⟨x,hx1,q⟩:=I7.1 hlater;have Y:listed.getD x.1 true=false/\x.1<ops.size:=by
     have G:x.1<ops.size:=by
      rcases Nat.lt_or_ge x.1 ops.size with h|h
      ·exact h
      rw[show ee ops x.1=default by simp[ee,ID,Array.getElem?_eq_none h]]at q;cases q
     grind [zd]
    have M:ops[x.1]? = some ops[x.1]:=ψ
    rw[bQ M]at q;obtain⟨d,hd,hdd⟩:=QC q;have hxk:x.1≠k.1:=ψ
    refine mt (XH (d:=d) (DG r3.1) r3.2 (λe=>?_) (λhlk=>?_) (a.dst x.1 _ d q M Y.1 hd) c) λu S=>post u S.1 (a.us b r C S.2)
    ·grind [vm]
    have:=b.look x.1 k.1 _ _ d q hxk M r hd hlk
    grind [cG]
theorem Jk{sch:List (Nat × List Nat)}(h:Ky ops ds sch=true):YL ops ds (nmI sch)/\K4 ops ds sch=true/\sch.length=ops.size/\∀j,j<ops.size->BO sch j=true:=by
 unfold Ky at h;simp only[I0]at h;obtain⟨⟨p,k⟩,l⟩:=h;have C:=λj (o:j<ops.size)=>iX p o
 have r:∀(i j:Nat)(c b:Oper),i≠j->ops[i]? = some c->ops[j]? = some b->GX ops ds (nmI sch) i j=true:=λi j c b a f g=>by grind [iX,Nat.beq_eq]
 refine⟨⟨λj b o e t u=>?_,λi j c b n q a f g=>?_,λi j c b d n a f g w D=>?_,λi j c b d n q a f g w t=>?_,λi j c b n q a f g=>?_,λj b T s n o y A=>?_⟩,l,v4 k,λj o=>?_⟩
 ·grind [bQ,Nat.blt_eq]
 ·grind [bQ,GX]
 ·have:=r i j c b a f g
  unfold GX at this;rw[bQ f,bQ g,n]at this;have B:yH ops i j=true:=by grind [bQ,Nat.beq_refl,yH]
  grind
 ·grind [bQ,Nat.beq_refl,GX]
 all_goals grind [bQ,GX]
theorem za{l:List Nat} : JP l j=true↔j∈l:=by grind [v4,Nat.beq_refl,JP]
def M8{p:Nat->Prop} : ∀{l:List Nat}{i:Nat},cjL p i l->∀j,j∈i::l->p j
 | [],i,h,j,a=>by rw[z3.1 a];exact h
 | k::l,i,h,j,a=>by
  rcases List.mem_cons.1 a with rfl|a
  ·exact h.1
  exact M8 h.2 j a
theorem Mv{l:List Nat}{K:Prop}{p:Nat->Prop}(h:cjX l K p):(l=[]->K)/\∀j∈l,p j:=by
 cases l with
 | nil=>exact⟨λ_=>h,ψ⟩
 | cons i l=>exact⟨ψ,M8 h⟩
theorem wc{done:List Nat}(h:listed.size=ops.size)(b:∀j,j<ops.size->listed.getD j true=JP done j)(l:∀k∈done,k<ops.size) : j∈Region.ready .any ops listed↔j∈UW ops done:=by
 have c:∀i,listed.getD i false=JP done i:=λi=>by grind [za]
 rw[mem_ready];unfold UW;rw[S8,List.mem_range,I0];constructor
 ·grind [bQ]
 rintro⟨a,n,d⟩
 refine⟨ψ,ops[j],SC a,λe f g=>?_⟩;have:=O7.1 d e (by rw[bQ (SC a)];simpa using f)
 grind
theorem YQ{K:(Nat->AV)->Prop} : ∀(n:Nat)(done:List Nat)(listed:Array Bool)(F:Nat->AV),listed.size=ops.size->(∀j,j<ops.size->listed.getD j true=JP done j)->(∀k∈done,k<ops.size)->Ze P TE N ops K n done F->LY P TE N ops [] K n listed F
 | 0,done,listed,F,c,a,f,h=>by
  obtain⟨g,l⟩:=Mv h;have o:UW ops done=[]:=List.eq_nil_iff_forall_not_mem.2 λj b=>l j b
  exact⟨List.eq_nil_iff_forall_not_mem.2 λj b=>(by grind [wc]),g o⟩
 | n+1,done,listed,F,c,a,f,h=>by
  obtain⟨g,l⟩:=Mv h;refine⟨λo=>g (List.eq_nil_iff_forall_not_mem.2 λj b=>(by rw[<-wc c a f,o]at b;cases b)),λi t=>?_⟩;have d:=(wc c a f).1 t;have q:=l i d;have u:i<ops.size:=List.mem_range.1 (S8.1 d).1;have r:ops[i]? = some ops[i]:=ψ
  unfold zY;rw[r];simp only;rw[bQ r]at q;have w:vm [] ops[i]=false:=by grind [vm]
  rw[CJ (by rw[w];decide)];refine mt q λy A=>⟨λp _ B=>?_,YQ n (i::done) _ y (by simpa using c) (λj b=>?_) (λk C=>?_) A⟩
  ·grind [vm]
  ·by_cases e:j=i
   ·subst e
    rw[show JP (j::done) j=true from za.2 ψ];simp[c,b]
   rw[getD_set_ne true (Ne.symm e),a j b]
   grind [za]
  grind
theorem Ei(g:∀t i,TE t=some i->j7 P t i)(y:P.follows .mixedOrders=true){id:Nat}{tb:List (Nat × Nat × List Nat)}(b:rr tb id ops=true)(c:DD P TE N tb id ops K F)(A:St w0 M S0 N F a w)(B:∀F' C D,K F'->St w0 M S0 N F' C D->Q .normal C D):(Code.region id ops true).wp P Q a w:=by
 unfold rr at b;unfold DD at c;cases q:El tb id with
 | none=>grind
 | some p=>
  obtain⟨m,L⟩:=p;rw[q]at b c;simp only at b c;cases k:Nat.ble 65536 m with
  | true=>
   rw[k]at c;refine wp_region_any y ?_;have f:St w0 M S0 N F a {w with drawn:=w.drawn+1}:=by
    obtain⟨S,φ,h⟩:=A;exact⟨S,φ,h.more (w1:={w with drawn:=w.drawn+1}) (λ_ _ h=>h) ψ ⟨rfl,rfl,rfl,z5 _,λ_ _ _=>rfl,λ_ _ _ _=>rfl,λ_ _ _ _=>rfl⟩⟩
   refine wh g (ds:=[]) B ops.size (Array.replicate ops.size false) _ a _ ?_ f;exact YQ ops.size [] _ F (by simp) (λj n=>by simp[n,JP]) ψ c
  | false=>
  rw[k]at b c;simp only[cond_false]at b c;cases r:Nat.ble 256 m with
  | false=>
   grind [Jd]
  | true=>
   rw[r]at b c;simp only[cond_true,RK]at b c;generalize L.take (m - 256)=ds at b c;generalize dec (L.drop (m - 256))=sch at b c;obtain⟨E,l,e,G⟩:=Jk b;refine wp_region_any y ?_;have f:St w0 M S0 N (Ab.clr ds F) a {w with drawn:=w.drawn+1}:=by
    have O:=A.clr ds;obtain⟨S,φ,h⟩:=O;exact⟨S,φ,h.more (w1:={w with drawn:=w.drawn+1}) (λ_ _ h=>h) ψ ⟨rfl,rfl,rfl,z5 _,λ_ _ _=>rfl,λ_ _ _ _=>rfl,λ_ _ _ _=>rfl⟩⟩
   refine wh g (ds:=ds) B ops.size (Array.replicate ops.size false) _ a _ ?_ f;have u:∀d,ds.any (Nat.beq d)=true->∀t,(Ab.clr ds F t).uses d=false:=λd R t=>by
    rw[HZ];cases X:ds.any (λd=>(F t).uses d) with
    | true=>rfl
    | false=>
     simp_all
   rw[<-e];refine HP E sch _ _ l (by simp[e]) (λj n=>by simp_all) ⟨λj o d H J _ R t=>?_,λj o T s H J _ _ U V t=>u s (E.mvs j o T s H J U V) t⟩ (λj Y n Z=>by
     have W:=(C6.1 n).1
     simp_all) c
   grind [QC]
end
def iI:List (Option Nat)->Kd
 | [ag]=>mu ag
 | a=>.tup a
def wF:ResultVar->Nat
 | .tmp t=>t
 | .cell t _=>t
def H2(tmps:Array Value):ResultVar->Sem Value
 | .tmp t=>pure (tmps.getD t undef)
 | .cell a t=>do loadVar t (<-asAddr (tmps.getD a undef))
def resOne(TE:Nat->Option TI)(F:Nat->AV)(r:ResultVar)(K:Option Nat->List C->Prop):Prop:=
 match r with
 | .tmp t=>(match F t with
   | .Y .one cs=>K none cs
   | .Y .agg cs=>K (some cs.length) cs
   | _=>False)
 | .cell t T=>match TE T with
  | some i=>bif i.agg || Nat.beq i.size 1 then(match F t with
    | .Y .box cs=>bif Nat.beq cs.length i.size then K (vk i) cs else False
    | _=>False) else False
  | none=>False
def resA(TE:Nat->Option TI)(F:Nat->AV):List ResultVar->List Nat->(List (Option Nat)->List C->Prop)->Prop
 | [],_,K=>K [] []
 | r::rs,seen,K=>bif seen.any (Nat.beq (wF r)) then False else resOne TE F r λb c=>resA TE F rs (wF r::seen) λd a=>K (b::d) (c++a)
def avR:RA->AV
 | .val a cs=>.Y (mu a) cs
 | .ptr cs=>.iref cs 0
 | .fn Ok=>.fv Ok
def Jl:Nat->List RA->List (Nat × AV)
 | _,[]=>[]
 | i,A::As=>(i,avR A)::Jl (i+1) As
inductive Ve:C->C->Prop
 |rfl_ (c:C):Ve c c
 |z_:Ve .z (.s .own [])
 |own_ (rows rows':List (List C)) (hl:rows.length=rows'.length) (hk:∀(i:Nat)(r r':List C),rows[i]? = some r->rows'[i]? = some r'->r.length=r'.length)
   (hr:∀(i j:Nat)(r r':List C)(c c':C),rows[i]? = some r->rows'[i]? = some r'->r[j]? = some c->r'[j]? = some c'->Ve c c'):Ve (.s .own rows) (.s .own rows')
def YK(cs a:List C):Prop:=cs.length=a.length/\∀(j:Nat)(c b:C),cs[j]? = some c->a[j]? = some b->Ve c b
def YK.nil:YK [] []:=⟨rfl,λj c a h=>by simp at h⟩
variable{cs a:List C}
theorem YK.cons{c b:C}(h:Ve c b)(d:YK cs a):YK (c::cs) (b::a):=by
 refine⟨by simp[d.1],λj y e f g=>?_⟩;cases j with
 | zero=>grind
 | succ j=>exact d.2 j y e (by simpa using f) (by simpa using g)
theorem XK{w:World}{S Y:am}{c:C}{v:Value}(h:dw w S Y c v):∀t,Ve c t->dw w S Y t v:=by
 induction h with
 | z F a=>
  intro t l;cases l with
  | rfl_=>exact .z _ _
  | z_=>exact .nil _ _ _ tV1
 | nil F o a J=>
  intro t l;cases l with
  | rfl_=>exact .nil _ _ _ J
  | own_ d j L=>obtain rfl:j=[]:=CF (by simpa using L.symm);exact .nil _ _ _ tV1
 | suf F o g D k n q d u f J K M e A O P l E U=>
  intro t G;cases G with
  | rfl_=>exact .suf _ o g D k n q d u f J K M e A O P l E
  | own_=>exact J.elim
 | own F o g k n q d u f J K M e B A O P l E U=>
  intro t G;cases G with
  | rfl_=>exact .own _ o g k n q d u f J K M e B A O P l E
  | own_ d j L Z V=>
   have W:∀(i:Nat)(X:List C),j[i]? = some X->∃r,d[i]? = some r:=ψ
   refine .own _ .own g k n q j u f tV1 (L.symm.trans K) (λX hr'=>?_) e B A O P l ψ
   all_goals grind [List.mem_iff_getElem?]
 | v F x Q=>intro t l;cases l;exact .v _ _ Q
 | x F u Q=>intro t l;cases l;exact .x _ _ Q
 | O F g D k n q d u K M e hS E U=>intro t l;cases l;exact .O _ g D k n q d u K M e hS E
 | m F b p es y A R he T H=>intro t l;cases l;exact .m _ b p es y A R he T H
 | it F r b since c0 p seen y cur left A V R H E T L N=>intro t l;cases l;exact .it _ r b since c0 p seen y cur left A V R H E T L N
def WK(cs a:List C):Prop:=Tl cs a\/YK cs a
inductive pU(k k':Kd)(cs cs':List C):Prop
 |mk_ (h:k=k'/\WK cs cs')
def lX:∀(cs:List C),Tl cs cs
 | []=>trivial
 | c::cs=>by
  refine⟨?_,lX cs⟩;cases c with
  | s o a=>cases o<;>rfl
  | x=>trivial
  | _=>rfl
variable{k b:Kd}
def pU.mk(h1:k=b)(h2:cs=a):pU k b cs a:=by refine .mk_ ?_;exact⟨h1,.inl (h2 ▸ lX cs)⟩
def pU.wk(h1:k=b)(h2:Tl cs a):pU k b cs a:=.mk_ ⟨h1,.inl h2⟩
def pU.dk(h1:k=b)(h2:YK cs a):pU k b cs a:=.mk_ ⟨h1,.inr h2⟩
def pU.out(h:pU k b cs a):k=b/\WK cs a:=by obtain⟨h⟩:=h;exact h
theorem WK.len(h:WK cs a):cs.length=a.length:=h.elim (λh=>(xz h).1) (λh=>h.1)
theorem WK.row{w:World}{S Y:am}{c:List C}{u:Nat->Value}(a:WK cs c)(h:cD w S Y cs u):cD w S Y c u:=by
 rcases a with a|a
 ·exact HN a h
 obtain⟨f,k,l,n⟩:=h;refine⟨f,λj i b=>?_,λj b=>l j (by rw[a.1];exact b),λj o b e=>n j o (by rw[a.1];exact b) (by rw[a.1];exact e)⟩;have g:=(C4.1 b).1;have d:cs[j]? = some (cs[j]'(by rw[a.1];exact g)):=ψ
 exact XK (k j _ d) i (a.2 j _ i d b)
def Yh(TE:Nat->Option TI)(c:List ResultVar)(k:Kd)(rcs:List C):Exit->(Nat->AV)->Prop:=λe F=>
 match e with
 | .normal=>resA TE F c [] λa b=>pU (iI a) k b rcs
 | .ret=>resA TE F c [] λa b=>pU (iI a) k b rcs
 | _=>False
section
variable{P:Program}{w0 w w1:World}{M S0 S:am}{N:gw}{φ:Nat->am}{F:Nat->AV}{a:Act}{TE:Nat->Option TI}
theorem bv.resOne(h:bv w0 M S0 N S φ F a w)(n:∀t i,TE t=some i->j7 P t i){r:ResultVar}{K:Option Nat->List C->Prop}(b:resOne TE F r K) :
  ∃ag cs v,K ag cs/\bD w S (φ (wF r)) ag cs v/\(H2 a.tmps r).run P w=.ok v w:=by
 cases r with
 | tmp t=>
  have e:=h.slot t;simp only[Ab.resOne]at b;cases p:F t with
  | Y k cs=>
   rw[p]at b e;obtain⟨E,Y,G,j,H,A,l⟩:=e;cases k with
   | one=>exact⟨none,cs,tvs a t,b,⟨A,_,rfl,l.mono (λ_ _ h=>h) j⟩,rfl⟩
   | agg=>
    obtain⟨arr,q,u⟩:=A;refine⟨some cs.length,cs,tvs a t,b,⟨rfl,cz w .agg (tvs a t),?_,l.mono (λ_ _ h=>h) j⟩,rfl⟩;rw[q];have:=rM arr;rw[u]at this;exact this
   | _=>exact b.elim
  | _=>grind
 | cell t T=>
  have e:=h.slot t;simp only[Ab.resOne]at b;split at b
  case h_2=>exact b.elim
  rename_i i J;have L:=n _ _ J;cases B:(i.agg || Nat.beq i.size 1) with
  | false=>grind
  | true=>
   rw[B]at b;simp only[cond_true]at b;cases p:F t with
   | Y k cs=>
    rw[p]at b e;cases k with
    | box=>
     simp only at b;cases D:Nat.beq cs.length i.size with
     | false=>grind
     | true=>
      rw[D]at b;have O:=v4 D;obtain⟨E,Y,G,j,H,⟨g,o,q,Q⟩,l⟩:=e;have c:∀d,d<i.size->cel w g (o+d)=some (cz w .box (tvs a t) d):=λd R=>by grind [cz]
      have f:=B1 (w:=w) L B c;refine⟨_,cs,_,b,⟨by grind [tz],_,rfl,l.mono (λ_ _ h=>h) j⟩,?_⟩;have y:a.tmps.getD t undef=.pointer (some ⟨g,o,none⟩):=q;simp only[H2,y,asAddr];exact f
    | _=>exact b.elim
   | _=>grind
def P2{ag:Option Nat}{cs:List C}{v:Value}{Y:am}(h:bD w S Y ag cs v):∃u,v.cells.toList=(List.range cs.length).map u/\cD w S Y cs u/\v=mkv ag u:=by
 obtain⟨a,u,rfl,b⟩:=h;refine⟨u,?_,b,rfl⟩;rw[uI (λe=>by subst e;exact b.one (by simp at a;omega)),a]
theorem Bq{d e:am}{cs a:List C}{u g:Nat->Value}(h:cD w S d cs u)(h':cD w S e a g)(p:∀b o,d b o->¬e b o) :
  cD w S (λb o=>d b o\/e b o) (cs++a) (λj=>if j<cs.length then u j else g (j - cs.length)):=by
 obtain⟨f,q,r,t⟩:=h;obtain⟨i,k,l,n⟩:=h';refine⟨λj=>if j<cs.length then f j else i (j - cs.length),λj c y=>?_,ψ,ψ⟩
 all_goals grind
theorem bv.resA(h:bv w0 M S0 N S φ F a w)(e:∀t i,TE t=some i->j7 P t i):∀{p:List ResultVar}{seen:List Nat}{K:List (Option Nat)->List C->Prop},resA TE F p seen K->
  ∃sh cs vs u,K sh cs/\(p.mapM (H2 a.tmps)).run P w=.ok vs w/\E4 sh vs/\sh.length=p.length/\zR sh=cs.length/\
   (vs.flatMap λv=>v.cells.toList)=(List.range cs.length).map u/\(∀ag,sh=[ag]->∃v,vs=[v]/\bD w S (λb o=>∃t,t∉seen/\φ t b o) ag cs v)/\cD w S (λb o=>∃t,t∉seen/\φ t b o) cs u
 | [],seen,K,c=>⟨[],[],[],λ_=>undef,c,rfl,tV1,rfl,rfl,rfl,ψ,cD.nil _ _ _ _⟩
 | r::p,seen,K,c=>by
  simp only[Ab.resA]at c;cases d:seen.any (Nat.beq (wF r)) with
  | true=>grind
  | false=>
   rw[d]at c;simp only[cond_false]at c;have L:wF r∉seen:=λY=>by grind [Nat.beq_refl]
   obtain⟨ag,cs,v,c,q,G⟩:=h.resOne e c;obtain⟨sh,f,vs,O,Q,y,A,B,R,hcells,-,g⟩:=bv.resA h e c;obtain⟨u,D,H,k⟩:=P2 q;have T:∀b o,φ (wF r) b o->¬∃t,t∉wF r::seen/\φ t b o:=λb o U ⟨t,Z,E⟩=>h.dis _ _ ψ b o U E
   refine⟨ag::sh,cs++f,v::vs,λj=>if j<cs.length then u j else O (j - cs.length),Q,?_,?_,by simp[B],?_,?_,?_,?_⟩
   ·simp_all
   ·obtain⟨V,-⟩:=q
    cases ag with
    | none=>
     refine⟨?_,A⟩;rw[k];have J:(u 0).oneCell'=true:=H.one (by simp at V;omega);show(u 0).cells = #[u 0];cases W:u 0<;>first|(rw[W]at J;cases J;done)|rfl
    | some n=>exact⟨⟨_,by rw[k];rfl,by simp⟩,A⟩
   ·rw[we,I5,R,q.1]
   ·simp only[OD,D,hcells,I5]
    apply List.ext_getElem?
    grind
   ·intro X l
    simp only[List.cons.injEq]at l;obtain⟨rfl,rfl⟩:=l;cases vs with
    | cons _ _=>exact A.elim
    | nil=>
     have:f=[]:=CF (by simp_all);subst this;exact⟨v,rfl,by rw[List.append_nil];exact q.mono (λ_ _ h=>h) ψ⟩
   exact(Bq H g T).mono (λ_ _ h=>h) ψ
theorem Hd:∀{A:List RA}{vs:List Value}(i:Nat),EU w S A vs->∀t,(lay (Jl i A) t=.dead)\/(∃a v,i<=t/\vs[t - i]? = some v/\lay (Jl i A) t=avR a/\sV w S a v)
 | [],_,i,_,t=>.inl rfl
 | a::A,[],i,h,t=>h.elim
 | a::A,v::vs,i,h,t=>by
  simp only[Jl,lay];cases b:Nat.beq t i with
  | true=>
   have:=v4 b;subst this;exact .inr ⟨a,v,z5 _,by simp,rfl,h.1⟩
  | false=>
   have c:t≠i:=λe=>by simp_all
   rcases Hd (i+1) h.2 t with d|⟨f,g,d,j,k⟩
   all_goals grind
theorem sV.slot{A:RA}{v:Value}(h:sV w S A v){tv:Nat->Value} : cZ w S F tv NO (avR A) v:=by
 cases A with
 | val f a=>exact bD.slot h
 | ptr a=>obtain⟨g,b,u,c,d,e⟩:=h;exact⟨g,b,u,by rw[c,Nat.add_zero],d,e⟩
 | fn Ok=>exact h
def Qx:∀{A:List RA}{vs:List Value},EU w S A vs->A.length=vs.length
 | [],[],_=>rfl
 | _::_,_::_,h=>by simp[Qx h.2]
 | [],_::_,h=>h.elim
 | _::_,[],h=>h.elim
theorem U0{D : Nat -> Array Oper -> ((Nat -> AV) -> Prop) -> (Nat -> AV) -> Prop}{f : Nat}{d : Func}{c : Code}{sh : Bool}{A : List RA}{k : Kd}{rcs : List C}(K : ∀t i, TE t = some i -> j7 P t i)(hf : P.funcs[f]? = some d)(hn : (d.name == "runtime.NumGoroutine") = false)(p:d.body=some c){ck:Nat->Array Oper->Bool}(hD:BL P N ck D)(hc:iJ ck c=true)(hN:A.length+(d.ntmps - A.length)=N.n)(hkp:N.kp=[])(U:sh=true\/gl rcs)(hp:aw P TE N D c (Yh TE d.results.toList k rcs) (lay (Jl 0 A))):ah P f sh A k rcs:=by
 refine⟨⟨d,hf,hn,by rw[p];rfl⟩,λw S r hS hA=>?_⟩;have hlen:=Qx hA;refine calls_of_wp hf p ?_;have V:St w NO S N (lay (Jl 0 A)) {tmps:=r.toArray++Array.replicate (d.ntmps - r.toArray.size) undef,defers:=[]} w:=by
  refine⟨S,λ_=>NO,λt=>?_,λ_ _ _ _ _ h=>h.elim,λ_ _ _ h=>h.elim,λ_ _ _ h=>h.elim,λ_ _ h=>h,ψ,Cn _ _,by simp;omega,rfl,ψ⟩;rcases Hd 0 hA t with y|⟨A0,v,-,B,G,h4⟩
  ·rw[y];trivial
  rw[G];have hv:tvs {tmps:=r.toArray++Array.replicate (d.ntmps - r.toArray.size) undef,defers:=[]} t=v:=by
   have hlt:=(C4.1 B).1;simp only[tvs,ID]
   grind
  grind [sV.slot]
 refine kP K hD c hc _ _ _ _ w hp V λe F' J g W Z=>?_
 obtain⟨S',φ',h⟩:=Z;have fin:resA TE F' d.results.toList [] (λsh L=>pU (iI sh) k L rcs)->J.defers=[]/\∃v,(results d J.tmps).run P g=.ok v g/\(∃v',Ending.returned v=.returned v'/\bM NO w g/\∃X S1:am,(∀b o,X b o->b<g.heap.size/\w.heap.size<=b)/\
     (∀b o,S1 b o->(sh=true/\S b o)\/(b<g.heap.size/\w.heap.size<=b))/\(∀b o,X b o->¬S1 b o)/\gM g NO k rcs.length v'/\cD g S1 X rcs (cz g k v')):=by
  intro hr;obtain⟨shs,L,a,u,M,hrun,q,hln,R,hcells,l,O⟩:=h.resA K hr;obtain⟨rfl,hwk⟩:=M.out;refine⟨h.defers,?_⟩;have H:(results d J.tmps).run P g=.ok (if h:a.toArray.size=1 then a.toArray[0] else .tuple a.toArray) g:=by
   have e:results d J.tmps=(do let r <-d.results.mapM (H2 J.tmps);pure (if h:r.size=1 then r[0] else .tuple r)):=by
    unfold results
    congr 1
   rw[e,<-Array.toArray_toList (xs:=d.results),List.mapM_toArray]
   simp_all
  refine⟨_,H,_,rfl,h.old,λb o=>∃t,φ' t b o,λb o=>(sh=true/\S' b o)\/(S' b o/\w.heap.size<=b),λb o ⟨t,p⟩=>⟨(h.ex t b o p).1,(h.ex t b o p).2.resolve_right (λh=>h)⟩,λb o p=>?_,λb o ⟨t,p⟩ hb'=>h.disS t b o p ψ,?_⟩
  ·rcases p with⟨y,B⟩|⟨y,B⟩
   ·rcases(h.sup b o B).2 with G|G|G
    ·grind
    ·exact .inr ⟨(h.sup b o B).1,G⟩
    exact G.elim
   exact .inr ⟨(h.sup b o y).1,B⟩
  have Q:gM g NO (iI shs) L.length (if h:a.toArray.size=1 then a.toArray[0] else .tuple a.toArray)/\cD g S' (λb o=>∃t,φ' t b o) L (cz g (iI shs) (if h:a.toArray.size=1 then a.toArray[0] else .tuple a.toArray)):=by
   have E:∀b o,(∃t,t∉([]:List Nat)/\φ' t b o)->∃t,φ' t b o:=ψ
   match shs,q,l,R with
   | [],q,_,R=>
    cases a with
    | cons _ _=>exact q.elim
    | nil=>
     have:L=[]:=ψ
     subst this;exact⟨⟨_,rfl,tV1,rfl⟩,cD.nil _ _ _ _⟩
   | [T],_,l,_=>
    obtain⟨v,rfl,hv⟩:=l T rfl;have:=(hv.mono (λ_ _ h=>h) E).slot (F:=F') (tv:=tvs J);obtain⟨X1,Y,y,B,G,h4,h5⟩:=this;refine⟨?_,h5.mono (λ_ _ h=>h) B⟩;cases T<;>exact h4
   | T::ag2::sh,q,_,R=>
    have hsz:¬a.toArray.size=1:=by
     match a,q with
     | [],q=>simp
     | [v],q=>cases T<;>cases ag2<;>exact q.2.elim
     | _::_::_,_=>simp
    rw[dif_neg hsz];refine⟨⟨_,rfl,q,R⟩,(O.mono (λ_ _ h=>h) E).congr λj hj=>?_⟩;simp only[cz,iI,oT,hcells];simp[List.getD,hj]
  replace Q:=CL Q.1 (hwk.row Q.2);refine⟨by grind [WK.len],?_⟩;rcases U with y|y
  ·exact Q.2.mono ψ (λ_ _ h=>h)
  exact(Q.2.fresh y).mono (λ_ _ h=>h.elim) (λ_ _ h=>h)
 cases e with
 | normal=>exact fin W
 | ret=>exact fin W
 | _=>exact W.elim
end
def DF(P:Program)(TE:Nat->Option TI)(N:gw)(tb:List (Nat × Nat × List Nat))(id:Nat)(ops:Array Oper)(K:(Nat->AV)->Prop)(F:Nat->AV):Prop:=
 match El tb (id+1048576) with
 | some (t,offs)=>yl t offs (DD P TE N tb id ops K) F
 | none=>DD P TE N tb id ops K F
variable{P:Program}
def wS{TE:Nat->Option TI}(a:∀t i,TE t=some i->j7 P t i)(e:P.follows .mixedOrders=true)(N:gw)(tb:List (Nat × Nat × List Nat)):BL P N (rr tb) (DF P TE N tb):=
 λ_ _ b _ _ _ _ _ _ _ _ c f g=>by
  unfold DF at c;split at c
  ·obtain⟨j,h,d⟩:=D7 c f
   exact Ei a e b h d g
  exact Ei a e b c f g
def zI:C:=.v (.int .i64 0)
def R2:List (Nat × Nat × TI)->Nat->Option TI
 | [],_=>none
 | p::l,t=>bif Nat.beq t p.1 || Nat.beq t p.2.1 then some p.2.2 else R2 l t
def ZB(P:Program):List (Nat × Nat × TI)->Prop
 | []=>True
 | p::l=>(j7 P p.1 p.2.2/\j7 P p.2.1 p.2.2)/\ZB P l
def LL{P:Program} : ∀{l:List (Nat × Nat × TI)},ZB P l->∀t i,R2 l t=some i->j7 P t i
 | [],_,t,i,h=>by cases h
 | p::l,b,t,i,h=>by
  simp only[R2]at h;cases a:(Nat.beq t p.1 || Nat.beq t p.2.1) with
  | true=>
   rw[a]at h;simp only[cond_true,C2]at h;subst h;simp only[OC]at a;rcases a with e|e
   ·rw[v4 e];exact b.1.1
   rw[v4 e];exact b.1.2
  | false=>rw[a]at h;exact LL b.2 t i h
def a1v:TypeDesc->Prop
 | .struct _=>False
 | .array _ _=>False
 | _=>True
def stF:TypeDesc->Option (List (Nat × Nat))
 | .struct fs=>some (fs.toList.map (λf=>(f.offset,f.type)))
 | _=>none
section
variable{P:Program}{t e:Nat}{i:TI}
def tSc{d:TypeDesc}(k:i.kind=.sc d:=by rfl)(h:P.underlying t=some d:=by kernel_rfl)(a:(P.info? t).map (λx=>(x.zero.map (·.cells.toList),x.size,x.bytes))=some (some (i.zero.map cval),i.size,i.bytes):=by kernel_rfl)(z:m0 i.zero:=by repeat' first|exact tV1|refine CL rfl ?_)(n:a1v d:=by trivial):j7 P t i:=⟨a,z,by rw[k];refine⟨h,?_⟩;revert n;cases d<;>exact id⟩
def tSl(k:i.kind=.sl e:=by rfl)(h:P.underlying t=some (.slice e):=by kernel_rfl)(a:(P.info? t).map (λx=>(x.zero.map (·.cells.toList),x.size,x.bytes))=some (some (i.zero.map cval),i.size,i.bytes):=by kernel_rfl)(z:m0 i.zero:=by repeat' first|exact tV1|refine CL rfl ?_):j7 P t i:=⟨a,z,by rw[k];exact h⟩
def tSt{f:List (Nat × Nat)}(k:i.kind=.st f:=by rfl)(h:(P.underlying t).bind stF=some f:=by kernel_rfl)(a:(P.info? t).map (λx=>(x.zero.map (·.cells.toList),x.size,x.bytes))=some (some (i.zero.map cval),i.size,i.bytes):=by kernel_rfl)(z:m0 i.zero:=by repeat' first|exact tV1|refine CL rfl ?_):j7 P t i:=⟨a,z,by
  rw[k];obtain⟨d,b,c⟩:=Option.bind_eq_some_iff.1 h;cases d<;>cases c
  exact⟨_,b,rfl⟩⟩
def tMp{v:Value}(k:i.kind=.mp 3 e v:=by rfl)(h:P.underlying t=some (.map 3 e):=by kernel_rfl)(d:P.underlying 3=some (.int .i64):=by kernel_rfl)(a:(P.info? t).map (λx=>(x.zero.map (·.cells.toList),x.size,x.bytes))=some (some (i.zero.map cval),i.size,i.bytes):=by kernel_rfl)(z:m0 i.zero:=by repeat' first|exact tV1|refine CL rfl ?_)(b:(P.info? e).bind (·.zero)=some v:=by kernel_rfl)(c:v.oneCell'=true:=by rfl):j7 P t i:=⟨a,z,by rw[k];exact⟨h,d,b,c⟩⟩
end
def tab:List (Nat × Nat × TI):=[(3,2,⟨1,8,[zI],.sc (.int .i64)⟩),(4,4,⟨1,1,[.v (.bool false)],.sc .bool⟩),(5,6,⟨1,1,[.v (.int .u8 0)],.sc (.int .u8)⟩),(7,8,⟨4,24,[zI,zI,.v (.bool false),.v (.int .u8 0)],.st [(0,2),(1,3),(2,4),(3,6)]⟩),(9,10,⟨1,16,[.v (.string ⟨#[]⟩)],.sc .string⟩),(11,11,⟨1,16,[.v (.string ⟨#[]⟩)],.sc .string⟩),(12,349,⟨1,8,[.v (.int .u64 0)],.sc (.int .u64)⟩),(13,14,⟨2,24,[.v (.string ⟨#[]⟩),.v (.int .u64 0)],.st [(0,9),(1,12)]⟩),(21,462,⟨1,4,[.v (.int .i32 0)],.sc (.int .i32)⟩),(22,22,⟨1,24,[.z],.sl 31⟩),(23,23,⟨1,24,[.z],.sl 4⟩),(24,25,⟨2,48,[.z,.z],.st [(0,22),(1,23)]⟩),(26,26,⟨1,24,[.z],.sl 425⟩),(27,28,⟨1,24,[.z],.st [(0,26)]⟩),(29,30,⟨3,72,[.z,.z,.z],.st [(0,25),(2,28)]⟩),(31,31,⟨1,24,[.z],.sl 3⟩),(32,33,⟨5,104,[.z,.z,.z,zI,.z],.st [(0,30),(3,3),(4,31)]⟩),(34,34,⟨1,24,[.z],.sl 271⟩),(35,35,⟨1,24,[.z],.sl 273⟩),(36,36,⟨1,24,[.z],.sl 275⟩),(37,37,⟨1,24,[.z],.sl 277⟩),(38,38,⟨1,24,[.z],.sl 227⟩),(39,39,⟨1,24,[.z],.sl 344⟩),(40,41,⟨2,48,[.z,.z],.st [(0,39),(1,22)]⟩),(42,42,⟨1,24,[.z],.sl 367⟩),(43,44,⟨2,32,[zI,.z],.st [(0,3),(1,42)]⟩),(45,46,⟨3,40,[zI,zI,.z],.st [(0,3),(1,3),(2,31)]⟩),(47,48,⟨5,56,[zI,zI,.z,zI,zI],.st [(0,46),(3,3),(4,3)]⟩),(49,50,⟨24,400,[.z,.z,.z,zI,.z,.z,.z,.z,.z,.z,.z,.z,zI,.z,zI,zI,zI,zI,.v (.bool false),zI,zI,.z,zI,zI],.st [(0,33),(5,34),(6,35),(7,36),(8,37),(9,38),(10,41),(12,44),(14,3),(15,3),(16,3),(17,3),(18,4),(19,48)]⟩),(51,51,⟨1,24,[.z],.sl 233⟩),(52,53,⟨2,32,[zI,.z],.st [(0,3),(1,51)]⟩),(54,55,⟨26,432,[.z,.z,.z,zI,.z,.z,.z,.z,.z,.z,.z,.z,zI,.z,zI,zI,zI,zI,.v (.bool false),zI,zI,.z,zI,zI,zI,.z],.st [(0,50),(24,53)]⟩),(56,57,⟨5,40,[zI,zI,zI,zI,zI],.st [(0,3),(1,3),(2,3),(3,3),(4,3)]⟩),(59,59,⟨2,48,[.z,.z],.st [(0,22),(1,23)]⟩),(60,60,⟨1,24,[.z],.sl 250⟩),(61,62,⟨1,24,[.z],.st [(0,60)]⟩),(63,64,⟨3,72,[.z,.z,.z],.st [(0,59),(2,62)]⟩),(65,66,⟨5,104,[.z,.z,.z,zI,.z],.st [(0,64),(3,3),(4,31)]⟩),(67,67,⟨1,24,[.z],.sl 242⟩),(68,68,⟨1,24,[.z],.sl 197⟩),(69,69,⟨1,24,[.z],.sl 247⟩),(70,70,⟨1,24,[.z],.sl 110⟩),(71,71,⟨1,24,[.z],.sl 145⟩),(72,72,⟨1,24,[.z],.sl 253⟩),(73,74,⟨2,48,[.z,.z],.st [(0,72),(1,22)]⟩),(75,75,⟨1,24,[.z],.sl 142⟩),(76,77,⟨2,32,[zI,.z],.st [(0,3),(1,75)]⟩),(78,78,⟨3,40,[zI,zI,.z],.st [(0,3),(1,3),(2,31)]⟩),(79,80,⟨5,56,[zI,zI,.z,zI,zI],.st [(0,78),(3,3),(4,3)]⟩),(81,82,⟨24,400,[.z,.z,.z,zI,.z,.z,.z,.z,.z,.z,.z,.z,zI,.z,zI,zI,zI,zI,.v (.bool false),zI,zI,.z,zI,zI],.st [(0,66),(5,67),(6,68),(7,69),(8,70),(9,71),(10,74),(12,77),(14,3),(15,3),(16,3),(17,3),(18,4),(19,80)]⟩),(83,83,⟨1,24,[.z],.sl 172⟩),(84,85,⟨2,32,[zI,.z],.st [(0,3),(1,83)]⟩),(86,87,⟨26,432,[.z,.z,.z,zI,.z,.z,.z,.z,.z,.z,.z,.z,zI,.z,zI,zI,zI,zI,.v (.bool false),zI,zI,.z,zI,zI,zI,.z],.st [(0,82),(24,85)]⟩),(91,91,⟨5,40,[zI,zI,zI,zI,zI],.st [(0,3),(1,3),(2,3),(3,3),(4,3)]⟩),(109,110,⟨4,32,[zI,zI,zI,zI],.st [(0,3),(1,3),(2,3),(3,3)]⟩),(141,142,⟨3,24,[zI,zI,zI],.st [(0,3),(1,3),(2,3)]⟩),(144,145,⟨1,24,[.z],.st [(0,22)]⟩),(171,172,⟨2,32,[zI,.z],.st [(0,3),(1,31)]⟩),(191,191,⟨1,24,[.z],.sl 199⟩),(196,197,⟨3,24,[zI,zI,zI],.st [(0,3),(1,3),(2,3)]⟩),(198,199,⟨2,16,[zI,zI],.st [(0,3),(1,3)]⟩),(227,227,⟨1,24,[.z],.st [(0,22)]⟩),(233,233,⟨2,32,[zI,.z],.st [(0,3),(1,31)]⟩),(241,242,⟨2,16,[zI,zI],.st [(0,3),(1,3)]⟩),(246,247,⟨3,24,[zI,zI,zI],.st [(0,3),(1,3),(2,3)]⟩),(249,250,⟨2,16,[zI,zI],.st [(0,3),(1,3)]⟩),(253,253,⟨1,24,[.z],.sl 255⟩),(254,255,⟨2,16,[zI,zI],.st [(0,3),(1,3)]⟩),(259,260,⟨4,32,[zI,zI,zI,zI],.st [(0,3),(1,3),(2,3),(3,3)]⟩),(271,408,⟨2,16,[zI,zI],.st [(0,3),(1,3)]⟩),(273,275,⟨3,24,[zI,zI,zI],.st [(0,3),(1,3),(2,3)]⟩),(277,277,⟨4,32,[zI,zI,zI,zI],.st [(0,3),(1,3),(2,3),(3,3)]⟩),(285,285,⟨1,8,[.v (.map none)],.mp 3 4 (.bool false)⟩),(290,290,⟨1,8,[.v (.map none)],.mp 3 3 (.int .i64 0)⟩),(344,344,⟨1,24,[.z],.sl 408⟩),(367,367,⟨3,24,[zI,zI,zI],.st [(0,3),(1,3),(2,3)]⟩),(425,425,⟨2,16,[zI,zI],.st [(0,3),(1,3)]⟩),(428,428,⟨1,8,[zI],.sc (.int .i64)⟩),(435,435,⟨1,4,[.v (.int .u32 0)],.sc (.int .u32)⟩),(437,442,⟨1,8,[.v (.int .u64 0)],.sc (.int .u64)⟩),(455,456,⟨0,0,[],.st [(0,454)]⟩),(458,459,⟨1,1,[.v (.int .u8 0)],.sc (.int .u8)⟩),(463,463,⟨1,4,[.v (.int .i32 0)],.sc (.int .i32)⟩)]
abbrev zzA:=ah Tryz.prog
abbrev zzB:=aX Tryz.prog
set_option maxRecDepth 100000 in
def Zo:ZB Tryz.prog tab:=by repeat' first|exact tV1|refine CL (CL ?_ ?_) ?_|exact tSl|exact tSt|exact tSc|exact tMp
def TE:Nat->Option TI:=R2 tab
def sR:∀t i,TE t=some i->j7 Tryz.prog t i:=LL Zo
def Zf:C->Value->C
 | .s .own rows,v=>.s (.tag v) rows
 | .s .suf rows,v=>.s (.tagS v) rows
 | c,_=>c
def Fu(u:Nat->Value):Nat->List C->List C
 | _,[]=>[]
 | j,c::cs=>Zf c (u j)::Fu u (j+1) cs
def EE(u:Nat->Nat->Value):Nat->List MA->List (Nat × AV)
 | _,[]=>[]
 | i,.val a cs::A=>(i,.Y (mu a) cs)::EE u (i+1) A
 | i,.mut a cs::A=>(i,.Y (mu a) (Fu (u i) 0 cs))::EE u (i+1) A
 | i,.ptr cs::A=>(i,.Y .box cs)::EE u (i+1) A
def R1(p:Nat->Value):Nat->List MA->List (Nat × Value)
 | _,[]=>[]
 | i,.ptr _::A=>(i,p i)::R1 p (i+1) A
 | i,_::A=>R1 p (i+1) A
def KW:Nat->List MA->List (Nat × Nat)->List (Option Nat)
 | i,.val _ _::A,_::pl=>none::KW (i+1) A pl
 | i,.mut _ _::A,p::pl=>some p.1::KW (i+1) A pl
 | i,.ptr _::A,_::pl=>some i::KW (i+1) A pl
 | _,_,_=>[]
def Qe:List (Option Nat)->Bool
 | []=>true
 | none::l=>Qe l
 | some t::l=>l.all (λx=>match x with|some a=>!Nat.beq t a|none=>true)&&Qe l
def sles:List (Option Nat)->List Nat
 | []=>[]
 | none::l=>sles l
 | some t::l=>t::sles l
def Bk1(v:Value)(c y o:C):Prop:=
 match c with
 | .s .own _=>(match y with|.s (.tag v') rows=>v'=v/\o=.s .own rows|_=>False)
 | .s (.tag _) _=>False
 | .s .suf _=>(match y with|.s (.tagS v') rows=>v'=v/\o=.s .suf rows|_=>False)
 | .s (.tagS _) _=>False
 | .m _=>False
 | .it _ _=>False
 | c=>o=c
def YJ(u:Nat->Value):Nat->List C->List C->List C->Prop
 | _,[],_,o=>o=[]
 | j,c::cs,y::xs,o::os=>Bk1 (u j) c y o/\YJ u (j+1) cs xs os
 | _,_,_,_=>False
def kf(u:Nat->Nat->Value)(F:Nat->AV):Nat->List MA->List (Nat × Nat)->List MA->Prop
 | _,[],_,[]=>True
 | i,.val _ _::A,_::pl,.val _ _::B=>kf u F (i+1) A pl B
 | i,.mut ag cs::A,p::pl,.mut a out::B=>(a=ag/\match F p.1 with|.Y _ xs=>YJ (u i) 0 cs (xs.drop p.2) out|_=>False)/\kf u F (i+1) A pl B
 | i,.ptr _::A,_::pl,.ptr out::B=>(match F i with|.Y .box xs=>xs=out|_=>False)/\kf u F (i+1) A pl B
 | _,_,_,_=>False
inductive bc(k k':Kd)(cs cs':List C)(Q:Prop):Prop
 |mk_ (h:k=k'/\cs=cs'/\Q)
theorem bc.mk{Q:Prop}(h1:k=b)(h2:cs=a)(c:Q):bc k b cs a Q:=by refine .mk_ ?_;grind
def CO:type_of% @bc.mk:=@bc.mk
def bc.out{Q:Prop}(h:bc k b cs a Q):k=b/\cs=a/\Q:=by obtain⟨h⟩:=h;exact h
def Zy(TE:Nat->Option TI)(d:List ResultVar)(k:Kd)(rcs:List C)(u:Nat->Nat->Value)(A B:List MA)(a:List (Nat × Nat)):Exit->(Nat->AV)->Prop:=λe F=>
 match e with
 | .normal=>resA TE F d (sles (KW 0 A a)) λb c=>bc (iI b) k c rcs (kf u F 0 A a B)
 | .ret=>resA TE F d (sles (KW 0 A a)) λb c=>bc (iI b) k c rcs (kf u F 0 A a B)
 | _=>False
section
variable{P:Program}{w0 w w1:World}{M S0 S:am}{N:gw}{φ:Nat->am}{F:Nat->AV}{a:Act}{TE:Nat->Option TI}
theorem dw.tag{Y:am}{c:C}{v:Value}(h:dw w S Y c v):dw w S Y (Zf c v) v:=by
 cases h with
 | nil _ o a l=>cases o with
  | own=>exact .nil _ _ _ rfl
  | suf=>exact .nil _ _ _ rfl
  | _=>exact .nil _ _ _ l
 | own _ o g k n i d u f l B D e A q F G H t=>cases o with
  | own=>exact .own _ _ g k n i d u f rfl B D e A q F G H t
  | O=>exact l.elim
  | tag z=>exact .own _ _ g k n i d u f l B D e A q F G H t
  | suf=>exact l.elim
  | tagS z=>exact l.elim
 | suf _ o g y k n i d u f l B D e q F G H t=>cases o with
  | suf=>exact .suf _ _ g y k n i d u f rfl B D e q F G H t
  | tagS z=>exact .suf _ _ g y k n i d u f l B D e q F G H t
  | own=>exact l.elim
  | O=>exact l.elim
  | tag z=>exact l.elim
 | v _ x K=>exact .v _ _ K
 | x _ u K=>exact .x _ _ K
 | z _ a=>exact .z _ _
 | O _ g y k n i d u B D e N t=>exact .O _ g y k n i d u B D e N t
 | m _ b j O p q L P M E=>exact .m _ b j O p q L P M E
 | it _ r b since Q j seen p cur left q R L E t M T J=>exact .it _ r b since Q j seen p cur left q R L E t M T J
variable{rows:List (List C)}{Y:am}
def dw.untag{z v:Value}(h:dw w S Y (.s (.tag z) rows) v):v=z/\dw w S Y (.s .own rows) v:=by
 cases h with
 | nil _ o a b=>exact⟨Eq.symm b,.nil _ _ _ tV1⟩
 | own _ o g k n c rows u f b i j d e l p q r t=>exact⟨Eq.symm b,.own _ _ g k n c rows u f tV1 i j d e l p q r t⟩
 | suf _ o g y k n c rows u f b=>exact b.elim
def dw.untagS{z v:Value}(h:dw w S Y (.s (.tagS z) rows) v):v=z/\dw w S Y (.s .suf rows) v:=by
 cases h with
 | nil _ o a b=>exact⟨Eq.symm b,.nil _ _ _ tV1⟩
 | own _ o g k n c rows u f b=>exact b.elim
 | suf _ o g e k n c rows u f b i j d l p q r t=>exact⟨Eq.symm b,.suf _ _ g e k n c rows u f tV1 i j d l p q r t⟩
theorem ug(u:Nat->Value):∀(j:Nat)(cs:List C),(Fu u j cs).length=cs.length
 | _,[]=>rfl
 | j,c::cs=>by simp[Fu,ug u (j+1) cs]
theorem KH(u:Nat->Value):∀(a:Nat)(cs:List C)(j:Nat),(Fu u a cs)[j]? = (cs[j]?).map λc=>Zf c (u (a+j))
 | _,[],j=>by simp[Fu]
 | a,c::cs,0=>by simp[Fu]
 | a,c::cs,j+1=>by simp only[Fu,List.getElem?_cons_succ];rw[KH u (a+1) cs j,show a+1+j=a+(j+1) by omega]
variable{u:Nat->Value}
theorem cD.tag{cs:List C}(h:cD w S Y cs u):cD w S Y (Fu u 0 cs) u:=by
 obtain⟨f,i,b,d⟩:=h;refine⟨f,λj c a=>?_,λj a=>b j (by grind [ug]),λj e a g=>d j e (by grind [ug]) (by grind [ug])⟩
 grind [KH,dw.tag]
def celF(v:Value)(j:Nat):Value:=v.cells.toList.getD j undef
def bD.celF{Y:am}{ag:Option Nat}{cs:List C}{v:Value}(h:bD w S Y ag cs v):cs.length=ag.getD 1/\v=mkv ag (celF v)/\cD w S Y cs (celF v):=by
 obtain⟨b,u,c,d⟩:=h;have g:=uI (ag:=ag) (u:=u) (λe=>by subst e;exact d.one (by simp at b;omega));have f:∀j,j<ag.getD 1->Ab.celF v j=u j:=λj a=>by
  unfold Ab.celF;rw[c,g];simp[List.getD,a]
 exact⟨b,c.trans (lM λj a=>(f j a).symm),d.congr λj a=>f j ω⟩
def Y8(u:Nat->Nat->Value)(i:Nat):MA->AV
 | .val a cs=>.Y (mu a) cs
 | .mut a cs=>.Y (mu a) (Fu (u i) 0 cs)
 | .ptr cs=>.Y .box cs
theorem GU{u:Nat->Nat->Value} : ∀{A:List MA}{vs:List Value}{V:Nat->am}(i:Nat),U6 w S V A vs->∀t,(lay (EE u i A) t=.dead)\/(∃m v,i<=t/\vs[t - i]? = some v/\A[t - i]? = some m/\lay (EE u i A) t=Y8 u t m/\tM w S (V (t - i)) m v)
 | [],_,_,i,_,t=>.inl rfl
 | m::A,[],_,i,h,t=>h.elim
 | m::A,v::vs,V,i,h,t=>by
  have b:lay (EE u i (m::A)) t=bif Nat.beq t i then Y8 u i m else lay (EE u (i+1) A) t:=by cases m<;>rfl
  rw[b];cases c:Nat.beq t i with
  | true=>
   have:=v4 c;subst this;exact .inr ⟨m,v,z5 _,by simp,by simp,rfl,by rw[Nat.sub_self];exact h.1⟩
  | false=>
   have d:t≠i:=λe=>by simp_all
   rcases GU (i+1) h.2 t with a|⟨f,g,a,j,k,l,n⟩
   ·exact .inl a
   grind
def H6:∀{A:List MA}{vs:List Value}{V:Nat->am},U6 w S V A vs->A.length=vs.length
 | [],[],_,_=>rfl
 | _::_,_::_,_,h=>by simp[H6 h.2]
 | [],_::_,_,h=>h.elim
 | _::_,[],_,h=>h.elim
theorem Rl{p:Nat->Value} : ∀{A:List MA}{i:Nat}{q:Nat × Value},q∈R1 p i A->i<=q.1/\q.1<i+A.length/\q.2=p q.1
 | [],_,_,h=>by simp[R1]at h
 | m::A,i,q,h=>by
  have a:q∈R1 p (i+1) A->i<=q.1/\q.1<i+(m::A).length/\q.2=p q.1:=λh=>by
   obtain⟨b,c,d⟩:=Rl h
   grind
  cases m with
  | ptr e=>
   rcases List.mem_cons.1 h with rfl|h
   all_goals grind
  | val=>exact a h
  | «mut»=>exact a h
theorem QX{p:Nat->Value} : ∀{A:List MA}{i n:Nat}{cs:List C},A[n]? = some (.ptr cs)->(i+n,p (i+n))∈R1 p i A
 | [],_,n,_,h=>by simp at h
 | m::A,i,0,cs,h=>by grind [R1]
 | m::A,i,n+1,cs,h=>by
  have a:=QX (p:=p) (i:=i+1) (show A[n]? = some (.ptr cs) by simpa using h);rw[show i+1+n=i+(n+1) by omega]at a;cases m with
  | ptr cs=>exact IA _ a
  | val=>exact a
  | «mut»=>exact a
def YV(φ:Nat->am):Option (Option Nat)->am
 | some (some t)=>φ t
 | _=>NO
theorem Ji{u:Nat->Value} : ∀{b:Nat}{cs xs a:List C},YJ u b cs xs a->cs.length=a.length/\∀(j:Nat)(c o:C),cs[j]? = some c->a[j]? = some o->∃y,(gj c=true->xs[j]? = some y)/\Bk1 (u (b+j)) c y o
 | _,[],xs,a,h=>by grind [YJ]
 | _,_::_,[],_,h=>by grind [YJ]
 | _,_::_,_::_,[],h=>by grind [YJ]
 | b,d::cs,e::xs,f::a,h=>by
  simp only[YJ]at h;obtain⟨g,i⟩:=Ji h.2
  grind
theorem W6{S' t:am}{F:Nat->Value}{cs xs A:List C}{off:Nat}(i:bB S w w1)(n:∀b o,S b o->S' b o)(h:cD w S Y cs u)(h':cD w1 S' t xs F)(G:YJ u 0 cs (xs.drop off) A):cD w1 S' t A u:=by
 obtain⟨f,H,R,T⟩:=h;obtain⟨B,p,J,K⟩:=h';obtain⟨U,L⟩:=Ji G;refine⟨λj b o=>off+j<xs.length/\B (off+j) b o,λj c D=>?_,ψ,ψ⟩;have M:=(C4.1 D).1;have k:cs[j]? = some cs[j]:=ψ
 obtain⟨y,d,a⟩:=L j _ c k D;rw[CE]at a;have g:=H j _ k;generalize cs[j]=q at k a g d;have keep:gj q=false->c=q->dw w1 S' (λb o=>off+j<xs.length/\B (off+j) b o) c (u j):=λN e=>by
  subst e;exact((g.bare (F':=NO) N).keep i (λ_ _ h=>h.elim)).mono n (λ_ _ h=>h.elim)
 cases q with
 | v V=>exact keep rfl a
 | x=>exact keep rfl a
 | z=>exact keep rfl a
 | m W=>exact a.elim
 | it=>exact a.elim
 | s o E=>
  cases o with
  | O=>exact keep rfl a
  | tag z=>exact a.elim
  | tagS z=>exact a.elim
  | suf=>
   have d:=d rfl;rw[List.getElem?_drop]at d;have r:=(C4.1 d).1;simp only[Bk1]at a;split at a
   case h_2=>exact a.elim
   rename_i O l;obtain⟨rfl,rfl⟩:=a;obtain⟨P,Q⟩:=(p _ _ d).untagS
   simp_all
  | own=>
   have d:=d rfl;rw[List.getElem?_drop]at d;have r:=(C4.1 d).1;simp only[Bk1]at a;split at a
   case h_2=>exact a.elim
   rename_i O l;obtain⟨rfl,rfl⟩:=a;obtain⟨P,Q⟩:=(p _ _ d).untag
   simp_all
theorem bv.backs{C:World}{S':am}{u:Nat->Nat->Value}(h:bv w0 M S0 N S' φ F a C)(d:bB S w C)(f:∀b o,S b o->S' b o):∀{A:List MA}{g:List (Nat × Nat)}{B:List MA}{vs:List Value}{V:Nat->am}{i:Nat},U6 w S V A vs->
  (∀j v,vs[j]? = some v->u (i+j)=celF v)->(∀j v cs,vs[j]? = some v->A[j]? = some (.ptr cs)->tvs a (i+j)=v)->kf u F i A g B->Gc C S' (λn=>YV φ (KW i A g)[n]?) B vs
 | [],g,B,vs,V,i,l,r,t,c=>by
  cases vs with
  | cons _ _=>exact l.elim
  | nil=>cases B with
   | nil=>trivial
   | cons _ _=>grind [kf]
 | m::A,[],B,vs,V,i,l,r,t,c=>by grind [kf]
 | m::A,p::g,[],vs,V,i,l,r,t,c=>by grind [kf]
 | m::A,p::g,D::B,[],V,i,l,r,t,c=>l.elim
 | m::A,p::g,D::B,v::vs,V,i,l,r,t,c=>by
  have next:kf u F (i+1) A g B->Gc C S' (λn=>YV φ (KW (i+1) A g)[n]?) B vs:=λc=>
   bv.backs h d f l.2 (λj v T=>by rw[show i+1+j=i+(j+1) by omega];simp_all)
    (λj v cs T X=>by rw[show i+1+j=i+(j+1) by omega];simp_all) c
  cases m with
  | val U cs=>
   cases D with
   | val y W=>simp only[kf]at c;exact⟨tV1,next c⟩
   | ptr=>grind [kf]
   | «mut»=>grind [kf]
  | «mut» U cs=>
   cases D with
   | val=>grind [kf]
   | ptr=>grind [kf]
   | «mut» y out=>
    simp only[kf]at c;obtain⟨⟨rfl,e⟩,G⟩:=c;refine⟨?_,next G⟩;have E:=bD.celF (show bD w S (V 0) y cs v from l.1);have H:u i=celF v:=r 0 v (by simp);have q:=h.slot p.1;cases J:F p.1 with
    | Y k xs=>
     rw[J]at e q;simp only at e;rw[H]at e;obtain⟨O,Y,P,K,Q,R,L⟩:=q;refine⟨by grind [Ji],celF v,E.2.1,?_⟩;exact(W6 d f E.2.2 L e).mono (λ_ _ h=>h) (λb o c=>by simpa[KW,YV] using K b o c)
    | _=>grind
  | ptr cs=>
   cases D with
   | val=>grind [kf]
   | «mut»=>grind [kf]
   | ptr out=>
    simp only[kf]at c;refine⟨?_,next c.2⟩;have E:tvs a i=v:=t 0 v cs (by simp) (by simp);have q:=h.slot i;cases J:F i with
    | Y k xs=>
     cases k with
     | box=>
      rw[J]at c q;have:=c.1;simp only at this;subst this;rw[E]at q;obtain⟨O,Y,P,K,Q,R,L⟩:=q;exact⟨O,Y,λb o c=>by simpa[KW,YV] using P b o c,λb o c=>by simpa[KW,YV] using K b o c,Q,R,L⟩
     | _=>grind
    | _=>grind
theorem y2:∀{l:List (Option Nat)},Qe l=true->∀(i a t c:Nat),i≠a->l[i]? = some (some t)->l[a]? = some (some c)->t≠c
 | [],_,i,a,t,c,_,h,_=>by simp at h
 | none::l,b,i,a,t,c,f,h,d=>by
  cases i with
  | zero=>simp at h
  | succ i=>cases a with
   | zero=>simp at d
   | succ a=>exact y2 (l:=l) b i a t c ω (by simpa using h) (by simpa using d)
 | some g::l,b,i,a,t,c,f,h,d=>by
  simp only[Qe,I0]at b;have k:∀(n s:Nat),l[n]? = some (some s)->g≠s:=λn s j e=>by
   have:=O7.1 b.1 _ (t4 j)
   simp_all
  cases i with
  | zero=>
   grind
  | succ i=>cases a with
   | zero=>grind
   | succ a=>exact y2 b.2 i a t c ω (by simpa using h) (by simpa using d)
theorem Er:∀{l:List (Option Nat)}{i t:Nat},l[i]? = some (some t)->t∈sles l
 | [],i,t,h=>by simp at h
 | none::l,i,t,h=>by
  cases i with
  | zero=>simp at h
  | succ i=>exact Er (l:=l) (i:=i) (by simpa using h)
 | some a::l,i,t,h=>by
  cases i with
  | zero=>grind [sles]
  | succ i=>exact IA _ (Er (l:=l) (i:=i) (by simpa using h))
theorem Eu{φ:Nat->am}{x:Option (Option Nat)}{b o:Nat}(h:YV φ x b o):∃t,x=some (some t)/\φ t b o:=by
 match x,h with
 | some (some t),h=>exact⟨t,rfl,h⟩
 | some none,h=>exact h.elim
 | none,h=>exact h.elim
theorem TY{f : Nat}{y : Func}{c : Code}{sh : Bool}{A B : List MA}{k : Kd}{rcs : List C}{mo : List (Nat × List Nat)}{n : Nat}(O : List (Nat × Nat))(hTE : ∀t i, TE t = some i -> j7 P t i)(hf : P.funcs[f]? = some y)(hn : (y.name == "runtime.NumGoroutine") = false)(d:y.body=some c){ck:Nat->Array Oper->Bool}{D:gw->Nat->Array Oper->((Nat->AV)->Prop)->(Nat->AV)->Prop}(hD:∀N,BL P N ck (D N))(hc:iJ ck c=true)(hN:A.length+(y.ntmps - A.length)=n)(hok:Qe (KW 0 A O)=true)(hsh:sh=true\/gl rcs)(hp:∀(u:Nat->Nat->Value)(p:Nat->Value),aw P TE ⟨n,R1 p 0 A,mo⟩ (D ⟨n,R1 p 0 A,mo⟩) c (Zy TE y.results.toList k rcs u A B O) (lay (EE u 0 A))):aX P f sh A B k rcs:=by
 refine⟨⟨y,hf,hn,by rw[d];rfl⟩,λw S V E hS hV hVd hA=>?_⟩;have hlen:=H6 hA;refine calls_of_wp hf d ?_
 let u:Nat->Nat->Value:=λi=>celF (E.getD i undef)
 let p:Nat->Value:=λi=>E.getD i undef
 have htv:∀t v,E[t]? = some v->tvs {tmps:=E.toArray++Array.replicate (y.ntmps - E.toArray.size) undef,defers:=[]} t=v:=λt v r=>by
  have Q:=(C4.1 r).1;simp only[tvs,ID]
  grind
 have hst:St w (λb o=>∃i,V i b o) S ⟨n,R1 p 0 A,mo⟩ (lay (EE u 0 A)) {tmps:=E.toArray++Array.replicate (y.ntmps - E.toArray.size) undef,defers:=[]} w:=by
  refine⟨S,V,λt=>?_,hVd,ψ,ψ,λ_ _ h=>h,ψ,Cn _ _,by simp;omega,rfl,λq hq=>?_⟩
  ·rcases GU (u:=u) 0 hA t with J|⟨m,v,-,r,h2',K,U⟩
   ·rw[J];trivial
   rw[K];rw[Nat.sub_zero]at r U;rw[htv t v r];have hu:u t=celF v:=ψ
   cases m with
   | val M G=>exact(bD.mono (show bD w S NO M G v from U) (λ_ _ h=>h) (λ_ _ h=>h.elim)).slot
   | «mut» M G=>
    obtain⟨e1,e2,e3⟩:=bD.celF (show bD w S (V t) M G v from U);refine bD.slot ⟨by grind [ug],celF v,e2,?_⟩
    grind [cD.tag]
   | ptr G=>exact U
  obtain⟨-,J,r⟩:=Rl hq
  grind
 refine kP hTE (hD _) c hc _ _ _ _ w (hp u p) hst λe F' W l he hs'=>?_
 obtain⟨S',φ',h⟩:=hs';have fin:resA TE F' y.results.toList (sles (KW 0 A O)) (λsh G=>bc (iI sh) k G rcs (kf u F' 0 A O B))->W.defers=[]/\∃v,(results y W.tmps).run P l=.ok v l/\(∃v',Ending.returned v=.returned v'/\bM (λb o=>∃i,V i b o) w l/\∃(X:am)(Z:Nat->am)(S1:am),
     (∀b o,X b o->(∃i,V i b o)\/(b<l.heap.size/\w.heap.size<=b))/\(∀i b o,Z i b o->(∃i,V i b o)\/(b<l.heap.size/\w.heap.size<=b))/\
     (∀b o,S1 b o->(sh=true/\S b o)\/(∃i,V i b o)\/(b<l.heap.size/\w.heap.size<=b))/\
     (∀i i',i≠i'->∀b o,Z i b o->¬Z i' b o)/\(∀i b o,X b o->¬Z i b o)/\(∀b o,X b o->¬S1 b o)/\(∀i b o,Z i b o->¬S1 b o)/\
     gM l NO k rcs.length v'/\cD l S1 X rcs (cz l k v')/\Gc l (λb o=>S b o\/S1 b o) Z B E):=by
  intro hr;obtain⟨shs,G,a,u',hfin,hrun,L,hln,hL,hcells,H,hrow⟩:=h.resA hTE hr;obtain⟨rfl,rfl,R⟩:=hfin.out;refine⟨h.defers,?_⟩;have T:(results y W.tmps).run P l=.ok (if h:a.toArray.size=1 then a.toArray[0] else .tuple a.toArray) l:=by
   have e:results y W.tmps=(do let E <-y.results.mapM (H2 W.tmps);pure (if h:E.size=1 then E[0] else .tuple E)):=by
    unfold results
    congr 1
   rw[e,<-Array.toArray_toList (xs:=y.results),List.mapM_toArray]
   simp_all
  have hex:∀t b o,φ' t b o->(∃i,V i b o)\/(b<l.heap.size/\w.heap.size<=b):=λt b o d=>(h.ex t b o d).2.elim (λh'=>.inr ⟨(h.ex t b o d).1,h'⟩) .inl
  have hsameS:bB S w l:=λb o d=>by
   have Q:=hS b o d;exact⟨h.old.cel b o Q ψ,h.old.fro b o Q ψ⟩
  have hm:=h.backs (u:=u) hsameS h.sub hA ψ (λj v G hj hc=>by
    have:=h.par _ (QX (p:=p) (i:=0) hc)
    grind) R
  refine⟨_,T,_,rfl,h.old,λb o=>∃t,t∉sles (KW 0 A O)/\φ' t b o,λi=>YV φ' (KW 0 A O)[i]?,λb o=>(sh=true/\S' b o)\/(S' b o/\((∃i,V i b o)\/w.heap.size<=b)),ψ,λi b o d=>?_,λb o d=>?_,λi i' hne b o d g=>?_,λi b o ⟨t,ht,d⟩ g=>?_,λb o ⟨t,_,d⟩ g=>h.disS t b o d ψ,λi b o d g=>?_,?_⟩
  ·grind [Eu]
  ·rcases d with⟨J,r⟩|⟨J,r⟩
   ·rcases(h.sup b o r).2 with K|K|K
    ·grind
    ·exact .inr (.inr ⟨(h.sup b o r).1,K⟩)
    grind
   rcases r with r|r
   ·grind
   exact .inr (.inr ⟨(h.sup b o J).1,r⟩)
  ·obtain⟨t,e1,d⟩:=Eu d
   obtain⟨t',e2,g⟩:=Eu g;exact h.dis t t' (y2 hok i i' t t' hne e1 e2) b o d g
  ·obtain⟨t',e2,g⟩:=Eu g
   exact h.dis t t' (λe=>ht (by grind [Er])) b o d g
  ·obtain⟨t,-,d⟩:=Eu d
   exact h.disS t b o d ψ
  have hk:gM l NO (iI shs) G.length (if h:a.toArray.size=1 then a.toArray[0] else .tuple a.toArray)/\cD l S' (λb o=>∃t,t∉sles (KW 0 A O)/\φ' t b o) G (cz l (iI shs) (if h:a.toArray.size=1 then a.toArray[0] else .tuple a.toArray)):=by
   match shs,L,H,hL with
   | [],L,_,hL=>
    cases a with
    | cons _ _=>exact L.elim
    | nil=>
     have:G=[]:=ψ
     subst this;exact⟨⟨_,rfl,tV1,rfl⟩,cD.nil _ _ _ _⟩
   | [M],_,H,_=>
    obtain⟨v,rfl,hv⟩:=H M rfl;have:=hv.slot (F:=F') (tv:=tvs W);obtain⟨X1,Y,J,r,K,U,h5⟩:=this;refine⟨?_,h5.mono (λ_ _ h=>h) r⟩;cases M<;>exact U
   | M::ag2::sh,L,_,hL=>
    have hsz:¬a.toArray.size=1:=by
     match a,L with
     | [],L=>simp
     | [v],L=>cases M<;>cases ag2<;>exact L.2.elim
     | _::_::_,_=>simp
    rw[dif_neg hsz];refine⟨⟨_,rfl,L,hL⟩,hrow.congr λj hj=>?_⟩;simp only[cz,iI,oT,hcells];simp[List.getD,hj]
  refine⟨hk.1,?_,hm.mono λb o d=>?_⟩
  ·rcases hsh with J|J
   ·exact hk.2.mono ψ (λ_ _ h=>h)
   exact(hk.2.fresh J).mono (λ_ _ h=>h.elim) (λ_ _ h=>h)
  rcases(h.sup b o d).2 with K|K|K
  all_goals grind
 cases e with
 | normal=>exact fin he
 | ret=>exact fin he
 | _=>exact he.elim
end
abbrev I(z:Int):C:=.v (.int .i64 z)
abbrev B(b:Bool):C:=.v (.bool b)
def rI(_:eS)(z:Int):List C:=[I z]
def rB(_:eS)(b:Bool):List C:=[B b]
def vD(z:Int):gl (rI .own z):=⟨tV1,tV1⟩
def GA(b:Bool):gl (rB .own b):=⟨tV1,tV1⟩
def nM(z:Int):Prop:=-9223372036854775808<=z/\z<=9223372036854775807
def wfB(_:Bool):Prop:=True
def kj(s:Nat)(left:Int):Int:=if(s:Int)<=left then left - s else -1
def vZ : Tryz.prog.follows .mixedOrders=true:=by kernel_rfl
variable{tb: List (Nat × Nat × List Nat)}{rcs: List C}{A: List RA}{mo: List (Nat × List Nat)}{f: Nat}
def a0h{a : Func}{c : Code}{sh : Bool}(d : Tryz.prog.funcs[f]? = some a)(e : (a.name == "runtime.NumGoroutine") = false)(g : a.body = some c)(h : iJ (rr tb) c = true)(i:A.length+(a.ntmps - A.length)=n)(b:sh=true\/gl rcs)(j:aw Tryz.prog TE ⟨n,[],mo⟩ (DF Tryz.prog TE ⟨n,[],mo⟩ tb) c (Yh TE a.results.toList k rcs) (lay (Jl 0 A))):zzA f sh A k rcs:=
 U0 sR d e g (wS sR vZ ⟨n,[],mo⟩ tb) h i rfl b j
def a1e{a : Func}{c : Code}{sh : Bool}{A B : List MA}(b : List (Nat × Nat))(g : Tryz.prog.funcs[f]? = some a)(h : (a.name == "runtime.NumGoroutine") = false)(i : a.body = some c)(j : iJ (rr tb) c = true)(l:A.length+(a.ntmps - A.length)=n)(d:Qe (KW 0 A b)=true)(e:sh=true\/gl rcs)(o:∀(u:Nat->Nat->Value)(p:Nat->Value),aw Tryz.prog TE ⟨n,R1 p 0 A,mo⟩ (DF Tryz.prog TE ⟨n,R1 p 0 A,mo⟩ tb) c (Zy TE a.results.toList k rcs u A B b) (lay (EE u 0 A))):zzB f sh A B k rcs:=
 TY b sR g h i (λN=>wS sR vZ N tb) j l d e o
theorem ij{x:Int}(h1 : -9223372036854775808<=x)(h2:x<=9223372036854775807):IntKind.i64.wrap x=x:=IntWalk.i64_in x ω
def UP:RA->RA->Prop
 | .val ag cs,.val ag' cs'=>ag=ag'/\cs=cs'
 | .ptr cs,.ptr cs'=>cs=cs'
 | A,a=>A=a
theorem UP.eq{A a:RA}(h:UP A a):A=a:=by
 unfold UP at h
 grind
def Hw:List RA->List RA->Prop
 | [],[]=>True
 | A::As,B::Bs=>UP A B/\Hw As Bs
 | _,_=>False
theorem Hw.eq:∀{A a:List RA},Hw A a->A=a
 | [],[],_=>rfl
 | A::As,B::Bs,h=>by rw[UP.eq h.1,Hw.eq h.2]
 | [],_::_,h=>h.elim
 | _::_,[],h=>h.elim
theorem Cl.eq{b:Bool}{a:List RA}{K:AV->Prop}(h:ah P f false a k rcs)(c:Hw A a)(d:K (.Y k rcs)):Cl P f b A K:=by grind [Hw.eq,CG]
def CN:type_of% @Cl.eq:=@Cl.eq
def wT{b:Nat}(h:n<=1048576)(a:b<=1000):n*b<=140737488355328:=I9 (Nat.mul_le_mul h a) qs
theorem Cl.sz{b:Bool}{K:AV->Prop}{s:Nat}{L:Int}(h:ah P f false A .one [I (kj s L)])(h1:L<s->K (.Y .one [I (-1)]))(h2:(s:Int)<=L->K (.Y .one [I (L - s)])):Cl P f b A K:=by grind [CG,kj]
def Cb:type_of% @Cl.sz:=@Cl.sz
theorem Bf.NB{a b:Bool}{X Y:Prop}(h1:a≠b->X)(h2:a=b->Y):Bf (a != b) X Y:=by grind [Bf.P]
theorem Rw.one{off k j:Nat}{K:List C->Nat->Prop}{o:eS}{rows:List (List C)}{r:List C}(h1:a[off]? = some (.s o rows))(h2:rows[i]? = some r)(c:r.length=k)(b:K r j):Rw a off [(i,k,j)] K:=
 Rw.mk (r:=r) (j:=j) (by grind [cA]) b
def CM:type_of% @Rw.one:=@Rw.one
theorem bx{l:List α}{r r':α}(h:l[i]? = some r):(l.set i r')[i]? = some r':=ψ
def iH(A B:List α)(i:Nat):List α:=A.take i++B.drop i
section
variable{α:Type}{A B:List α}
def cF:iH A B 0=B:=by simp[iH]
theorem dG(i:Nat)(h:A.length=B.length)(a:i=B.length):iH A B i=A:=by grind [iH]
def jo(h:A.length=B.length)(i:Nat):(iH A B i).length=B.length:=by simp[iH];omega
theorem dD(h:A.length=B.length)(i:Nat)(a:i<=B.length):(iH A B i)[i]? = B[i]?:=by grind [iH]
theorem ce(h:A.length=B.length){i:Nat}{a:α}(b:A[i]? = some a):(iH A B i).set i a=iH A B (i+1):=by
 have c:=(C4.1 b).1;unfold iH
 grind [List.set_append_right,SA,List.drop_eq_getElem_cons]
end
def aa{β:Type}{f:α->β}{l:List α}{k:Nat}{x:α}(h:l[k]? = some x):(l.map f)[k]? = some (f x):=by simp[h]
def jw{z:α}{k:Nat}(h:k<n):(List.replicate n z)[k]? = some z:=by simp[h]
end Go.Proofs.YtcblmfpcekokjaaGreat.Ab
