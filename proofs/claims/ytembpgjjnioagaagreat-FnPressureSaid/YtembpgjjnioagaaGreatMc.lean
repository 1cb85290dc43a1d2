/- A region that draws its order may be run in the text's order, where its operations are apart. No condition. -/
import Derived.Test.YtembpgjjnioagaaGreatMb
import Derived.Orders
import Derived.Test.YtembpgjjnioagaaGreatMa
import Derived.KernelRfl
import Derived.Test.YtembpgjjnioagaaGreatProg
set_option linter.unusedVariables false
set_option linter.unusedSimpArgs false
set_option linter.constructorNameAsVariable false
namespace Go.Proofs.YtembpgjjnioagaaGreat.Ab
open Go.RowKit
def cL (o:Oper) (i:Nat):Bool:=o.after.toList.any fun e=>Region.binds .any e&&Nat.beq e.on i
def cI (ops:Array Oper) (i:Nat):Oper:=ops.getD i default
def below (n:Nat) (p:Nat->Bool):Bool:=(List.range n).all p
def re (ops:Array Oper) (i j:Nat):Bool:=match(cI ops i).dst with|some d=>((cI ops j).looksAt ops).any (Nat.beq d)|none=>false
def BV:List Nat->Nat
 | []=>0
 | k::ks=>2 ^ k ||| BV ks
def ons (o:Oper):List Nat:=(o.after.toList.filter fun e=>Region.binds .any e).map (·.on)
def frc {α:Type} (n:Nat) (K:Nat->α):α:=match n with|0=>K 0|n+1=>K (n+1)
theorem HC {α:Type} (n:Nat) (K:Nat->α):frc n K=K n:=by cases n<;>rfl
def clo (ops:Array Oper):Nat->Nat->Nat
 | 0,S=>S
 | k+1,S=>bif S.testBit k then frc (S ||| BV (ons (cI ops k))) (clo ops k) else clo ops k S
def zz (ops:Array Oper) (m:Nat):Bool:=
 below ops.size fun j=>((cI ops j).after.toList.all fun e=>!Region.binds .any e || Nat.blt e.on j) &&
  (bif Nat.blt j m then below m (fun i=>Nat.beq i j || ((cL (cI ops j) i || cL (cI ops i) j || (cI ops i).apart ops (cI ops j))&&(!re ops i j || cL (cI ops j) i))) else frc (clo ops j (BV (ons (cI ops j)))) fun S=>below j fun i=>S.testBit i)
def uo:List (Nat × Nat × List Nat)->Nat->Option (Nat × List Nat)
 | [],_=>none
 | p::l,id=>bif Nat.beq id p.1 then some p.2 else uo l id
def fG (P:Program) (TE:Nat->Option TI) (N:fg) (ops:Array Oper) (o:Oper) (K:(Nat->AV)->Prop) (F:Nat->AV):Prop:=
 eL F ops o.guard (fun F=>match o.dst with|some d=>df P TE F o.op fun av=>bM N F d av K|none=>False)
  (fun F=>match o.dst with|some d=>bM N F d (.hold (.tup []) []) K|none=>False)
def lI:Op->Option (Option Nat × Nat)
 | .buildSlice T 1 ps=>(match ps.toList with|[(0,.tmp s)]=>some (some T,s)|_=>none)
 | .move (.tmp s)=>some (none,s)
 | _=>none
def own1 (T:Option Nat) (k:Kd) (cs:List C):Bool:=match T with
 | some _=>(match k with
   | .one=>(match cs with|[c]=>d5 c|_=>false)
   | .agg=>(match cs with|[c]=>d5 c|_=>false)
   | _=>false)
 | none=>(match k with|.tup _=>!aW cs|_=>false)
def Na (TE:Nat->Option TI) (N:fg) (F:Nat->AV) (d:Nat) (T:Option Nat) (s:Nat) (K:(Nat->AV)->Prop):Prop:=match T with
 | some T=>eX TE N F d T 1 [(0,.tmp s)] K
 | none=>ig N F d (.tmp s) K
def E8 (F:Nat->AV) (o:Oper):Option (Option Nat × Nat):=
 match o.guard with
 | some _=>none
 | none=>match lI o.op with
  | none=>none
  | some p=>match F p.2 with
   | .hold k cs=>bif own1 p.1 k cs then some p else none
   | .dead=>none
   | .ref ..=>none
   | .bor ..=>none
   | .iref ..=>none
   | .fn ..=>none
   | .fv _=>none
def iq (ops:Array Oper) (o:Oper) (s:Nat):Bool:=
 ((List.range ops.size).any fun k=>cL o k&&(match(cI ops k).dst with|some a=>Nat.beq a s|none=>false))&&Nat.ble (ops.toList.filter fun k=>(k.looksAt ops).any (Nat.beq s)).length 1
def mE (ds:List Nat) (o:Oper):Bool:=match o.dst with|some d=>ds.any (Nat.beq d)|none=>false
def twk:List Nat->List Nat
 | []=>[]
 | e::l=>bif Nat.ble 1000 e then(e - 1000)::twk l else []
def dec:List Nat->List (Nat × List Nat)
 | []=>[]
 | e::l=>bif Nat.ble 1000 e then dec l else(e,twk l)::dec l
def MP:Op->Bool
 | .move (.tmp _)=>true
 | .assign _=>true
 | .extract ..=>true
 | .build ..=>true
 | .buildSlice ..=>true
 | .store ..=>true
 | .load ..=>true
 | .fieldAddr ..=>true
 | .field ..=>true
 | .binOp ..=>true
 | .unOp ..=>true
 | .call c=>(pW c).isSome
 | _=>false
def EW:Op->Bool
 | .call c=>(match c.callee with|.value (.func _)=>true|_=>false)
 | _=>false
def oG (l:List (Nat × List Nat)) (i:Nat):Bool:=l.any fun p=>Nat.beq p.1 i
def tJ (ops:Array Oper) (j i:Nat):Bool:=(clo ops j (BV (ons (cI ops j)))).testBit i
def Ni (o:Oper):Bool:=match o.guard with|none=>true|some _=>false
def NA (sch:List (Nat × List Nat)) (i:Nat):Bool:=sch.any fun p=>Nat.beq p.1 i&&!p.2.isEmpty
def Nm (ops:Array Oper) (oj oa:Oper) (nm:Bool):Bool:=match oa.dst with
 | none=>false
 | some da=>Ni oj&&MP oj.op&&!(match oj.dst with|some d=>Nat.beq d da|none=>false)&&!(oj.looksAt ops).any (Nat.beq da)&&Ni oa&&!(oa.looksAt ops).any (Nat.beq da)&&(nm || match lI oa.op with|none=>true|some p=>!iq ops oa p.2)
def ya (ops:Array Oper) (ds:List Nat) (nm:Nat->Bool) (i j:Nat):Bool:=
 bif mE ds (cI ops j) then(bif mE ds (cI ops i) then(cL (cI ops j) i || cL (cI ops i) j || (cI ops i).apart ops (cI ops j))&&(!re ops i j || cL (cI ops j) i)&&!(match(cI ops i).dst with|some d=>(match(cI ops j).dst with|some e=>Nat.beq d e|none=>false)|none=>false) else true)
 else(bif mE ds (cI ops i) then(tJ ops j i || tJ ops i j || Nm ops (cI ops j) (cI ops i) (nm i))&&(!re ops i j || cL (cI ops j) i) else true)
def BN (ops:Array Oper) (ds:List Nat):List (Nat × List Nat)->Bool
 | []=>true
 | k::l=>Nat.blt k.1 ops.size&&!oG l k.1&&((cI ops k.1).after.toList.all fun e=>!Region.binds .any e || !(Nat.beq k.1 e.on || oG l e.on)) &&
  (mE ds (cI ops k.1) || ((l.all fun j=>tJ ops j.1 k.1)&&(below ops.size fun p=>!mE ds (cI ops p) || oG l p || tJ ops k.1 p || k.2.any (Nat.beq p))&&(!(l.any fun j=>mE ds (cI ops j.1)) || (Ni (cI ops k.1)&&(MP (cI ops k.1).op || EW (cI ops k.1).op)))))&&BN ops ds l
def zw (ops:Array Oper) (ds:List Nat) (sch:List (Nat × List Nat)):Bool:=
 (below ops.size fun j=>((cI ops j).after.toList.all fun e=>!Region.binds .any e || Nat.blt e.on j)&&oG sch j&&(!mE ds (cI ops j) || (match lI (cI ops j).op with|none=>true|some p=>!iq ops (cI ops j) p.2 || ds.any (Nat.beq p.2)))&&below ops.size fun i=>Nat.beq i j || ya ops ds (NA sch) i j)&&Nat.beq sch.length ops.size&&BN ops ds sch
def mh (tb:List (Nat × Nat × List Nat)) (id:Nat) (ops:Array Oper):Bool:=
 match uo tb id with
 | some (m,ds)=>bif Nat.ble 65536 m then true else bif Nat.ble 256 m then zw ops (ds.take (m - 256)) (dec (ds.drop (m - 256))) else(Nat.ble m ops.size&&below m fun j=>match(cI ops j).dst with|some d=>ds.any (Nat.beq d)|none=>true)&&zz ops m
 | none=>false
def jF (P:Program) (TE:Nat->Option TI) (N:fg) (ops:Array Oper) (o:Oper) (K:(Nat->AV)->Prop) (F:Nat->AV):Prop:=
 match E8 F o with
 | some p=>(match o.dst with|some d=>bif iq ops o p.2 then Na TE N F d p.1 p.2 K else False|none=>False)
 | none=>fG P TE N ops o K F
def H3 (P:Program) (TE:Nat->Option TI) (N:fg) (ops:Array Oper):Nat->List Oper->((Nat->AV)->Prop)->(Nat->AV)->Prop
 | 0,l,K,F=>Hf P TE N ops l K F
 | _+1,[],K,F=>K F
 | m+1,o::l,K,F=>jF P TE N ops o (H3 P TE N ops m l K) F
def LE (ds:List Nat) (t:Nat):Bool:=ds.any (Nat.beq t)
def NH (ds:List Nat):AV->AV
 | .ref t off st=>bif LE ds t then .dead else .ref t off st
 | .bor t off st ag=>bif LE ds t then .dead else .bor t off st ag
 | .fn f caps=>bif caps.any (LE ds) then .dead else .fn f caps
 | .hold k cs=>.hold k cs
 | .iref r off=>.iref r off
 | .fv Ok=>.fv Ok
 | .dead=>.dead
def clr (ds:List Nat) (F:Nat->AV):Nat->AV:=fun t=>NH ds (F t)
theorem yP (ds:List Nat) (F:Nat->AV) (t:Nat):clr ds F t=bif ds.any (fun d=>(F t).uses d) then .dead else F t:=by
 unfold clr;cases F t with
 | dead=>cases ds.any fun d=>AV.uses d .dead<;>rfl
 | hold k cs=>
  have:ds.any (fun d=>(AV.hold k cs).uses d)=false:=by
   rw[<-Bool.not_eq_true,v3]
   rintro⟨d,_,h⟩
   cases h
  rw[this];rfl
 | iref r off=>
  have:ds.any (fun d=>(AV.iref r off).uses d)=false:=by
   rw[<-Bool.not_eq_true,v3]
   rintro⟨d,_,h⟩
   cases h
  rw[this];rfl
 | fv Ok=>
  have:ds.any (fun d=>(AV.fv Ok).uses d)=false:=by
   rw[<-Bool.not_eq_true,v3]
   rintro⟨d,_,h⟩
   cases h
  rw[this];rfl
 | ref t' off st=>rfl
 | bor t' off st ag=>rfl
 | fn f caps=>
  have:ds.any (fun d=>(AV.fn f caps).uses d)=caps.any (LE ds):=by
   rw[V3,v3,v3];constructor
   ·rintro⟨d,hd,h⟩
    simp only[AV.uses,v3]at h;obtain⟨c,hc,he⟩:=h;exact⟨c,hc,v3.2 ⟨d,hd,he⟩⟩
   ·rintro⟨c,hc,h⟩
    obtain⟨d,hd,he⟩:=v3.1 h;exact⟨d,hd,by simp only[AV.uses,v3];exact⟨c,hc,he⟩⟩
  rw[this];rfl
inductive Sm (a b:AV) (K:Prop):Prop
 |mk_ (h:a=b/\K)
theorem Sm.rf {a:AV} {K:Prop} (h:K):Sm a a K:=.mk_ ⟨rfl,h⟩
theorem Sm.out {a b:AV} {K:Prop} (h:Sm a b K):a=b/\K:=h.1
def N5 (P:Program) (TE:Nat->Option TI) (ops:Array Oper) (p:Nat) (K:Prop) (F:Nat->AV):Prop:=
 match(cI ops p).dst with
 | none=>False
 | some d=>(match E8 F (cI ops p) with
   | some _=>False
   | none=>df P TE F (cI ops p).op fun av=>Sm av (F d) K)
def HE (P:Program) (TE:Nat->Option TI) (ops:Array Oper):List Nat->Prop->(Nat->AV)->Prop
 | [],K,_=>K
 | p::l,K,F=>N5 P TE ops p (HE P TE ops l K F) F
def Jq (P:Program) (TE:Nat->Option TI) (N:fg) (ops:Array Oper) (nm:Bool) (o:Oper) (K:(Nat->AV)->Prop) (F:Nat->AV):Prop:=
 match nm with
 | false=>jF P TE N ops o K F
 | true=>(match E8 F o with
   | some _=>False
   | none=>fG P TE N ops o K F)
def He (P:Program) (TE:Nat->Option TI) (N:fg) (ops:Array Oper) (ds:List Nat) (nm:Nat->Bool):List (Nat × List Nat)->((Nat->AV)->Prop)->(Nat->AV)->Prop
 | [],K,F=>K F
 | k::l,K,F=>bif mE ds (cI ops k.1) then Jq P TE N ops (nm k.1) (cI ops k.1) (He P TE N ops ds nm l K) F else jg P TE N ops (cI ops k.1) (fun F1=>HE P TE ops k.2 (He P TE N ops ds nm l K F1) F1) F
def KK:List Nat->(List Nat->Prop)->Prop
 | [],K=>K []
 | a::l,K=>KK l fun l'=>K (a::l')
theorem FB:∀ (l:List Nat) (K:List Nat->Prop),KK l K=K l
 | [],_=>rfl
 | a::l,K=>by rw[KK,FB l]
def zT (l:List Nat) (j:Nat):Bool:=l.any (Nat.beq j)
def JC (ops:Array Oper) (done:List Nat):List Nat:=(List.range ops.size).filter fun j=>!zT done j&&((cI ops j).after.toList.all fun e=>!Region.binds .any e || zT done e.on)
def NQ (p:Nat->Prop):Nat->List Nat->Prop
 | i,[]=>p i
 | i,j::l=>p i/\NQ p j l
def NC (l:List Nat) (K:Prop) (p:Nat->Prop):Prop:=match l with
 | []=>K
 | i::l=>NQ p i l
def MD (P:Program) (TE:Nat->Option TI) (N:fg) (ops:Array Oper) (K:(Nat->AV)->Prop):Nat->List Nat->(Nat->AV)->Prop
 | 0,done,F=>NC (JC ops done) (K F) fun _=>False
 | n+1,done,F=>NC (JC ops done) (K F) fun i=>jg P TE N ops (cI ops i) (MD P TE N ops K n (i::done)) F
def DD (P:Program) (TE:Nat->Option TI) (N:fg) (tb:List (Nat × Nat × List Nat)) (id:Nat) (ops:Array Oper) (K:(Nat->AV)->Prop) (F:Nat->AV):Prop:=
 match uo tb id with
 | some (m,ds)=>bif Nat.ble 65536 m then MD P TE N ops K ops.size [] F else bif Nat.ble 256 m then KK (ds.take (m - 256)) fun ds'=>He P TE N ops ds' (NA (dec (ds.drop (m - 256)))) (dec (ds.drop (m - 256))) K (clr ds' F) else H3 P TE N ops m ops.toList K (clr ds F)
 | none=>False
theorem fL {n:Nat} {p:Nat->Bool} (h:below n p=true) {i:Nat} (hi:i<n):p i=true:=z3.1 h i (List.mem_range.2 hi)
theorem bX {o:Oper} {i:Nat} : cL o i=true↔∃ e,e∈o.after/\Region.binds .any e=true/\e.on=i:=by
 unfold cL;rw[v3];constructor
 ·rintro⟨e,he,hb⟩
  simp only[I0]at hb;exact⟨e,by simpa using he,hb.1,P1 hb.2⟩
 ·rintro⟨e,he,hb,rfl⟩
  exact⟨e,by simpa using he,by rw[hb,Nat.beq_refl];rfl⟩
theorem aX {ops:Array Oper} {i:Nat} {o:Oper} (h:ops[i]? = some o):cI ops i=o:=by simp[cI,Array.getD_eq_getD_getElem?,h]
section
variable {P:Program} {w0 w w1:World} {M S0 S:ac} {N:fg} {φ:Nat->ac} {F:Nat->AV} {a:Act} {TE:Nat->Option TI} {ops:Array Oper}
theorem r8 {d:Nat} {b:Bool} (hF:F d=.hold .one [.v (.bool b)]):Bo F d b=F:=by
 funext t
 unfold Bo;cases ht:Nat.beq t d with
 | true=>have:=P1 ht;subst this;rw[hF];rfl
 | false=>rfl
theorem fJ (o:Oper) (t:Nat) (h:t∈db o.op):t∈o.looksAt ops:=by
 unfold Oper.looksAt;refine List.mem_append_left _ ?_;unfold db at h;obtain⟨x,hx,ht⟩:=List.mem_flatMap.1 h;refine List.mem_filterMap.2 ⟨x,hx,?_⟩;cases x with
 | tmp t'=>simp[tm]at ht;subst ht;rfl
 | _=>simp[tm]at ht
structure Ph (P:Program) (TE:Nat->Option TI) (N:fg) (ops:Array Oper) (o:Oper) (F:Nat->AV) (d:Nat) (av:AV):Prop where
 dst:o.dst=some d
 lt:N.free d=true
 self:av.uses d=false
 from_:dC F (o.looksAt ops) av
 at_:∀ F':Nat->AV,ik F F' (o.looksAt ops)->∀ K':(Nat->AV)->Prop,K' (put F' d av)->fG P TE N ops o K' F'
theorem ik.refl (F:Nat->AV) (ts:List Nat):ik F F ts:=fun _ _=>⟨rfl,fun _ _ _ _ h=>h⟩
theorem ui {o:Oper} {K:(Nat->AV)->Prop} (h:fG P TE N ops o K F):∃ d av,Ph P TE N ops o F d av/\K (put F d av):=by
 cases hd:o.dst with
 | none=>
  exfalso;unfold fG at h;rw[hd]at h;unfold eL at h;cases hg:o.guard with
  | none=>rw[hg]at h;exact h
  | some p=>
   obtain⟨j,want⟩:=p;rw[hg]at h;simp only at h;cases hj:(ops[j]?).bind (·.dst) with
   | none=>rw[hj]at h;exact h
   | some dg=>
    rw[hj]at h;simp only at h;split at h
    ·rename_i b _
     replace h:=Bf.out h;cases b<;>cases want<;>exact h
    ·exact h
    ·exact h
 | some d=>
  have put1:∀ {F':Nat->AV} {av:AV} {K':(Nat->AV)->Prop},N.free d=true->av.uses d=false->K' (put F' d av)->bM N F' d av K':=fun h1 h2 h3=>by unfold bM;rw[h1,h2];exact h3
  have put2:∀ {F':Nat->AV} {av:AV} {K':(Nat->AV)->Prop},bM N F' d av K'->N.free d=true/\av.uses d=false/\K' (put F' d av):=fun {F' av K'} hp=>by
   unfold bM at hp;cases hc:(N.free d&&!av.uses d) with
   | false=>rw[hc]at hp;exact hp.elim
   | true=>
    rw[hc]at hp;simp only[I0,Bool.not_eq_true']at hc;exact⟨hc.1,hc.2,hp⟩
  have pure1:df P TE F o.op (fun av=>bM N F d av K)->∃ av,N.free d=true/\av.uses d=false/\K (put F d av)/\dC F (o.looksAt ops) av/\∀ F':Nat->AV,ik F F' (o.looksAt ops)->∀ K':(Nat->AV)->Prop,K' (put F' d av)->df P TE F' o.op (fun av=>bM N F' d av K'):=fun hp=>by
   obtain⟨av,h1,h2,h3⟩:=kX hp;obtain⟨p1,p2,p3⟩:=put2 h1;refine⟨av,p1,p2,p3,h2.mono fun t ht=>fJ o t ht,fun F' hA K' hK=>?_⟩;exact h3 F' (hA.mono fun t ht=>fJ o t ht) _ (put1 p1 p2 hK)
  unfold fG at h;rw[hd]at h;unfold eL at h;cases hg:o.guard with
  | none=>
   rw[hg]at h;obtain⟨av,p1,p2,p3,p4,p5⟩:=pure1 h;exact⟨d,av,⟨hd,p1,p2,p4,fun F' hA K' hK=>by unfold fG eL;rw[hg,hd];exact p5 F' hA K' hK⟩,p3⟩
  | some p=>
   obtain⟨j,want⟩:=p;rw[hg]at h;simp only at h;cases hj:(ops[j]?).bind (·.dst) with
   | none=>rw[hj]at h;exact h.elim
   | some dg=>
    rw[hj]at h;simp only at h;have hdg:dg∈o.looksAt ops:=by
     unfold Oper.looksAt;rw[hg];simp only[hj,Option.toList_some];simp
    split at h
    case h_3=>exact h.elim
    case h_2=>
     rename_i sh cs hFd;obtain⟨p1,p2,p3⟩:=put2 h;refine⟨d,.hold (.tup []) [],⟨hd,p1,p2,(fun d hd=>by cases hd),fun F' hA K' hK=>?_⟩,p3⟩;unfold fG eL;rw[hg,hd];simp only;rw[hj];simp only;rw[(hA dg hdg).1.trans hFd];exact put1 p1 p2 hK
    rename_i b hFd;have same:∀ {F':Nat->AV},ik F F' (o.looksAt ops)->F' dg=.hold .one [.v (.bool b)]:=fun hA=>(hA dg hdg).1.trans hFd
    have back:∀ {F':Nat->AV} {K':(Nat->AV)->Prop},ik F F' (o.looksAt ops)->(b=want->df P TE F' o.op (fun av=>bM N F' d av K'))->(b = !want->bM N F' d (.hold (.tup []) []) K')->fG P TE N ops o K' F':=fun {F' K'} hA h1 h2=>by
     unfold fG eL;rw[hg,hd];simp only;rw[hj];simp only;rw[same hA];simp only;refine Bf.P (fun hb=>?_) (fun hb=>?_)
     ·subst hb
      rw[r8 (same hA)];cases want with
      | true=>exact h1 rfl
      | false=>exact h2 rfl
     ·subst hb
      rw[r8 (same hA)];cases want with
      | true=>exact h2 rfl
      | false=>exact h1 rfl
    have hset:=r8 hFd;replace h:=Bf.out h;by_cases hbw:b=want
    ·have hp:df P TE F o.op (fun av=>bM N F d av K):=by
      subst hbw;cases b with
      | true=>have:=h;rw[hset]at this;exact this
      | false=>have:=h;rw[hset]at this;exact this
     obtain⟨av,p1,p2,p3,p4,p5⟩:=pure1 hp;exact⟨d,av,⟨hd,p1,p2,p4,fun F' hA K' hK=>back hA (fun _=>p5 F' hA K' hK) (fun e=>by subst hbw;cases b<;>cases e)⟩,p3⟩
    ·have hp:bM N F d (.hold (.tup []) []) K:=by
      cases b<;>cases want<;>first|exact absurd rfl hbw|skip
      ·have:=h;rw[hset]at this;exact this
      ·have:=h;rw[hset]at this;exact this
     obtain⟨p1,p2,p3⟩:=put2 hp;exact⟨d,.hold (.tup []) [],⟨hd,p1,p2,(fun d hd=>by cases hd),fun F' hA K' hK=>back hA (fun e=>absurd e hbw) (fun _=>put1 p1 p2 hK)⟩,p3⟩
def aft:AV->AV
 | .hold k cs=>.hold k (splice cs 0 (List.replicate cs.length .x))
 | _=>.hold .one [.x]
theorem JF (v:AV) (e:Nat):(aft v).uses e=false:=by unfold aft;split<;>rfl
def eff (mv:Option Nat) (d:Nat) (av:AV) (F:Nat->AV):Nat->AV:=fun t=>if t=d then av else if mv=some t then aft (F t) else F t
theorem Ae {d:Nat} (av:AV) (hc:∀ t,(F t).uses d=false):put F d av=eff none d av F:=by
 funext t
 unfold eff;by_cases h:t=d
 ·subst h;rw[kY,if_pos rfl]
 ·rw[fX _ _ h,if_neg h,if_neg (fun e=>by cases e),yc,hc t];rfl
theorem MM {s:Nat} {v:AV} (h:v.uses s=false):qi s v=v:=by
 cases v with
 | bor t off st ag=>simp only[AV.uses]at h;simp[qi,h]
 | ref t off st=>simp only[AV.uses]at h;cases st<;>simp[qi,h]
 | _=>rfl
theorem H0 {d s:Nat} {k:Kd} {cs:List C} (av:AV) (hF:F s=.hold k cs) (hc:∀ t,(F t).uses d=false) (hs:∀ t,(F t).uses s=false):put (updH F s k (splice cs 0 (List.replicate cs.length .x))) d av=eff (some s) d av F:=by
 funext t
 unfold eff;by_cases h:t=d
 ·subst h;rw[kY,if_pos rfl]
 ·rw[fX _ _ h,if_neg h]
  by_cases h2:t=s
  ·subst h2;rw[gd,if_pos rfl,hF];rfl
  ·rw[if_neg (fun e=>h2 (by simpa using e.symm))]
   unfold updH;rw[show Nat.beq t s=false by rw[<-Bool.not_eq_true,Nat.beq_eq];exact h2];simp only[cond_false];rw[MM (hs t),yc,hc t];rfl
theorem E1 {d T s:Nat} {k:Kd} {c:C} {K:(Nat->AV)->Prop} (hk:k=.one\/k=.agg) (hF:F s=.hold k [c]) (hc:d5 c=true) (h:eX TE N F d T 1 [(0,.tmp s)] K) :
  ∃ av,N.free d=true/\(∀ e,av.uses e=false)/\K (put (updH F s k [.x]) d av)/\∀ (F':Nat->AV) (K':(Nat->AV)->Prop),F' s=.hold k [c]->K' (put (updH F' s k [.x]) d av)->eX TE N F' d T 1 [(0,.tmp s)] K':=by
 have key:∀ F':Nat->AV,F' s=.hold k [c]->∀ K':(Nat->AV)->Prop,eX TE N F' d T 1 [(0,.tmp s)] K'=F4 TE T fun _ ie=>bif Nat.ble (1*ie.size) 16777216 then(bif Nat.beq 1 ie.size&&Nat.ble (0*ie.size+ie.size) (rep ie.zero 1).length then bM N (updH F' s k [.x]) d (.hold .one [.s .own (chunk ie.size 1 (splice (rep ie.zero 1) (0*ie.size) [c]))]) K' else False) else False:=by
  intro F' hF' K';unfold eX
  congr 1
  funext e ie
  rcases hk with rfl|rfl<;>simp only[de,fillW,NL,sS,m0,hF',gZ,aW,hc,cond_true,cond_false,gj,mH,List.length_singleton,List.replicate]
  all_goals rfl
 rw[key F hF]at h;obtain⟨e,ie,h1,hsel⟩:=iF h;cases hb1:Nat.ble (1*ie.size) 16777216 with
 | false=>rw[hb1]at h1;exact h1.elim
 | true=>
  cases hb2:(Nat.beq 1 ie.size&&Nat.ble (0*ie.size+ie.size) (rep ie.zero 1).length) with
  | false=>rw[hb1,hb2]at h1;exact h1.elim
  | true=>
   rw[hb1,hb2]at h1;simp only[cond_true]at h1;unfold bM at h1;cases hfr:N.free d with
   | false=>rw[hfr]at h1;exact h1.elim
   | true=>
    rw[hfr]at h1;refine⟨_,rfl,fun _=>rfl,h1,fun F' K' hF' hK=>?_⟩;rw[key F' hF'];refine hsel _ ?_;simp only[hb1,hb2,cond_true];unfold bM;rw[hfr];exact hK
theorem M8 {d s:Nat} {T:Option Nat} {k:Kd} {cs:List C} {K:(Nat->AV)->Prop} (hF:F s=.hold k cs) (ho:own1 T k cs=true) (h:Na TE N F d T s K) :
  ∃ av,N.free d=true/\(∀ e,av.uses e=false)/\K (put (updH F s k (splice cs 0 (List.replicate cs.length .x))) d av)/\∀ (F':Nat->AV) (K':(Nat->AV)->Prop),F' s=.hold k cs->K' (put (updH F' s k (splice cs 0 (List.replicate cs.length .x))) d av)->Na TE N F' d T s K':=by
 cases T with
 | some T=>
  have h1:(k=.one\/k=.agg)/\∃ c,cs=[c]/\d5 c=true:=by
   unfold own1 at ho;cases k with
   | one=>match cs,ho with|[c],ho=>exact⟨.inl rfl,c,rfl,ho⟩
   | agg=>match cs,ho with|[c],ho=>exact⟨.inr rfl,c,rfl,ho⟩
   | _=>cases ho
  obtain⟨hk,c,rfl,hc⟩:=h1;exact E1 hk hF hc h
 | none=>
  have h1:∃ sh,k=.tup sh/\aW cs=false:=by
   unfold own1 at ho;cases k with
   | tup sh=>exact⟨sh,rfl,by simpa using ho⟩
   | _=>cases ho
  obtain⟨sh,rfl,hn⟩:=h1;have key:∀ F':Nat->AV,F' s=.hold (.tup sh) cs->∀ K',Na TE N F' d none s K'=bM N (updH F' s (.tup sh) (splice cs 0 (List.replicate cs.length .x))) d (.hold (.tup sh) cs) K':=fun F' hF' K'=>by
   simp only[Na,ig,hF',hn,cond_false]
  rw[key F hF]at h;unfold bM at h;cases hfr:N.free d with
  | false=>rw[hfr]at h;exact h.elim
  | true=>
   rw[hfr]at h;refine⟨_,rfl,fun _=>rfl,h,fun F' K' hF' hK=>?_⟩;rw[key F' hF'];unfold bM;rw[hfr];exact hK
structure Yl (P:Program) (TE:Nat->Option TI) (N:fg) (ops:Array Oper) (o:Oper) (F:Nat->AV) (mv:Option Nat) (d:Nat) (av:AV):Prop where
 dst:o.dst=some d
 lt:N.free d=true
 self:av.uses d=false
 from_:dC F (o.looksAt ops) av
 mvl:∀ s,mv=some s->o.guard=none/\(∃ T,lI o.op=some (T,s))/\iq ops o s=true
 at_:∀ F':Nat->AV,ik F F' (o.looksAt ops)->(∀ t,(F' t).uses d=false)->(∀ s,mv=some s->∀ t,(F' t).uses s=false)->∀ K':(Nat->AV)->Prop,K' (eff mv d av F')->jF P TE N ops o K' F'
theorem F8 {o:Op} {T:Option Nat} {s:Nat} (h:lI o=some (T,s)):(∃ T' ps,T=some T'/\o=.buildSlice T' 1 ps/\ps.toList=[(0,.tmp s)])\/(T=none/\o=.move (.tmp s)):=by
 unfold lI at h;split at h
 ·split at h
  ·rename_i T' ps s' hps
   simp only[T0,Prod.mk.injEq]at h;obtain⟨rfl,rfl⟩:=h;exact .inl ⟨_,_,rfl,rfl,hps⟩
  ·cases h
 ·simp only[T0,Prod.mk.injEq]at h
  obtain⟨rfl,rfl⟩:=h;exact .inr ⟨rfl,rfl⟩
 ·cases h
theorem cJ {o:Oper} {T:Option Nat} {s:Nat} (h:lI o.op=some (T,s)):s∈o.looksAt ops:=by
 refine fJ o s ?_;unfold db;refine List.mem_flatMap.2 ⟨.tmp s,?_,by simp[tm]⟩;rcases F8 h with⟨T',ps,-,h1,h2⟩|⟨-,h1⟩
 ·rw[h1]
  simp only[Op.operands];have:ps = #[(0,.tmp s)]:=Array.ext' (by rw[h2]);subst this;simp
 ·rw[h1];simp[Op.operands]
theorem Dj {o:Oper} {p:Option Nat × Nat} (h:E8 F o=some p):o.guard=none/\lI o.op=some p/\∃ k cs,F p.2=.hold k cs/\own1 p.1 k cs=true:=by
 unfold E8 at h;split at h
 ·cases h
 rename_i hg;split at h
 ·cases h
 rename_i p' hp;split at h
 case h_1=>
  rename_i k cs hF;cases hb:own1 p'.1 k cs with
  | false=>rw[hb]at h;cases h
  | true=>
   rw[hb]at h;simp only[cond_true,T0]at h;subst h;exact⟨hg,hp,_,_,hF,hb⟩
 all_goals cases h
theorem tL {F':Nat->AV} {o:Oper} (hA:ik F F' (o.looksAt ops)):E8 F' o=E8 F o:=by
 unfold E8;cases hg:o.guard with
 | some _=>rfl
 | none=>
  cases hm:lI o.op with
  | none=>rfl
  | some p=>simp only;rw[(hA p.2 (cJ hm)).1]
theorem qE {o:Oper} {K:(Nat->AV)->Prop} (hm:E8 F o=none) (h:fG P TE N ops o K F) (hc:∀ d,o.dst=some d->∀ t,(F t).uses d=false):∃ d av,Yl P TE N ops o F none d av/\K (eff none d av F):=by
 obtain⟨d,av,hy,hK⟩:=ui h;refine⟨d,av,⟨hy.dst,hy.lt,hy.self,hy.from_,fun s hs=>(by cases hs),fun F' hA hd _ K' hK'=>?_⟩,by rw[<-Ae av (hc d hy.dst)];exact hK⟩;unfold jF;rw[tL hA,hm];exact hy.at_ F' hA K' (by rw[Ae av hd];exact hK')
theorem o9 {o:Oper} {K:(Nat->AV)->Prop} (h:jF P TE N ops o K F) (hc:∀ d,o.dst=some d->∀ t,(F t).uses d=false) (hs:∀ T s,o.guard=none->lI o.op=some (T,s)->iq ops o s=true->∀ t,(F t).uses s=false) :
  ∃ mv d av,Yl P TE N ops o F mv d av/\K (eff mv d av F):=by
 unfold jF at h;cases hm:E8 F o with
 | none=>
  rw[hm]at h;obtain⟨d,av,h1⟩:=qE hm h hc;exact⟨none,d,av,h1⟩
 | some p=>
  rw[hm]at h;obtain⟨hg,hmo,k,cs,hF,hown⟩:=Dj hm;simp only at h;cases hd:o.dst with
  | none=>rw[hd]at h;exact h.elim
  | some d=>
   rw[hd]at h;simp only at h;cases hso:iq ops o p.2 with
   | false=>rw[hso]at h;exact h.elim
   | true=>
    rw[hso]at h;simp only[cond_true]at h;obtain⟨av,h1,h2,h3,h4⟩:=M8 hF hown h;refine⟨some p.2,d,av,⟨hd,h1,h2 d,fun e he=>(by rw[h2 e]at he;cases he),fun s hs=>?_,fun F' hA hd' hs' K' hK'=>?_⟩,?_⟩
    ·simp only[T0]at hs
     subst hs;exact⟨hg,⟨p.1,hmo⟩,hso⟩
    ·unfold jF
     rw[tL hA,hm];simp only;rw[hd];simp only;rw[hso];refine h4 F' K' ((hA p.2 (cJ hmo)).1.trans hF) ?_;rw[H0 av ((hA p.2 (cJ hmo)).1.trans hF) hd' (hs' p.2 rfl)];exact hK'
    ·rw[<-H0 av hF (hc d hd) (hs p.1 p.2 hg hmo hso)]
     exact h3
theorem GY {nm:Bool} {o:Oper} {K:(Nat->AV)->Prop} (h:Jq P TE N ops nm o K F) (hc:∀ d,o.dst=some d->∀ t,(F t).uses d=false) (hs:∀ T s,o.guard=none->lI o.op=some (T,s)->iq ops o s=true->∀ t,(F t).uses s=false) :
  ∃ mv d av,Yl P TE N ops o F mv d av/\K (eff mv d av F)/\(nm=true->mv=none):=by
 unfold Jq at h;cases nm with
 | false=>
  obtain⟨mv,d,av,h1,h2⟩:=o9 h hc hs;exact⟨mv,d,av,h1,h2,fun e=>(by cases e)⟩
 | true=>
  cases hm:E8 F o with
  | some p=>simp only[hm]at h
  | none=>
   simp only[hm]at h;obtain⟨d,av,h1,h2⟩:=qE hm h hc;exact⟨none,d,av,h1,h2,fun _=>rfl⟩
end
section
variable {P:Program} {w0 w w1:World} {M S0 S:ac} {N:fg} {φ:Nat->ac} {F:Nat->AV} {a:Act} {TE:Nat->Option TI} {ops:Array Oper}
def uy (P:Program) (TE:Nat->Option TI) (N:fg) (ops:Array Oper) (m i:Nat) (K:(Nat->AV)->Prop) (F:Nat->AV):Prop:=
 match ops[i]? with
 | none=>K F
 | some o=>if i<m then jF P TE N ops o K F else jg P TE N ops o K F
def DE (P:Program) (TE:Nat->Option TI) (N:fg) (ops:Array Oper) (m:Nat) (K:(Nat->AV)->Prop):Nat->Array Bool->(Nat->AV)->Prop
 | 0,listed,F=>Region.ready .any ops listed=[]/\K F
 | fuel+1,listed,F=>(Region.ready .any ops listed=[]->K F)/\∀ i,i∈Region.ready .any ops listed->uy P TE N ops m i (DE P TE N ops m K fuel (listed.setIfInBounds i true)) F
theorem bh.oneP0 (h:bh w0 M S0 N S φ F a w) (hTE:∀ t i,TE t=some i->ca P t i) {o:Oper} {K:(Nat->AV)->Prop} (hp:fG P TE N ops o K F)
  {Kc:Act->World->Prop} {Q:Exit->Act->World->Prop} (hk:∀ F' a' w',K F'->St w0 M S0 N F' a' w'->Kc a' w') :
  if Region.wanted o (yielded ops a.tmps) then o.wp P a w Kc Q else Kc (a.put o.dst undef) w:=by
 unfold fG at hp;rcases uG h hp with⟨hw,hp⟩|⟨hw,hp⟩
 ·rw[hw,if_pos rfl]
  cases hd:o.dst with
  | none=>rw[hd]at hp;exact hp.elim
  | some d=>
   rw[hd]at hp;obtain⟨av,hK,hy⟩:=h.pure_ hTE hp;refine hy Kc Q fun v w' hn=>?_
   obtain⟨F',hK',hst⟩:=h.putD_new hn hK;rw[hd];exact hk F' _ w' hK' hst
 ·rw[hw,if_neg (by simp)]
  cases hd:o.dst with
  | none=>rw[hd]at hp;exact hp.elim
  | some d=>
   rw[hd]at hp;obtain⟨F',hK,hst⟩:=h.putD_new (v:=undef) (kG.same (av:=.hold (.tup []) []) Kp) hp;exact hk F' _ w hK hst
theorem Gx {o:Oper} {p:Option Nat × Nat} {d:Nat} {K:(Nat->AV)->Prop} (hm:E8 F o=some p) (hd:o.dst=some d) (h:Na TE N F d p.1 p.2 K):jg P TE N ops o K F:=by
 obtain⟨hg,hmo,-⟩:=Dj hm;obtain⟨T,s⟩:=p;rcases F8 hmo with⟨T',ps,rfl,h1,h2⟩|⟨rfl,h1⟩
 ·unfold jg eL
  rw[hg];simp only;rw[h1];simp only[GP];rw[hd];simp only[mX,h2];exact h
 ·unfold jg eL
  rw[hg];simp only;rw[h1];simp only[GP];rw[hd];simp only[mX];exact h
theorem bh.oneP (h:bh w0 M S0 N S φ F a w) (hTE:∀ t i,TE t=some i->ca P t i) {o:Oper} {K:(Nat->AV)->Prop} (hp:jF P TE N ops o K F)
  {Kc:Act->World->Prop} {Q:Exit->Act->World->Prop} (hk:∀ F' a' w',K F'->St w0 M S0 N F' a' w'->Kc a' w') :
  if Region.wanted o (yielded ops a.tmps) then o.wp P a w Kc Q else Kc (a.put o.dst undef) w:=by
 unfold jF at hp;cases hm:E8 F o with
 | none=>rw[hm]at hp;exact h.oneP0 hTE hp hk
 | some p=>
  rw[hm]at hp;simp only at hp;cases hd:o.dst with
  | none=>rw[hd]at hp;exact hp.elim
  | some d=>
   rw[hd]at hp;simp only at hp;cases hso:iq ops o p.2 with
   | false=>rw[hso]at hp;exact hp.elim
   | true=>
    rw[hso]at hp;have:=h.one hTE (Gx (P:=P) (ops:=ops) hm hd hp) (Q:=Q) hk;rw[hd]at this;exact this
theorem Er (hTE:∀ t i,TE t=some i->ca P t i) {m i:Nat} {K:(Nat->AV)->Prop} (hp:uy P TE N ops m i K F) (hs:St w0 M S0 N F a w) {Kc:Act->World->Prop} {Q:Exit->Act->World->Prop}
  (hk:∀ F' a' w',K F'->St w0 M S0 N F' a' w'->Kc a' w'):wpOp P ops Q i Kc a w:=by
 unfold uy at hp;unfold wpOp;cases ho:ops[i]? with
 | none=>rw[ho]at hp;exact hk F a w hp hs
 | some o=>
  rw[ho]at hp;simp only at hp |-;obtain⟨S,φ,h⟩:=hs;have:if Region.wanted o (yielded ops a.tmps) then o.wp P a w Kc Q else Kc (a.put o.dst undef) w:=by
   split at hp
   ·exact h.oneP hTE hp hk
   ·exact h.one hTE hp hk
  split
  ·rename_i hw;rw[if_pos hw]at this;exact .inl this
  ·rename_i hw;rw[if_neg hw]at this;exact this
theorem xK (hTE:∀ t i,TE t=some i->ca P t i) {m:Nat} {K:(Nat->AV)->Prop} {Q:Exit->Act->World->Prop} (hk:∀ F' a' w',K F'->St w0 M S0 N F' a' w'->Q .normal a' w') :
  ∀ (fuel:Nat) (listed:Array Bool) (F:Nat->AV) (a:Act) (w:World),DE P TE N ops m K fuel listed F->St w0 M S0 N F a w->wpAny P .any ops Q fuel listed a w
 | 0,_,F,a,w,hp,hs=>⟨hp.1,hk F a w hp.2 hs⟩
 | fuel+1,_,F,a,w,hp,hs=>⟨fun h0=>hk F a w (hp.1 h0) hs,fun i hi=>Er hTE (hp.2 i hi) hs fun F' a' w' hK hs'=>xK hTE hk fuel _ F' a' w' hK hs'⟩
structure xX (ops:Array Oper) (m:Nat) (F:Nat->AV) (listed:Array Bool):Prop where
 dst:∀ j o d,j<m->ops[j]? = some o->listed.getD j true=false->o.dst=some d->∀ t,(F t).uses d=false
 mv:∀ j o T s,j<m->ops[j]? = some o->listed.getD j true=false->o.guard=none->lI o.op=some (T,s)->iq ops o s=true->∀ t,(F t).uses s=false
def DC (ops:Array Oper) (listed:Array Bool):Prop:=∀ j oj,ops[j]? = some oj->listed.getD j false=true->∀ k,cL oj k=true->listed.getD k false=true
theorem KV {d e:Nat} {v:AV} (h:(kl d v).uses e=true):v.uses e=true/\v.uses d=false:=by
 rw[yc]at h;cases hd:v.uses d with
 | true=>rw[hd]at h;cases h
 | false=>rw[hd]at h;exact⟨h,rfl⟩
theorem uN {α:Type} {p:α->Bool} : ∀ {l:List α} {i j:Nat} {x y:α},(l.filter p).length<=1->l[i]? = some x->l[j]? = some y->p x=true->p y=true->i=j
 | [],_,_,_,_,_,h,_,_,_=>by simp at h
 | a::l,0,0,_,_,_,_,_,_,_=>rfl
 | a::l,i+1,j+1,x,y,h,hx,hy,px,py=>by
  rw[uN (l:=l) (W3 (List.Sublist.length_le ((List.sublist_cons_self a l).filter p)) h) hx hy px py]
 | a::l,0,j+1,x,y,h,hx,hy,px,py=>by
  simp only[List.getElem?_cons_zero,T0]at hx;subst hx;rw[List.filter_cons_of_pos px]at h;have:y∈l.filter p:=Q3.2 ⟨O1 hy,py⟩;have:=List.length_pos_of_mem this;rw[List.length_cons]at h;omega
 | a::l,i+1,0,x,y,h,hx,hy,px,py=>by
  simp only[List.getElem?_cons_zero,T0]at hy;subst hy;rw[List.filter_cons_of_pos py]at h;have:x∈l.filter p:=Q3.2 ⟨O1 hx,px⟩;have:=List.length_pos_of_mem this;rw[List.length_cons]at h;omega
theorem gN {listed:Array Bool} {j j':Nat} (hl:(listed.setIfInBounds j true).getD j' true=false):j'≠j:=fun e=>by
 subst e;have hlt:j'<listed.size:=by
  rcases Nat.lt_or_ge j' listed.size with h|h
  ·exact h
  ·simp[Array.getD_eq_getD_getElem?,Array.getElem?_eq_none (show(listed.setIfInBounds j' true).size<=j' by simpa using h)]at hl
 simp[Array.getD_eq_getD_getElem?,hlt]at hl
theorem iH {mv:Option Nat} {d e t:Nat} {av:AV} (hav:av.uses e=false) (hF:(F t).uses e=false):(eff mv d av F t).uses e=false:=by
 unfold eff;split
 ·exact hav
 ·split
  ·exact JF _ _
  ·exact hF
theorem xX.put {m j d:Nat} {mv:Option Nat} {listed:Array Bool} {av:AV} (h:xX ops m F listed) (hav:∀ j' o' d',j'<m->j'≠j->ops[j']? = some o'->listed.getD j' true=false->o'.dst=some d'->av.uses d'=false)
  (hmv:∀ j' o' T s,j'<m->j'≠j->ops[j']? = some o'->listed.getD j' true=false->o'.guard=none->lI o'.op=some (T,s)->iq ops o' s=true->av.uses s=false) :
  xX ops m (eff mv d av F) (listed.setIfInBounds j true):=by
 refine⟨fun j' o' d' hm hj' hl hd' t=>?_,fun j' o' T s hm hj' hl hg hmo hso t=>?_⟩
 ·have hne:=gN hl
  rw[getD_set_ne true (Ne.symm hne)]at hl;exact iH (hav j' o' d' hm hne hj' hl hd') (h.dst j' o' d' hm hj' hl hd' t)
 ·have hne:=gN hl
  rw[getD_set_ne true (Ne.symm hne)]at hl;exact iH (hmv j' o' T s hm hne hj' hl hg hmo hso) (h.mv j' o' T s hm hj' hl hg hmo hso t)
inductive mA (ops:Array Oper):Nat->Nat->Prop
 |one {j i:Nat} (h:cL (cI ops j) i=true):mA ops j i
 |step {j k i:Nat} (h:cL (cI ops j) k=true) (h2:mA ops k i):mA ops j i
theorem mA.trans {i j k:Nat} (h:mA ops j k) (h2:mA ops k i):mA ops j i:=by
 induction h with
 | one h=>exact .step h h2
 | step h _ ih=>exact .step h (ih h2)
theorem BF {i:Nat} : ∀ {ks:List Nat},(BV ks).testBit i=true->i∈ks
 | [],h=>by simp[BV]at h
 | k::ks,h=>by
  rw[BV,Nat.testBit_or,Bool.or_eq_true]at h;rcases h with h|h
  ·rw[Nat.testBit_two_pow]at h
   rw[C0]at h;rw[h];exact I1
  ·exact List.mem_cons_of_mem _ (BF h)
theorem uF {o:Oper} {i:Nat} (h:(BV (ons o)).testBit i=true):cL o i=true:=by
 have:=BF h;unfold ons at this;obtain⟨e,he,rfl⟩:=P3.1 this;rw[Q3]at he;exact bX.2 ⟨e,by simpa using he.1,he.2,rfl⟩
theorem qv {j:Nat} : ∀ (k S:Nat),(∀ i,S.testBit i=true->mA ops j i)->∀ i,(clo ops k S).testBit i=true->mA ops j i
 | 0,_,h,i,hi=>h i hi
 | k+1,S,h,i,hi=>by
  rw[clo,HC]at hi;cases hb:S.testBit k with
  | false=>rw[hb]at hi;exact qv k S h i hi
  | true=>
   rw[hb]at hi;refine qv k _ (fun i' hi'=>?_) i hi;rw[Nat.testBit_or,Bool.or_eq_true]at hi';rcases hi' with h'|h'
   ·exact h i' h'
   ·exact(h k hb).trans (.one (uF h'))
theorem mf {listed:Array Bool} (hdc:DC ops listed) (hback:∀ j oj,ops[j]? = some oj->∀ e∈oj.after,Region.binds .any e=true->e.on<j) {j i:Nat} (hr:mA ops j i):j<ops.size->(∀ k,cL (cI ops j) k=true->listed.getD k false=true)->listed.getD i false=true:=by
 induction hr with
 | one h=>exact fun _ hj=>hj _ h
 | @step j k i h h2 ih=>
  intro hlt hj;have hk:k<j:=by
   have h0:=(show ops[j]? = some ops[j] from Array.getElem?_eq_getElem hlt)
   rw[aX h0]at h;obtain⟨e,he1,he2,rfl⟩:=bX.1 h;exact hback j _ h0 e he1 he2
  have hk':k<ops.size:=by omega
  have h0:=(show ops[k]? = some ops[k] from Array.getElem?_eq_getElem hk')
  exact ih hk' fun k' hk'=>hdc k _ h0 (hj k h) k' (by rw[aX h0]at hk';exact hk')
theorem DC.put {listed:Array Bool} (h:DC ops listed) {j:Nat} (hj:j∈Region.ready .any ops listed):DC ops (listed.setIfInBounds j true):=by
 obtain⟨h1,oj,hoj,hall⟩:=mem_ready.1 hj;intro k ok hk hl e he;by_cases hkj:k=j
 ·subst hkj
  rw[hoj]at hk;simp only[T0]at hk;subst hk;obtain⟨e',he1,he2,rfl⟩:=bX.1 he;exact getD_set_true (hall e' he1 he2)
 ·rw[getD_set_ne false (Ne.symm hkj)]at hl
  exact getD_set_true (h k ok hk hl e he)
theorem fm {o:Oper} {s:Nat} (h:iq ops o s=true):(∃ k ok,cL o k=true/\ops[k]? = some ok/\ok.dst=some s)/\∀ (i j:Nat) (oi oj:Oper),ops[i]? = some oi->ops[j]? = some oj->s∈oi.looksAt ops->s∈oj.looksAt ops->i=j:=by
 unfold iq at h;rw[I0]at h;obtain⟨h1,h2⟩:=h;constructor
 ·obtain⟨k,hk,hb⟩:=v3.1 h1
  have hlt:=List.mem_range.1 hk;have h0:=(show ops[k]? = some ops[k] from Array.getElem?_eq_getElem hlt)
  rw[I0,aX h0]at hb;refine⟨k,_,hb.1,h0,?_⟩;have:=hb.2;cases hd:ops[k].dst with
  | none=>rw[hd]at this;cases this
  | some a=>rw[hd]at this;simp only at this;rw[P1 this]
 ·intro i j oi oj hi hj hsi hsj
  have hle:=W0 h2;have hi':ops.toList[i]? = some oi:=by simpa using hi
  have hj':ops.toList[j]? = some oj:=by simpa using hj
  have pi:(oi.looksAt ops).any (Nat.beq s)=true:=v3.2 ⟨s,hsi,Nat.beq_refl s⟩;have pj:(oj.looksAt ops).any (Nat.beq s)=true:=v3.2 ⟨s,hsj,Nat.beq_refl s⟩;generalize ops.toList=l at hle hi' hj';exact uN (p:=fun k:Oper=>(k.looksAt ops).any (Nat.beq s)) hle hi' hj' pi pj
structure NP (ops:Array Oper) (m:Nat):Prop where
 back:∀ j oj,ops[j]? = some oj->∀ e∈oj.after,Region.binds .any e=true->e.on<j
 tail:∀ j,m<=j->j<ops.size->∀ i,i<j->mA ops j i
 apart:∀ i j oi oj,i<m->j<m->i≠j->ops[i]? = some oi->ops[j]? = some oj->cL oj i=true\/cL oi j=true\/oi.apart ops oj=true
 look:∀ i j oi oj d,i<m->j<m->i≠j->ops[i]? = some oi->ops[j]? = some oj->oi.dst=some d->d∈oj.looksAt ops->cL oj i=true
theorem De {m:Nat} (h:zz ops m=true):NP ops m:=by
 have hb:∀ j oj,ops[j]? = some oj->_:=fun j oj hj=>fL h (R2.1 hj).1
 refine⟨fun j oj hj e he hbe=>?_,fun j hm hj i hi=>?_,fun i j oi oj hi hj hne h1 h2=>?_,fun i j oi oj d hi hj hne h1 h2 hd hl=>?_⟩
 ·have:=hb j oj hj
  rw[aX hj]at this;simp only[I0]at this;have:=z3.1 this.1 e (by simpa using he);rw[hbe]at this;simpa[Nat.blt_eq] using this
 ·have hj':=(show ops[j]? = some ops[j] from Array.getElem?_eq_getElem hj)
  have:=hb j _ hj';simp only[I0]at this;have h3:=this.2;rw[show Nat.blt j m=false by rw[<-Bool.not_eq_true,Nat.blt_eq];omega]at h3;simp only[cond_false,HC]at h3;exact qv j _ (fun i' hi'=>.one (uF hi')) i (fL h3 hi)
 ·have:=hb j oj h2
  rw[aX h2]at this;simp only[I0]at this;have h3:=this.2;rw[show Nat.blt j m=true by simpa[Nat.blt_eq] using hj]at h3;have h4:=fL h3 hi;rw[aX h1,show Nat.beq i j=false by rw[<-Bool.not_eq_true,Nat.beq_eq];exact hne]at h4;simp only[Bool.false_or,I0,Bool.or_eq_true]at h4;rcases h4.1 with(h|h)|h
  ·exact .inl h
  ·exact .inr (.inl h)
  ·exact .inr (.inr h)
 ·have:=hb j oj h2
  rw[aX h2]at this;simp only[I0]at this;have h3:=this.2;rw[show Nat.blt j m=true by simpa[Nat.blt_eq] using hj]at h3;have h4:=fL h3 hi;rw[aX h1,show Nat.beq i j=false by rw[<-Bool.not_eq_true,Nat.beq_eq];exact hne]at h4;simp only[Bool.false_or,I0,Bool.or_eq_true]at h4;rcases h4.2 with h|h
  ·exfalso
   unfold re at h;rw[aX h1,hd]at h;simp only at h;rw[aX h2]at h;have:(oj.looksAt ops).any (Nat.beq d)=true:=v3.2 ⟨d,hl,Nat.beq_refl d⟩;rw[this]at h;cases h
  ·exact h
theorem G6 {m:Nat} (hok:NP ops m) {i d:Nat} {oi:Oper} {mv:Option Nat} {av:AV} {K:(Nat->AV)->Prop} (hi:ops[i]? = some oi) (him:i<m) :
  ∀ (fuel:Nat) (listed:Array Bool) (F:Nat->AV),i∈Region.ready .any ops listed->xX ops m F listed->DC ops listed->Yl P TE N ops oi F mv d av->DE P TE N ops m K fuel (listed.setIfInBounds i true) (eff mv d av F)->DE P TE N ops m K (fuel+1) listed F:=by
 have self:∀ (listed:Array Bool) (F:Nat->AV),i∈Region.ready .any ops listed->xX ops m F listed->Yl P TE N ops oi F mv d av->∀ K':(Nat->AV)->Prop,K' (eff mv d av F)->jF P TE N ops oi K' F:=fun listed F hr hcl hy K' hK=>by
  have hiun:=(mem_ready.1 hr).1;refine hy.at_ F (ik.refl _ _) (hcl.dst i oi d him hi hiun hy.dst) (fun s hs=>?_) K' hK;obtain⟨h1,⟨T,h2⟩,h3⟩:=hy.mvl s hs;exact hcl.mv i oi T s him hi hiun h1 h2 h3
 intro fuel
 induction fuel with
 | zero=>
  intro listed F hr hcl hdc hy H;refine⟨fun h=>(by rw[h]at hr;cases hr),fun j hj=>?_⟩;by_cases hji:j=i
  ·subst hji
   unfold uy;rw[hi];simp only[if_pos him];exact self listed F hr hcl hy _ H
  ·have:=ready_mono hj hji
   rw[H.1]at this;cases this
 | succ fuel ih=>
  intro listed F hr hcl hdc hy H;refine⟨fun h=>(by rw[h]at hr;cases hr),fun j hj=>?_⟩;by_cases hji:j=i
  ·subst hji
   unfold uy;rw[hi];simp only[if_pos him];exact self listed F hr hcl hy _ H
  ·have h1:=H.2 j (ready_mono hj hji)
   obtain⟨hjun,oj,hoj,hall⟩:=mem_ready.1 hj;have hiun:=(mem_ready.1 hr).1;have unl:∀ k,listed.getD k true=false->listed.getD k false=true->False:=fun k h1 h2=>by
    rcases Nat.lt_or_ge k listed.size with h'|h'
    ·simp[h']at h1 h2;rw[h1]at h2;cases h2
    ·simp[Array.getElem?_eq_none h']at h2
   have noedge:∀ k ok,ops[k]? = some ok->listed.getD k true=false->cL oj k=false:=fun k ok hk hkun=>by
    rw[<-Bool.not_eq_true];intro he;obtain⟨e,he1,he2,he3⟩:=bX.1 he;exact unl k hkun (he3 ▸ hall e he1 he2)
   have noedge':∀ k ok,ops[k]? = some ok->listed.getD k true=false->cL oi k=false:=fun k ok hk hkun=>by
    rw[<-Bool.not_eq_true];intro he;obtain⟨e,he1,he2,he3⟩:=bX.1 he;obtain⟨-,oi',hoi',hall'⟩:=mem_ready.1 hr;rw[hi]at hoi';simp only[T0]at hoi';subst hoi';exact unl k hkun (he3 ▸ hall' e he1 he2)
   have hjm:j<m:=by
    rcases Nat.lt_or_ge j m with h|h
    ·exact h
    ·have hjlt:=(R2.1 hoj).1
     refine(unl i hiun (mf hdc hok.back (hok.tail j h hjlt i (by omega)) hjlt fun k hk=>?_)).elim;rw[aX hoj]at hk;obtain⟨e,he1,he2,rfl⟩:=bX.1 hk;exact hall e he1 he2
   have hap:oi.apart ops oj=true:=by
    rcases hok.apart i j oi oj him hjm (Ne.symm hji) hi hoj with h|h|h
    ·rw[noedge i oi hi hiun]at h;cases h
    ·rw[noedge' j oj hoj hjun]at h;cases h
    ·exact h
   obtain⟨ap1,ap2,ap3⟩:=Oper.apart_spec hap;unfold uy at h1 |-;rw[hoj]at h1 |-;simp only[if_pos hjm]at h1 |-;have hdl:d∉oj.looksAt ops:=ap1 d hy.dst;have cd:∀ t,(F t).uses d=false:=hcl.dst i oi d him hi hiun hy.dst
   have cdj':∀ dj,oj.dst=some dj->∀ t,(F t).uses dj=false:=fun dj hdj=>hcl.dst j oj dj hjm hoj hjun hdj
   have cmv:∀ s,mv=some s->(∀ t,(F t).uses s=false)/\s∉oj.looksAt ops/\s∈oi.looksAt ops:=fun s hs=>by
    obtain⟨g1,⟨T,g2⟩,g3⟩:=hy.mvl s hs;exact⟨hcl.mv i oi T s him hi hiun g1 g2 g3,fun hl=>hji ((fm g3).2 i j oi oj hi hoj (cJ g2) hl).symm,cJ g2⟩
   have cmvj:∀ T s,oj.guard=none->lI oj.op=some (T,s)->iq ops oj s=true->(∀ t,(F t).uses s=false)/\s∉oi.looksAt ops/\s∈oj.looksAt ops:=fun T s g1 g2 g3=>
    ⟨hcl.mv j oj T s hjm hoj hjun g1 g2 g3,fun hl=>hji ((fm g3).2 i j oi oj hi hoj hl (cJ g2)).symm,cJ g2⟩
   have avno:∀ e,e∉oi.looksAt ops->(∀ t,(F t).uses e=false)->av.uses e=false:=fun e h1 h2=>by
    cases hu:av.uses e with
    | false=>rfl
    | true=>
     rcases hy.from_ e hu with h|⟨t,_,h⟩
     ·exact absurd h h1
     ·rw[h2 t]at h;cases h
   obtain⟨mvj,dj,avj,hyj,hKj⟩:=o9 h1 (fun dj hdj t=>iH (avno dj (ap3 dj hdj) (cdj' dj hdj)) (cdj' dj hdj t)) (fun T s g1 g2 g3 t=>by
     obtain⟨c1,c2,-⟩:=cmvj T s g1 g2 g3;exact iH (avno s c2 c1) (c1 t))
   have hdne:d≠dj:=fun e=>ap2 d hy.dst (by rw[hyj.dst,e])
   have hdjl:dj∉oi.looksAt ops:=ap3 dj hyj.dst;have cdj:∀ t,(F t).uses dj=false:=cdj' dj hyj.dst
   have cmj:∀ s,mvj=some s->(∀ t,(F t).uses s=false)/\s∉oi.looksAt ops/\s∈oj.looksAt ops:=fun s hs=>by
    obtain⟨g1,⟨T,g2⟩,g3⟩:=hyj.mvl s hs;exact cmvj T s g1 g2 g3
   have lookj:∀ t,t∈oj.looksAt ops->eff mv d av F t=F t:=fun t ht=>by
    unfold eff;have e1:t≠d:=fun e=>hdl (e ▸ ht)
    have e2:mv≠some t:=fun e=>(cmv t e).2.1 ht
    rw[if_neg e1,if_neg e2]
   have looki:∀ t,t∈oi.looksAt ops->eff mvj dj avj F t=F t:=fun t ht=>by
    unfold eff;have e1:t≠dj:=fun e=>hdjl (e ▸ ht)
    have e2:mvj≠some t:=fun e=>(cmj t e).2.1 ht
    rw[if_neg e1,if_neg e2]
   have avjno:∀ e,e∉oj.looksAt ops->(∀ t,(F t).uses e=false)->avj.uses e=false:=fun e h1 h2=>by
    cases hu:avj.uses e with
    | false=>rfl
    | true=>
     rcases hyj.from_ e hu with h|⟨t,ht,h⟩
     ·exact absurd h h1
     ·rw[lookj t ht,h2 t]at h;cases h
   have agrj:ik (eff mv d av F) F (oj.looksAt ops):=fun t ht=>by
    rw[lookj t ht];refine⟨rfl,fun t' hu k cs hh=>?_⟩;have hne':t'≠d:=fun e=>by rw[e,cd t]at hu;cases hu
    have hnm:mv≠some t':=fun e=>by rw[(cmv t' e).1 t]at hu;cases hu
    unfold eff at hh;rw[if_neg hne',if_neg hnm]at hh;exact hh
   refine hyj.at_ F agrj cdj (fun s hs=>(cmj s hs).1) _ (ih (listed.setIfInBounds j true) (eff mvj dj avj F) (ready_mono hr (Ne.symm hji)) (hcl.put (fun j' o' d' hm' hne' hj' hl' hd'=>?_) (fun j' o' T s hm' hne' hj' hl' g1 g2 g3=>?_)) (hdc.put hj) ?_ ?_)
   ·refine avjno d' (fun h=>?_) (hcl.dst j' o' d' hm' hj' hl' hd')
    have:=hok.look j' j o' oj d' hm' hjm hne' hj' hoj hd' h;rw[noedge j' o' hj' hl']at this;cases this
   ·exact avjno s (fun h=>hne' ((fm g3).2 j' j o' oj hj' hoj (cJ g2) h)) (hcl.mv j' o' T s hm' hj' hl' g1 g2 g3)
   ·refine⟨hy.dst,hy.lt,hy.self,fun e he=>?_,hy.mvl,fun F' hA hd' hs' K' hK=>hy.at_ F' (fun t ht=>?_) hd' hs' K' hK⟩
    ·rcases hy.from_ e he with h|⟨t,ht,h⟩
     ·exact .inl h
     ·exact .inr ⟨t,ht,by rw[looki t ht];exact h⟩
    ·obtain⟨a1,a2⟩:=hA t ht
     rw[looki t ht]at a1 a2;refine⟨a1,fun t' hu k cs hh=>a2 t' hu k cs ?_⟩;have hne':t'≠dj:=fun e=>by rw[e,cdj t]at hu;cases hu
     have hnm:mvj≠some t':=fun e=>by rw[(cmj t' e).1 t]at hu;cases hu
     unfold eff;rw[if_neg hne',if_neg hnm];exact hh
   ·rw[Array.setIfInBounds_comm _ _ hji]
    have:eff mv d av (eff mvj dj avj F)=eff mvj dj avj (eff mv d av F):=by
     funext t
     unfold eff;by_cases e1:t=d
     ·have g1:t≠dj:=fun e=>hdne (e1.symm.trans e)
      have g2:mvj≠some t:=fun e=>hdl (e1 ▸ (cmj t e).2.2)
      simp only[if_pos e1,if_neg g1,if_neg g2]
     ·rw[if_neg e1]
      by_cases e2:t=dj
      ·have g2:mv≠some t:=fun e=>hdjl (e2 ▸ (cmv t e).2.2)
       simp only[if_pos e2,if_neg g2]
      ·simp only[if_neg e2,if_neg e1]
       by_cases e3:mv=some t
       ·by_cases e4:mvj=some t
        ·simp only[if_pos e3,if_pos e4]
        ·simp only[if_pos e3,if_neg e4]
       ·by_cases e4:mvj=some t
        ·simp only[if_neg e3,if_pos e4]
        ·simp only[if_neg e3,if_neg e4]
    rw[this];exact hKj
theorem rW {o:Op} {K K':AV->Prop} (h:df P TE F o K) (hk:∀ av,K av->K' av):df P TE F o K':=by
 obtain⟨av,h1,-,h3⟩:=kX h;exact h3 F (ik.refl _ _) K' (hk av h1)
theorem bI {d:Nat} {av:AV} {K K':(Nat->AV)->Prop} (h:bM N F d av K) (hk:∀ F',K F'->K' F'):bM N F d av K':=by
 unfold bM at h |-;cases hc:(N.free d&&!av.uses d) with
 | false=>rw[hc]at h;exact h.elim
 | true=>rw[hc]at h;exact hk _ h
theorem fk {y:Operand} {K K':(Nat->AV)->Option Nat->List C->Prop} (h:gj F y K) (hk:∀ F' ag cs,K F' ag cs->K' F' ag cs):gj F y K':=by
 cases y with
 | tmp t=>
  simp only[gj]at h |-;cases hF:F t with
  | hold k cs=>
   rw[hF]at h;cases k with
   | one=>exact hk _ _ _ h
   | agg=>exact hk _ _ _ h
   | _=>exact h.elim
  | bor t2 off st ag=>
   rw[hF]at h;cases st with
   | cons s st=>
    simp only at h |-;cases hF2:F t2 with
    | hold k cs=>
     rw[hF2]at h;obtain⟨r,j,e1,e2,e3,hK⟩:=Lq.out h;exact .mk_ ⟨r,j,_,_,e1,e2,e3,rfl,rfl,hk _ _ _ hK⟩
    | _=>rw[hF2]at h;exact h.elim
   | nil=>
    simp only at h |-;cases hF2:F t2 with
    | hold k cs=>
     rw[hF2]at h;simp only at h |-;cases hb:Nat.ble (off+ag.getD 1) cs.length with
     | false=>rw[hb]at h;exact h.elim
     | true=>rw[hb]at h;exact hk _ _ _ h
    | _=>rw[hF2]at h;exact h.elim
  | _=>rw[hF]at h;exact h.elim
 | _=>exact h.elim
theorem yB {x:Operand} {K K':AV->Prop} (h:bk F x K) (hk:∀ av,K av->K' av):bk F x K':=by
 obtain⟨av,h1,-,h3⟩:=iL h;exact h3 F (ik.refl _ _) K' (hk av h1)
theorem Bh {d:Nat} {x:Operand} {K K':(Nat->AV)->Prop} (h:jn N F d x K) (hk:∀ F',K F'->K' F'):jn N F d x K':=by
 have m1:∀ y,bk F y (fun av=>bM N F d av K)->bk F y (fun av=>bM N F d av K'):=fun y h=>yB h fun av h=>bI h hk
 have m2:∀ y,gj F y (fun F' ag cs=>bM N F' d (.hold (jV ag) cs) K)->gj F y (fun F' ag cs=>bM N F' d (.hold (jV ag) cs) K'):=fun y h=>fk h fun F' ag cs h=>bI h hk
 cases x with
 | tmp t=>
  unfold jn at h |-;simp only at h |-;cases hF:F t with
  | hold k cs=>
   rw[hF]at h;cases k with
   | one=>
    simp only at h |-;cases hn:aW cs with
    | true=>rw[hn]at h;exact m1 (.tmp t) h
    | false=>rw[hn]at h;exact m2 (.tmp t) h
   | agg=>
    simp only at h |-;cases hn:aW cs with
    | true=>rw[hn]at h;exact m1 (.tmp t) h
    | false=>rw[hn]at h;exact m2 (.tmp t) h
   | tup sh=>exact m1 _ h
   | box=>exact m1 _ h
  | bor t2 off st ag=>
   rw[hF]at h;simp only at h |-;cases hn:N.al d with
   | true=>rw[hn]at h;exact m1 (.tmp t) h
   | false=>rw[hn]at h;exact m2 (.tmp t) h
  | dead=>rw[hF]at h;exact m1 _ h
  | ref=>rw[hF]at h;exact m1 _ h
  | iref=>rw[hF]at h;exact m1 _ h
  | fn=>rw[hF]at h;exact m1 _ h
  | fv=>rw[hF]at h;exact m1 _ h
 | const v=>exact m1 (.const v) h
 | global g=>exact m1 (.global g) h
 | func f=>exact m1 (.func f) h
theorem so {x:Operand} {cs:List C} {K K':(Nat->AV)->Prop} (h:oR F x cs K) (hk:∀ F',K F'->K' F'):oR F x cs K':=by
 cases x with
 | tmp t=>
  simp only[oR]at h |-;cases hF:F t with
  | hold k bs=>
   rw[hF]at h;cases k with
   | box=>
    simp only at h |-;cases hb:Nat.ble cs.length bs.length with
    | false=>rw[hb]at h;exact h.elim
    | true=>rw[hb]at h;simp only[cond_true,de]at h |-;exact hk _ h
   | _=>exact h.elim
  | ref t2 off st=>
   rw[hF]at h;cases st with
   | cons s st=>
    simp only at h |-;cases hF2:F t2 with
    | hold k bs=>
     rw[hF2]at h;obtain⟨r,j,e1,e2,e3,hK⟩:=Pu.out h;exact Pu.mk e1 e2 e3 rfl (hk _ hK)
    | _=>rw[hF2]at h;exact h.elim
   | nil=>
    simp only at h |-;cases hF2:F t2 with
    | hold k bs=>
     rw[hF2]at h;cases k with
     | box=>
      simp only at h |-;cases hb:Nat.ble (off+cs.length) bs.length with
      | false=>rw[hb]at h;exact h.elim
      | true=>rw[hb]at h;simp only[cond_true,de]at h |-;exact hk _ h
     | _=>exact h.elim
    | _=>rw[hF2]at h;exact h.elim
  | _=>rw[hF]at h;exact h.elim
 | _=>exact h.elim
theorem DJ {T:Nat} {x y:Operand} {K K':(Nat->AV)->Prop} (h:l9 TE F T x y K) (hk:∀ F',K F'->K' F'):l9 TE F T x y K':=by
 unfold l9 at h |-;split at h
 ·rename_i i hT
  obtain⟨ag,cs,h1,h2⟩:=cF h;refine h2 F (ik.refl _ _) _ ?_;cases hl:Nat.beq cs.length i.size with
  | false=>rw[hl]at h1;exact h1.elim
  | true=>
   rw[hl]at h1;simp only[cond_true]at h1 |-;cases hn:aW cs with
   | true=>rw[hn]at h1;exact so h1 hk
   | false=>
    rw[hn]at h1;simp only[cond_false]at h1 |-;refine fk h1 fun F' ag' cs' h=>?_
    cases hl':Nat.beq cs'.length i.size with
    | false=>rw[hl']at h;exact h.elim
    | true=>rw[hl']at h;exact so h hk
 ·exact h.elim
theorem EN {g:Option (Nat × Bool)} {K1 K0 K1' K0':(Nat->AV)->Prop} (h:eL F ops g K1 K0) (h1:∀ F,K1 F->K1' F) (h0:∀ F,K0 F->K0' F):eL F ops g K1' K0':=by
 unfold eL at h |-;split at h
 ·exact h1 _ h
 ·rename_i j want
  split at h
  ·rename_i d hd
   split at h
   ·rename_i b hF
    replace h:=Bf.out h;cases b<;>cases want<;>first|exact .in_ (h1 _ h)|exact .in_ (h0 _ h)
   ·exact h0 _ h
   ·exact h.elim
  ·exact h.elim
theorem rm {x:Operand} {K K':(Nat->AV)->Option Nat->List C->Prop} (h:sS F x K) (hk:∀ F' ag cs,K F' ag cs->K' F' ag cs):sS F x K':=by
 obtain⟨ag,cs,h1,h2⟩:=cF h;refine h2 F (ik.refl _ _) _ ?_;cases hn:aW cs with
 | true=>rw[hn]at h1;exact hk _ _ _ h1
 | false=>rw[hn]at h1;exact fk h1 hk
theorem iw {pl:Nat->Option (Nat × Nat)} : ∀ {parts:List (Nat × Operand)} {cs:List C} {K K':(Nat->AV)->List C->Prop} {F:Nat->AV},fillW pl parts cs K F->(∀ F' cs,K F' cs->K' F' cs)->fillW pl parts cs K' F
 | [],cs,K,K',F,h,hk=>hk _ _ h
 | p::rest,cs,K,K',F,h,hk=>by
  simp only[fillW]at h |-;split at h
  case h_2=>exact h.elim
  rename_i q hq;refine rm h fun F' ag xs h=>?_
  cases hb:(Nat.beq xs.length q.2&&Nat.ble (q.1+q.2) cs.length) with
  | false=>rw[hb]at h;exact h.elim
  | true=>
   rw[hb]at h;simp only[cond_true,de]at h |-;exact iw h hk
theorem Bl {d T:Nat} {parts:List (Nat × Operand)} {K K':(Nat->AV)->Prop} (h:jp TE N F d T parts K) (hk:∀ F',K F'->K' F'):jp TE N F d T parts K':=by
 unfold jp at h |-;split at h
 case h_2=>exact h.elim
 rename_i size bytes zero flds hT;cases ha:ve TE flds with
 | false=>rw[ha]at h;exact h.elim
 | true=>rw[ha]at h;exact iw h fun F' cs h=>bI h hk
theorem Ar {d T n:Nat} {parts:List (Nat × Operand)} {K K':(Nat->AV)->Prop} (h:eX TE N F d T n parts K) (hk:∀ F',K F'->K' F'):eX TE N F d T n parts K':=by
 obtain⟨e,ie,h,hs⟩:=iF h;refine hs _ ?_;cases hb:Nat.ble (n*ie.size) 16777216 with
 | false=>rw[hb]at h;exact h.elim
 | true=>
  rw[hb]at h;simp only[cond_true]at h |-;split at h
  ·exact bI h hk
  ·rw[de]at h |-
   refine iw h fun F' cs h=>?_
   rw[mH]at h |-;exact bI h hk
  ·exact h.elim
theorem Bv {y:Operand} {K K':Bool->(Nat->AV)->List (List C)->Prop} (h:zf F y K) (hk:∀ b F' xr,K b F' xr->K' b F' xr):zf F y K':=by
 unfold zf at h |-;split at h
 ·refine fk h fun F' ag cs h=>?_
  match ag,cs,h with
  | none,[.s .own rows],h=>exact hk _ _ _ h
 ·obtain⟨ag,cs,h1,h2⟩:=cF h
  refine h2 F (ik.refl _ _) _ ?_
  match ag,cs,h1 with
  | none,[.s o rows],h=>exact hk _ _ _ h
  | none,[.z],h=>exact hk _ _ _ h
theorem xU {x:Operand} {K K':(Nat->AV)->List (List C)->Prop} (h:yi F x K) (hk:∀ F' xr,K F' xr->K' F' xr):yi F x K':=by
 obtain⟨ag,cs,h1,h2⟩:=cF h;refine h2 F (ik.refl _ _) _ ?_
 match ag,cs,h1 with
 | none,[.z],h=>exact hk _ _ h
 | none,[.s .own _],h=>
  refine fk h fun F' ag cs h=>?_
  match ag,cs,h with
  | none,[.s .own rows],h=>exact hk _ _ h
theorem GU {d T:Nat} {x y:Operand} {K K':(Nat->AV)->Prop} (h:xJ TE N F d T x y K) (hk:∀ F',K F'->K' F'):xJ TE N F d T x y K':=by
 obtain⟨e,ie,h,hs⟩:=iF h;refine hs _ (Bv h fun b F' xr h=>xU h fun F'' rows h=>?_);obtain⟨h1,h2,h3,h4,h5,h6⟩:=h.out;exact Ap.mk h1 h2 h3 h4 h5 rfl (bI h6 hk)
theorem BT {d T:Nat} {x:Operand} {K K':(Nat->AV)->Prop} (h:oq TE N F d T x K) (hk:∀ F',K F'->K' F'):oq TE N F d T x K':=by
 unfold oq at h |-;split at h
 case h_2=>exact h.elim
 refine fk h fun F' ag cs h=>?_
 split at h
 ·exact bI h hk
 ·exact h.elim
theorem DO {d:Nat} {x:Operand} {K K':(Nat->AV)->Prop} (h:ig N F d x K) (hk:∀ F',K F'->K' F'):ig N F d x K':=by
 have std:∀ {y:Operand},bk F y (fun av=>bM N F d av K)->bk F y (fun av=>bM N F d av K'):=fun h=>yB h fun av h=>bI h hk
 cases x with
 | tmp t=>
  simp only[ig]at h |-;split at h
  ·rename_i sh cs hF
   cases hn:aW cs with
   | true=>rw[hn]at h;exact bI h hk
   | false=>rw[hn]at h;exact bI h hk
  all_goals exact std h
 | const v=>simp only[ig]at h |-;exact std h
 | global g=>simp only[ig]at h |-;exact std h
 | func f=>simp only[ig]at h |-;exact std h
theorem Ef {d:Nat} {x:Operand} {K K':(Nat->AV)->Prop} (h:rF N F d x K) (hk:∀ F',K F'->K' F'):rF N F d x K':=by
 unfold rF at h |-;split at h
 case h_2=>exact h.elim
 split at h
 case h_2=>exact h.elim
 obtain⟨h0,h1⟩:=h.out;exact Nt.mk (fun e=>bI (h0 e) hk) fun l1 k l2 e=>bI (h1 l1 k l2 e) hk
theorem Bj {d:Nat} {x:Operand} {K K':(Nat->AV)->Prop} (h:nX N F d x K) (hk:∀ F',K F'->K' F'):nX N F d x K':=by
 unfold nX at h |-;split at h
 case h_2=>exact h.elim
 split at h
 case h_2=>exact h.elim
 exact bI h hk
theorem JL {d:Nat} {op:Op} {K K':(Nat->AV)->Prop} (h:mX P TE N d op K F) (hk:∀ F',K F'->K' F'):mX P TE N d op K' F:=by
 cases op with
 | assign x=>exact Bh h hk
 | box T x=>simp only[mX,HX]at h |-;exact rm h fun F' ag cs h=>bI h hk
 | build T ps=>exact Bl h hk
 | buildSlice T n ps=>exact Ar h hk
 | range T x=>exact BT h hk
 | move x=>exact DO h hk
 | next x str=>
  cases str with
  | true=>exact h.elim
  | false=>exact Ef h hk
 | entry x=>exact Bj h hk
 | call c=>
  simp only[mX]at h |-;cases ha:pW c with
  | none=>rw[ha]at h;exact rW h fun av h=>bI h hk
  | some p=>rw[ha]at h;exact GU h hk
 | _=>simp only[mX]at h |-;exact rW h fun av h=>bI h hk
theorem gK {t off n:Nat} {st:cm} {K K':(Nat->AV)->List C->Prop} (h:lendAt F t off st n K) (hk:∀ F' cs,K F' cs->K' F' cs):lendAt F t off st n K':=by
 unfold lendAt at h |-;split at h
 case h_2=>exact h.elim
 split at h
 ·rename_i k bs _ _
  cases hb:Nat.ble (off+n) bs.length with
  | false=>rw[hb]at h;exact h.elim
  | true=>
   rw[hb]at h;simp only[cond_true,de]at h |-;exact hk _ _ h
 ·obtain⟨r,j,h1,h2,h3,hK⟩:=Lq.out h
  refine .mk_ ?_;exact⟨r,j,_,_,h1,h2,h3,rfl,rfl,hk _ _ hK⟩
theorem dr:∀ {xs:List (Operand × Nat)} {K K':(Nat->AV)->List (MA × wI)->Prop} {F:Nat->AV},lendP xs K F->(∀ F' l,K F' l->K' F' l)->lendP xs K' F
 | [],K,K',F,h,hk=>hk _ _ h
 | (x,0)::xs,K,K',F,h,hk=>dr (xs:=xs) h fun F' l h=>hk _ _ h
 | (x,1)::xs,K,K',F,h,hk=>by
  simp only[lendP]at h |-;split at h
  case h_2=>exact h.elim
  split at h
  ·exact gK h fun F' cs h=>dr h fun F'' l h=>hk _ _ h
  ·exact gK h fun F' cs h=>dr h fun F'' l h=>hk _ _ h
  ·exact gK h fun F' cs h=>dr h fun F'' l h=>hk _ _ h
  ·exact h.elim
 | (x,n+2)::xs,K,K',F,h,hk=>by
  simp only[lendP]at h |-;split at h
  case h_2=>exact h.elim
  split at h
  ·split at h
   ·exact dr h fun F'' l h=>hk _ _ h
   ·exact h.elim
  ·exact dr h fun F'' l h=>hk _ _ h
  ·exact h.elim
theorem jJ:∀ {l:List (MA × wI)} {xs:List Operand} {K K':Bool->List MA->Prop},valsP F l xs K->(∀ b A,K b A->K' b A)->valsP F l xs K'
 | [],[],K,K',h,hk=>hk _ _ h
 | (m,.no)::l,x::xs,K,K',h,hk=>by
  obtain⟨ag,cs,h1,h2⟩:=cF h;refine h2 F (ik.refl _ _) _ (jJ h1 fun b A h=>?_);cases hn:aW cs with
  | true=>rw[hn]at h;exact hk _ _ h
  | false=>rw[hn]at h;exact hk _ _ h
 | (m,.at_ t off st)::l,x::xs,K,K',h,hk=>jJ (l:=l) (xs:=xs) h fun b A h=>hk _ _ h
 | (m,.box t)::l,x::xs,K,K',h,hk=>jJ (l:=l) (xs:=xs) h fun b A h=>hk _ _ h
 | [],_::_,K,K',h,hk=>h.elim
 | (m,.no)::l,[],K,K',h,hk=>h.elim
 | (m,.at_ t off st)::l,[],K,K',h,hk=>h.elim
 | (m,.box t)::l,[],K,K',h,hk=>h.elim
theorem dH {K K':(Nat->AV)->Prop} (hk:∀ F',K F'->K' F'):∀ {l:List (MA × wI)} {B:List MA} {F:Nat->AV},ip l B K F->ip l B K' F
 | [],[],F,h=>hk _ h
 | [],_::_,F,h=>h.elim
 | (m,.no)::l,[],F,h=>h.elim
 | (m,.at_ t off st)::l,[],F,h=>h.elim
 | (m,.box t)::l,[],F,h=>h.elim
 | (m,.no)::l,.val _ _::B,F,h=>dH hk (l:=l) (B:=B) h
 | (m,.no)::l,.mut _ _::B,F,h=>dH hk (l:=l) (B:=B) h
 | (m,.no)::l,.ptr _::B,F,h=>dH hk (l:=l) (B:=B) h
 | (m,.at_ t off st)::l,.val _ _::B,F,h=>h.elim
 | (m,.at_ t off st)::l,.ptr _::B,F,h=>h.elim
 | (m,.box t)::l,.val _ _::B,F,h=>h.elim
 | (m,.box t)::l,.mut _ _::B,F,h=>h.elim
 | (m,.at_ t off st)::l,.mut ag out::B,F,h=>by
  simp only[ip]at h |-;split at h
  case h_2=>exact h.elim
  split at h
  ·rename_i k bs _ _
   cases hb:Nat.ble (off+out.length) bs.length with
   | false=>rw[hb]at h;exact h.elim
   | true=>
    rw[hb]at h;simp only[cond_true,de]at h |-;exact dH hk h
  ·obtain⟨r,j,e1,e2,e3,hK⟩:=Pu.out h
   exact Pu.mk e1 e2 e3 rfl (dH hk hK)
 | (m,.box t)::l,.ptr out::B,F,h=>by
  simp only[ip]at h |-;split at h
  ·exact dH hk h
  ·exact h.elim
theorem Ek {d:Option Nat} {f:Nat} {args:List Operand} {modes:List Nat} {K K':(Nat->AV)->Prop} (h:mS P N F d f args modes K) (hk:∀ F',K F'->K' F'):mS P N F d f args modes K':=by
 unfold mS at h |-;refine dr h fun F' l h=>?_
 cases hb:(vr l&&Nat.beq args.length modes.length) with
 | false=>rw[hb]at h;exact h.elim
 | true=>
  rw[hb]at h;refine jJ h fun b A h=>?_
  obtain⟨sh,B,k,rcs,h1,h2,h3⟩:=cv.out h;refine cv.mk h1 h2 (dH (fun F'' h=>?_) h3);cases d with
  | none=>exact hk _ h
  | some d=>exact bI h hk
theorem oc {F:Nat->AV} {x:Operand} {K K':Nat->Nat->Prop} (h:EM F x K) (hk:∀ t o,K t o->K' t o):EM F x K':=by
 obtain⟨s,t,off,rfl,hF,hK⟩:=vb h;simp only[EM,hF];exact hk _ _ hK
theorem GJ {d:Option Nat} {t:Nat} {cs:List C} {o0 n0 o1 n1:Nat} {K K':(Nat->AV)->Prop} {k:Kd} {rcs:List C} {B:List MA} (h:BI N F d t cs o0 n0 o1 n1 K k rcs B) (hk:∀ F',K F'->K' F'):BI N F d t cs o0 n0 o1 n1 K' k rcs B:=by
 unfold BI at h |-;split at h
 case h_2=>exact h.elim
 rename_i c0 c1;cases hl:(Nat.beq c0.length n0&&Nat.beq c1.length n1) with
 | false=>rw[hl]at h;exact h.elim
 | true=>
  rw[hl]at h;simp only[cond_true,de]at h |-;cases d with
  | none=>exact hk _ h
  | some d=>exact bI h hk
theorem DR {d:Option Nat} {f:Nat} {args:List Operand} {n0 n1:Nat} {K K':(Nat->AV)->Prop} (h:lH P N F d f args n0 n1 K) (hk:∀ F',K F'->K' F'):lH P N F d f args n0 n1 K':=by
 unfold lH at h |-;split at h
 case h_2=>exact h.elim
 refine oc h fun t o0 h=>oc h fun t' o1 h=>?_
 split at h
 case h_2=>exact h.elim
 rename_i cs hF;cases hb:(Nat.beq t' t&&Nat.ble (o0+n0) o1&&Nat.ble (o1+n1) cs.length) with
 | false=>rw[hb]at h;exact h.elim
 | true=>
  rw[hb]at h;simp only[cond_true,de]at h |-;obtain⟨sh,B,k,rcs,h1,h2,h3⟩:=cv.out h;exact cv.mk h1 h2 (GJ h3 hk)
theorem El {d:Option Nat} {f:Nat} {args:List Operand} {modes:List Nat} {K K':(Nat->AV)->Prop} (h:lJ P N F d f args modes K) (hk:∀ F',K F'->K' F'):lJ P N F d f args modes K':=by
 unfold lJ at h |-;split
 ·rename_i p hp;rw[hp]at h;exact DR h hk
 ·rename_i hp;rw[hp]at h;exact Ek h hk
theorem sL {t off:Nat} {z:Int} {v:Value} {K K':(Nat->AV)->Prop} (h:putMap F t off z v K) (hk:∀ F',K F'->K' F'):putMap F t off z v K':=by
 unfold putMap at h |-;cases hF:F t with
 | hold k bs=>
  rw[hF]at h;simp only at h |-;cases hc:bs[off]? with
  | none=>rw[hc]at h;exact h.elim
  | some c=>
   rw[hc]at h;cases c with
   | m es=>
    simp only at h |-;have:=h.out;refine Mu.mk rfl ?_;simp only[de]at this |-;exact hk _ this
   | _=>exact h.elim
 | _=>rw[hF]at h;exact h.elim
theorem BU {T:Nat} {x y v:Operand} {K K':(Nat->AV)->Prop} (h:o6 TE F T x y v K) (hk:∀ F',K F'->K' F'):o6 TE F T x y v K':=by
 unfold o6 at h |-;split at h
 case h_2=>exact h.elim
 obtain⟨z,h1,l1⟩:=hC h;refine l1 F (ik.refl F _) _ ?_;obtain⟨z2,h2,l2⟩:=hC h1;refine l2 F (ik.refl F _) _ ?_;split at h2
 case h_2=>exact h2.elim
 split at h2
 case h_2=>exact h2.elim
 split at h2
 ·exact sL h2 hk
 ·exact sL h2 hk
 ·exact h2.elim
theorem jE {o:Oper} {K K':(Nat->AV)->Prop} (h:jg P TE N ops o K F) (hk:∀ F',K F'->K' F'):jg P TE N ops o K' F:=by
 unfold jg at h |-;refine EN h (fun F h=>?_) (fun F h=>?_)
 ·split at h
  ·exact El h hk
  ·split at h
   ·split at h
    ·exact DJ h hk
    ·exact BU h hk
    ·exact h.elim
   ·exact JL h hk
 ·split at h
  ·exact hk _ h
  ·exact bI h hk
theorem zR {m:Nat} (hok:NP ops m) {K:(Nat->AV)->Prop} (hm:m<=ops.size):∀ (l:List Oper) (k:Nat) (listed:Array Bool) (F:Nat->AV),(∀ j,l[j]? = ops[k+j]?)->listed.size=ops.size->(∀ j,j<ops.size->listed.getD j true=decide (j<k))->xX ops m F listed->DC ops listed->
  H3 P TE N ops (m - k) l K F->DE P TE N ops m K l.length listed F
 | [],k,listed,F,hl,hs,hli,_,_,hp=>by
  have hk:ops.size<=k:=by
   rcases Nat.lt_or_ge k ops.size with h|h
   ·have:=hl 0;simp[h]at this
   ·exact h
  refine⟨?_,?_⟩
  ·apply List.eq_nil_iff_forall_not_mem.2
   intro j hj;obtain⟨h1,o,ho,-⟩:=mem_ready.1 hj;have hlt:=(R2.1 ho).1;rw[hli j hlt]at h1;simp at h1;omega
  ·cases hmk:m - k with
   | zero=>rw[hmk]at hp;exact hp
   | succ x=>rw[hmk]at hp;exact hp
 | o::l,k,listed,F,hl,hs,hli,hcl,hdc,hp=>by
  have h0:ops[k]? = some o:=by simpa using (hl 0).symm
  have hk:=(R2.1 h0).1;have hready:k∈Region.ready .any ops listed:=mem_ready.2 ⟨by rw[hli k hk];simp,o,h0,fun e he hb=>by
    have:=hok.back k o h0 e he hb;have h1:=hli e.on (by omega);rw[show decide (e.on<k)=true by simpa using this]at h1;have h2:e.on<listed.size:=by omega
    simp[h2]at h1 |-;exact h1⟩
  have hl':∀ j,l[j]? = ops[k+1+j]?:=fun j=>by have:=hl (j+1);simpa[Nat.add_assoc,Nat.add_comm 1 j] using this
  have hli':∀ j,j<ops.size->(listed.setIfInBounds k true).getD j true=decide (j<k+1):=fun j hj=>by
   by_cases hjk:j=k
   ·subst hjk;simp[hs,hj]
   ·rw[getD_set_ne true (Ne.symm hjk),hli j hj]
    simp only[decide_eq_decide];omega
  show DE P TE N ops m K (l.length+1) listed F;by_cases hkm:k<m
  ·have e1:m - k=(m - (k+1))+1:=by omega
   rw[e1]at hp;obtain⟨mv,d,av,hy,hp⟩:=o9 (show jF P TE N ops o (H3 P TE N ops (m - (k+1)) l K) F from hp) (fun d hd=>hcl.dst k o d hkm h0 (by rw[hli k hk];simp) hd) (fun T s g1 g2 g3=>hcl.mv k o T s hkm h0 (by rw[hli k hk];simp) g1 g2 g3);refine G6 hok h0 hkm l.length listed F hready hcl hdc hy (zR hok hm l (k+1) _ _ hl' (by simpa using hs) hli' (hcl.put (fun j' o' d' hm' hne' hj' hl'' hd'=>?_) (fun j' o' T s hm' hne' hj' hl'' g1 g2 g3=>?_)) (hdc.put hready) hp)
   ·cases hu:av.uses d' with
    | false=>rfl
    | true=>
     rcases hy.from_ d' hu with h|⟨t,_,h⟩
     ·have:=hok.look j' k o' o d' hm' hkm hne' hj' h0 hd' h
      obtain⟨e,he1,he2,he3⟩:=bX.1 this;have hlt:=hok.back k o h0 e he1 he2;have hj'lt:=(R2.1 hj').1;rw[hli j' hj'lt]at hl'';simp at hl'';omega
     ·rw[hcl.dst j' o' d' hm' hj' hl'' hd' t]at h;cases h
   ·cases hu:av.uses s with
    | false=>rfl
    | true=>
     rcases hy.from_ s hu with h|⟨t,_,h⟩
     ·exact absurd ((fm g3).2 j' k o' o hj' h0 (cJ g2) h) hne'
     ·rw[hcl.mv j' o' T s hm' hj' hl'' g1 g2 g3 t]at h;cases h
  ·refine⟨fun h=>(by rw[h]at hready;cases hready),fun j hj=>?_⟩
   have hjk:j=k:=by
    obtain⟨h1,oj,hoj,hall⟩:=mem_ready.1 hj;have hjlt:=(R2.1 hoj).1;rw[hli j hjlt]at h1;simp at h1;rcases Nat.lt_or_ge k j with hlt|hge
    ·exfalso
     have h2:=mf hdc hok.back (hok.tail j (by omega) hjlt k hlt) hjlt fun k' hk'=>by
      rw[aX hoj]at hk';obtain⟨e,he1,he2,rfl⟩:=bX.1 hk';exact hall e he1 he2
     have h3:=hli k hk;have h4:k<listed.size:=by omega
     simp[h4]at h2 h3;rw[h2]at h3;cases h3
    ·omega
   subst hjk;unfold uy;rw[h0];simp only[if_neg hkm];have e0:m - j=0:=by omega
   rw[e0]at hp;have hp':jg P TE N ops o (Hf P TE N ops l K) F:=hp;have hmono:∀ F',Hf P TE N ops l K F'->DE P TE N ops m K l.length (listed.setIfInBounds j true) F':=fun F' hF'=>
    zR hok hm l (j+1) _ F' hl' (by simpa using hs) hli' ⟨fun j' o' d' hm' hj' hl'' hd'=>by
      have hj'lt:=(R2.1 hj').1;rw[hli' j' hj'lt]at hl'';simp at hl'';omega,fun j' o' T s hm' hj' hl''=>by
      have hj'lt:=(R2.1 hj').1;rw[hli' j' hj'lt]at hl'';simp at hl'';omega⟩ (hdc.put hready) (by rw[show m - (j+1)=0 by omega];cases l<;>exact hF')
   exact jE hp' hmono
theorem St.clr (h:St w0 M S0 N F a w) (ds:List Nat):St w0 M S0 N (Ab.clr ds F) a w:=by
 obtain⟨S,φ,h⟩:=h;refine⟨S,φ,fun t=>?_,h.dis,h.disS,h.ex,h.sub,h.sup,h.old,h.size,h.defers,h.par⟩;rw[yP];cases hb:ds.any (fun d=>(F t).uses d) with
 | true=>trivial
 | false=>
  simp only[cond_false];refine(h.slot t).keep (φ:=φ) (fun t _ _ _=>h.slot t) (fun t' _=>⟨fun k cs he=>?_,rfl,fun _ _ _=>⟨rfl,rfl⟩⟩) (fun _ _ _=>⟨rfl,rfl⟩) (fun _ _ _=>⟨rfl,rfl⟩) (fun _ _ h=>h) (fun _ _ h=>h);rw[yP];have:ds.any (fun d=>(F t').uses d)=false:=by
   rw[he]
   induction ds with
   | nil=>rfl
   | cons d ds ih=>simp[AV.uses]
  rw[this];exact he
theorem yX (hTE:∀ t i,TE t=some i->ca P t i) (hm:P.follows .mixedOrders=true) {id m:Nat} {ds:List Nat} (hok:((Nat.ble m ops.size&&below m fun j=>match(cI ops j).dst with|some d=>ds.any (Nat.beq d)|none=>true)&&zz ops m)=true) {K:(Nat->AV)->Prop} {Q:Exit->Act->World->Prop} (hp:H3 P TE N ops m ops.toList K (Ab.clr ds F)) (hs:St w0 M S0 N F a w)
  (hq:∀ F' a' w',K F'->St w0 M S0 N F' a' w'->Q .normal a' w'):(Code.region id ops true).wp P Q a w:=by
 simp only[I0]at hok;obtain⟨⟨hmle,hds⟩,hok⟩:=hok;have hmle':m<=ops.size:=W0 hmle;refine wp_region_any hm ?_;have hs':St w0 M S0 N (Ab.clr ds F) a {w with drawn:=w.drawn+1}:=by
  have h1:=hs.clr ds;obtain⟨S,φ,h⟩:=h1;exact⟨S,φ,h.more (w1:={w with drawn:=w.drawn+1}) (fun _ _ h=>h) (fun _ _ h=>.inl h) ⟨rfl,rfl,rfl,I2 _,fun _ _ _=>rfl,fun _ _ _ _=>rfl,fun _ _ _ _=>rfl⟩⟩
 refine xK hTE (m:=m) hq ops.size (Array.replicate ops.size false) _ a _ ?_ hs';have hcl:∀ d,ds.any (Nat.beq d)=true->∀ t,(Ab.clr ds F t).uses d=false:=fun d hd t=>by
  rw[yP];cases hb:ds.any (fun d=>(F t).uses d) with
  | true=>rfl
  | false=>
   simp only[cond_false];cases hu:(F t).uses d with
   | false=>rfl
   | true=>
    obtain⟨d',hd',he⟩:=v3.1 hd;have he':=P1 he;subst he';have:ds.any (fun d=>(F t).uses d)=true:=v3.2 ⟨_,hd',hu⟩;rw[this]at hb;cases hb
 have hmem:∀ j o d,j<m->ops[j]? = some o->o.dst=some d->ds.any (Nat.beq d)=true:=fun j o d hj ho hd=>by
  have h1:=fL hds hj;rw[aX ho,hd]at h1;exact h1
 have hD:=De hok;have:=zR (P:=P) (TE:=TE) (N:=N) hD (K:=K) hmle' ops.toList 0 (Array.replicate ops.size false) (Ab.clr ds F) (by simp) (by simp) (fun j hj=>by simp[hj]) ⟨fun j o d hj ho _ hd t=>hcl d (hmem j o d hj ho hd) t,fun j o T s hj ho _ _ _ g3 t=>by
   obtain⟨k,ok,hk1,hk2,hk3⟩:=(fm g3).1;obtain⟨e,he1,he2,rfl⟩:=bX.1 hk1;have:=hD.back j o ho e he1 he2;exact hcl s (hmem e.on ok s (by omega) hk2 hk3) t⟩ (fun j oj hj hl=>by
   have hlt:=(R2.1 hj).1;simp[hlt]at hl) hp
 simpa using this
end
section
variable {P:Program} {w0 w w1:World} {M S0 S:ac} {N:fg} {φ:Nat->ac} {F:Nat->AV} {a:Act} {TE:Nat->Option TI} {ops:Array Oper} {ds:List Nat} {nm:Nat->Bool}
def Mz (P:Program) (TE:Nat->Option TI) (ops:Array Oper) (p:Nat) (F:Nat->AV):Prop:=∃ d,(cI ops p).dst=some d/\E8 F (cI ops p)=none/\df P TE F (cI ops p).op fun av=>av=F d
def sW (P:Program) (TE:Nat->Option TI) (N:fg) (ops:Array Oper) (ds:List Nat) (listed:Array Bool) (i:Nat) (K:(Nat->AV)->Prop) (F:Nat->AV):Prop:=
 match ops[i]? with
 | none=>K F
 | some o=>if mE ds o=true then jF P TE N ops o K F else jg P TE N ops o (fun F1=>(∀ p,listed.getD p false=true->mE ds (cI ops p)=true->tJ ops i p=false->Mz P TE ops p F1)/\K F1) F
def D0 (P:Program) (TE:Nat->Option TI) (N:fg) (ops:Array Oper) (ds:List Nat) (K:(Nat->AV)->Prop):Nat->Array Bool->(Nat->AV)->Prop
 | 0,listed,F=>Region.ready .any ops listed=[]/\K F
 | fuel+1,listed,F=>(Region.ready .any ops listed=[]->K F)/\∀ i,i∈Region.ready .any ops listed->sW P TE N ops ds listed i (D0 P TE N ops ds K fuel (listed.setIfInBounds i true)) F
theorem B5 (hTE:∀ t i,TE t=some i->ca P t i) {listed:Array Bool} {i:Nat} {K:(Nat->AV)->Prop} (hp:sW P TE N ops ds listed i K F) (hs:St w0 M S0 N F a w) {Kc:Act->World->Prop} {Q:Exit->Act->World->Prop}
  (hk:∀ F' a' w',K F'->St w0 M S0 N F' a' w'->Kc a' w'):wpOp P ops Q i Kc a w:=by
 unfold sW at hp;unfold wpOp;cases ho:ops[i]? with
 | none=>rw[ho]at hp;exact hk F a w hp hs
 | some o=>
  rw[ho]at hp;simp only at hp |-;obtain⟨S,φ,h⟩:=hs;have:if Region.wanted o (yielded ops a.tmps) then o.wp P a w Kc Q else Kc (a.put o.dst undef) w:=by
   split at hp
   ·exact h.oneP hTE hp hk
   ·exact h.one hTE (jE hp fun F' h=>h.2) hk
  split
  ·rename_i hw;rw[if_pos hw]at this;exact .inl this
  ·rename_i hw;rw[if_neg hw]at this;exact this
theorem pw (hTE:∀ t i,TE t=some i->ca P t i) {K:(Nat->AV)->Prop} {Q:Exit->Act->World->Prop} (hk:∀ F' a' w',K F'->St w0 M S0 N F' a' w'->Q .normal a' w') :
  ∀ (fuel:Nat) (listed:Array Bool) (F:Nat->AV) (a:Act) (w:World),D0 P TE N ops ds K fuel listed F->St w0 M S0 N F a w->wpAny P .any ops Q fuel listed a w
 | 0,_,F,a,w,hp,hs=>⟨hp.1,hk F a w hp.2 hs⟩
 | fuel+1,_,F,a,w,hp,hs=>⟨fun h0=>hk F a w (hp.1 h0) hs,fun i hi=>B5 hTE (hp.2 i hi) hs fun F' a' w' hK hs'=>pw hTE hk fuel _ F' a' w' hK hs'⟩
def cR (ts:List Nat) (F F1:Nat->AV):Prop:=∀ t e,(F1 t).uses e=true->e∈ts\/∃ t',(F t').uses e=true
theorem cR.refl (ts:List Nat) (F:Nat->AV):cR ts F F:=fun t _ h=>.inr ⟨t,h⟩
theorem cR.trans {ts:List Nat} {F F1 F2:Nat->AV} (h1:cR ts F F1) (h2:cR ts F1 F2):cR ts F F2:=fun t e h=>by
 rcases h2 t e h with h|⟨t',h⟩
 ·exact .inl h
 ·exact h1 t' e h
theorem cR.clean {ts:List Nat} {F1:Nat->AV} {d:Nat} (h:cR ts F F1) (hd:d∉ts) (hc:∀ t,(F t).uses d=false):∀ t,(F1 t).uses d=false:=fun t=>by
 cases hu:(F1 t).uses d with
 | false=>rfl
 | true=>
  rcases h t d hu with h|⟨t',h⟩
  ·exact absurd h hd
  ·rw[hc t']at h;cases h
theorem cR.put {ts:List Nat} {dj:Nat} {av:AV} (h:∀ e,av.uses e=true->e∈ts\/∃ t',(F t').uses e=true):cR ts F (put F dj av):=fun t e hu=>by
 by_cases h1:t=dj
 ·subst h1;rw[kY]at hu;exact h e hu
 ·rw[fX _ _ h1]at hu;exact .inr ⟨t,(KV hu).1⟩
theorem HN {t e:Nat} {v:AV} (h:(qi t v).uses e=true):v.uses e=true:=by
 cases v with
 | bor t' off st ag=>simp only[qi]at h;cases hb:Nat.beq t' t<;>rw[hb]at h<;>first|exact h|cases h
 | ref t' off st=>cases st<;>simp only[qi]at h<;>first|exact h|(cases hb:Nat.beq t' t<;>rw[hb]at h<;>first|exact h|cases h)
 | _=>exact h
theorem cR.updH {ts:List Nat} {t:Nat} {k:Kd} {cs:List C} : cR ts F (updH F t k cs):=fun s e hu=>by
 unfold Ab.updH at hu;cases hb:Nat.beq s t with
 | true=>rw[hb]at hu;cases hu
 | false=>rw[hb]at hu;exact .inr ⟨s,HN hu⟩
theorem di {d t:Nat} {av:AV} (h:t≠d):eff none d av F t=F t:=by unfold eff;rw[if_neg h,if_neg (fun e=>by cases e)]
theorem mF {d:Nat} {mv:Option Nat} {av:AV} : eff mv d av F d=av:=by unfold eff;rw[if_pos rfl]
theorem J8 {d:Nat} : eff none d (F d) F=F:=by
 funext t
 by_cases h:t=d
 ·subst h;rw[mF]
 ·rw[di h]
theorem mW {d:Nat} {av:AV} {ts:List Nat} (hd:d∉ts) (hc:∀ t,(F t).uses d=false):ik (eff none d av F) F ts:=fun t ht=>by
 have h1:t≠d:=fun e=>hd (e ▸ ht)
 rw[di h1];refine⟨rfl,fun t' hu k cs hh=>?_⟩;have h2:t'≠d:=fun e=>by rw[e,hc t]at hu;cases hu
 rwa [di h2]at hh
theorem MJ {d dj:Nat} {v av:AV} (hne:dj≠d):put (eff none d v F) dj av=eff none d (kl dj v) (put F dj av):=by
 funext t
 by_cases h1:t=dj
 ·subst h1;rw[kY,di hne,kY]
 ·rw[fX _ _ h1]
  by_cases h2:t=d
  ·subst h2;rw[mF,mF]
  ·rw[di h2,di h2,fX _ _ h1]
theorem zH {d t:Nat} {k':Kd} {v:AV} {cs':List C} (hne:t≠d):updH (eff none d v F) t k' cs'=eff none d (qi t v) (updH F t k' cs'):=by
 funext s
 by_cases h2:s=d
 ·subst h2
  rw[mF];unfold updH;rw[show Nat.beq s t=false by rw[<-Bool.not_eq_true,Nat.beq_eq];exact Ne.symm hne,mF];rfl
 ·rw[di h2]
  unfold updH;rw[di h2]
theorem vk {d t:Nat} {k':Kd} {cs':List C} (hne:t≠d):updH F t k' cs' d=qi t (F d):=by
 unfold updH;rw[show Nat.beq d t=false by rw[<-Bool.not_eq_true,Nat.beq_eq];exact Ne.symm hne];rfl
theorem ES {d t:Nat} {k':Kd} {v:AV} {cs':List C} (hne:t≠d):updN (eff none d v F) t k' cs'=eff none d (KE t v) (updN F t k' cs'):=by
 funext s
 by_cases h2:s=d
 ·subst h2
  rw[mF];unfold updN;rw[show Nat.beq s t=false by rw[<-Bool.not_eq_true,Nat.beq_eq];exact Ne.symm hne,mF];rfl
 ·rw[di h2]
  unfold updN;rw[di h2]
theorem Dx {d t:Nat} {k':Kd} {cs':List C} (hne:t≠d):updN F t k' cs' d=KE t (F d):=by
 unfold updN;rw[show Nat.beq d t=false by rw[<-Bool.not_eq_true,Nat.beq_eq];exact Ne.symm hne];rfl
theorem Kb {t e:Nat} {v:AV} (h:(KE t v).uses e=true):v.uses e=true:=by
 cases v with
 | bor t' off st ag=>
  cases st with
  | nil=>exact h
  | cons s st=>simp only[KE]at h;cases hb:Nat.beq t' t<;>rw[hb]at h<;>first|exact h|cases h
 | ref t' off st=>
  cases st with
  | nil=>exact h
  | cons s st=>simp only[KE]at h;cases hb:Nat.beq t' t<;>rw[hb]at h<;>first|exact h|cases h
 | _=>exact h
theorem cR.updN {ts:List Nat} {t:Nat} {k:Kd} {cs:List C} : cR ts F (updN F t k cs):=fun s e hu=>by
 unfold Ab.updN at hu;cases hb:Nat.beq s t with
 | true=>rw[hb]at hu;cases hu
 | false=>rw[hb]at hu;exact .inr ⟨s,Kb hu⟩
def Fq (d:Nat) (ts:List Nat) (v:AV) (F:Nat->AV) (K:(Nat->AV)->Prop) (F1:Nat->AV):Prop:=∃ v1,(v=F d->v1=F1 d)/\K (eff none d v1 F1)/\cR ts F F1
def N7 (d:Nat) (ts:List Nat) (v:AV) (F:Nat->AV) (K:(Nat->AV)->Option Nat->List C->Prop) (F1:Nat->AV) (ag:Option Nat) (cs:List C):Prop:=∃ v1,(v=F d->v1=F1 d)/\K (eff none d v1 F1) ag cs/\cR ts F F1
theorem Fq.trans {d:Nat} {ts:List Nat} {v v1:AV} {F1 F2:Nat->AV} {K:(Nat->AV)->Prop} (h1:v=F d->v1=F1 d) (u1:cR ts F F1) (h:Fq d ts v1 F1 K F2):Fq d ts v F K F2:=by
 obtain⟨v2,h2,hK,u2⟩:=h;exact⟨v2,fun e=>h2 (h1 e),hK,u1.trans u2⟩
theorem jZ {d dj:Nat} {ts:List Nat} {v av:AV} {K:(Nat->AV)->Prop} (h:bM N (eff none d v F) dj av K) (hne:dj≠d) (hav:∀ e,av.uses e=true->e∈ts\/∃ t',(F t').uses e=true):bM N F dj av (Fq d ts v F K):=by
 unfold bM at h |-;cases hb:(N.free dj&&!av.uses dj) with
 | false=>rw[hb]at h;exact h.elim
 | true=>
  rw[hb]at h;simp only[cond_true]at h |-;rw[MJ hne]at h;exact⟨kl dj v,fun e=>by rw[fX _ _ (Ne.symm hne),e],h,cR.put hav⟩
theorem lU {ts:List Nat} {k:Kd} {cs:List C} : ∀ e,(AV.hold k cs).uses e=true->e∈ts\/∃ t',(F t').uses e=true:=fun e h=>by cases h
theorem DM {p:(Nat->AV)->(AV->Prop)->Prop} {d dj:Nat} {v:AV} {ts0 ts:List Nat} {K:(Nat->AV)->Prop} (h:mY p (eff none d v F) ts0 fun av=>bM N (eff none d v F) dj av K) (hne:dj≠d) (hs:∀ t,t∈ts0->t∈ts) (hd:d∉ts) (hc:∀ t,(F t).uses d=false) :
  p F fun av=>bM N F dj av (Fq d ts v F K):=by
 obtain⟨av,h1,h2,h3⟩:=h;refine h3 F (mW (fun hm=>hd (hs d hm)) hc) _ (jZ h1 hne fun e he=>?_);rcases h2 e he with h|⟨t,ht,h⟩
 ·exact .inl (hs e h)
 ·have hne:t≠d:=fun e=>hd (e ▸ hs t ht)
  rw[di hne]at h;exact .inr ⟨t,h⟩
theorem qr {d:Nat} {ts:List Nat} {v:AV} {y:Operand} {K:(Nat->AV)->Option Nat->List C->Prop} (h:gj (eff none d v F) y K) (hd:d∉tm y) (hc:∀ t,(F t).uses d=false):gj F y (N7 d ts v F K):=by
 have fin:∀ {t:Nat} {k:Kd} {cs:List C} {ag:Option Nat} {xs:List C},t≠d->K (updH (eff none d v F) t k cs) ag xs->N7 d ts v F K (updH F t k cs) ag xs:=fun {t k cs ag xs} ht h=>by
  rw[zH ht]at h;exact⟨_,fun e=>by rw[vk ht,e],h,cR.updH⟩
 have tz:∀ {t:Nat} {k:Kd} {cs:List C} {ag:Option Nat} {xs:List C},t≠d->K (updN (eff none d v F) t k cs) ag xs->N7 d ts v F K (updN F t k cs) ag xs:=fun {t k cs ag xs} ht h=>by
  rw[ES ht]at h;exact⟨_,fun e=>by rw[Dx ht,e],h,cR.updN⟩
 cases y with
 | tmp t=>
  have ht:t≠d:=fun e=>hd (by simp[tm,e])
  simp only[gj]at h |-;rw[di ht]at h;cases hF:F t with
  | hold kk bs=>
   rw[hF]at h;cases kk with
   | one=>exact fin ht h
   | agg=>exact fin ht h
   | _=>exact h.elim
  | bor t2 off st ag=>
   rw[hF]at h;have h2:t2≠d:=fun e=>by have:=hc t;rw[hF,e]at this;simp[AV.uses]at this
   cases st with
   | cons s st=>
    simp only at h |-;rw[di h2]at h;cases hF2:F t2 with
    | hold kk bs=>
     rw[hF2]at h;obtain⟨r,j,e1,e2,e3,hK⟩:=Lq.out h;exact .mk_ ⟨r,j,_,_,e1,e2,e3,rfl,rfl,tz h2 hK⟩
    | _=>rw[hF2]at h;exact h.elim
   | nil=>
    simp only at h |-;rw[di h2]at h;cases hF2:F t2 with
    | hold kk bs=>
     rw[hF2]at h;simp only at h |-;cases hb:Nat.ble (off+ag.getD 1) bs.length with
     | false=>rw[hb]at h;exact h.elim
     | true=>rw[hb]at h;exact tz h2 h
    | _=>rw[hF2]at h;exact h.elim
  | _=>rw[hF]at h;exact h.elim
 | _=>exact h.elim
theorem KW {d:Nat} {ts:List Nat} {v:AV} {y:Operand} {K:(Nat->AV)->Option Nat->List C->Prop} (h:sS (eff none d v F) y K) (hd:d∉tm y) (hc:∀ t,(F t).uses d=false):sS F y (N7 d ts v F K):=by
 obtain⟨ag,xs,h1,h2⟩:=cF h;refine h2 F (mW hd hc) _ ?_;cases hn:aW xs with
 | true=>rw[hn]at h1;exact⟨v,fun e=>e,h1,cR.refl _ _⟩
 | false=>rw[hn]at h1;exact qr h1 hd hc
def NZ (d:Nat) (ts:List Nat) (v:AV) (F:Nat->AV) (K:(Nat->AV)->List C->Prop) (F1:Nat->AV) (cs:List C):Prop:=∃ v1,(v=F d->v1=F1 d)/\K (eff none d v1 F1) cs/\cR ts F F1
theorem tZ {d:Nat} {ts:List Nat} {pl:Nat->Option (Nat × Nat)} (hdt:d∉ts):∀ {parts:List (Nat × Operand)} {cs:List C} {K:(Nat->AV)->List C->Prop} {F:Nat->AV} {v:AV},fillW pl parts cs K (eff none d v F)->(∀ p,p∈parts->d∉tm p.2)->(∀ t,(F t).uses d=false)->
  fillW pl parts cs (NZ d ts v F K) F
 | [],cs,K,F,v,h,_,hc=>⟨v,fun e=>e,h,cR.refl _ _⟩
 | p::rest,cs,K,F,v,h,hd,hc=>by
  simp only[fillW]at h |-;split at h
  case h_2=>exact h.elim
  rename_i q hq;refine rm (KW (ts:=ts) h (hd p I1) hc) fun F' ag xs h=>?_
  obtain⟨v1,h1,h,u1⟩:=h;cases hb:(Nat.beq xs.length q.2&&Nat.ble (q.1+q.2) cs.length) with
  | false=>rw[hb]at h;exact h.elim
  | true=>
   rw[hb]at h;simp only[cond_true,de]at h |-;refine iw (tZ hdt h (fun p' hp'=>hd p' (List.mem_cons_of_mem _ hp')) (u1.clean hdt hc)) fun F2 cs2 h2=>?_
   obtain⟨v2,g1,g2,u2⟩:=h2;exact⟨v2,fun e=>g1 (h1 e),g2,u1.trans u2⟩
theorem Hs {d dj T:Nat} {ts:List Nat} {v:AV} {parts:List (Nat × Operand)} {K:(Nat->AV)->Prop} (h:jp TE N (eff none d v F) dj T parts K) (hne:dj≠d) (hdt:d∉ts) (hd:∀ p,p∈parts->d∉tm p.2) (hc:∀ t,(F t).uses d=false) :
  jp TE N F dj T parts (Fq d ts v F K):=by
 unfold jp at h |-;split at h
 case h_2=>exact h.elim
 rename_i size bytes zero flds hT;cases ha:ve TE flds with
 | false=>rw[ha]at h;exact h.elim
 | true=>
  rw[ha]at h;refine iw (tZ hdt h hd hc) fun F' cs h=>?_
  obtain⟨v1,h1,h,u1⟩:=h;exact bI (jZ (ts:=ts) h hne lU) fun F2 h2=>Fq.trans h1 u1 h2
theorem EH {d dj T n:Nat} {ts:List Nat} {v:AV} {parts:List (Nat × Operand)} {K:(Nat->AV)->Prop} (h:eX TE N (eff none d v F) dj T n parts K) (hne:dj≠d) (hdt:d∉ts) (hd:∀ p,p∈parts->d∉tm p.2) (hc:∀ t,(F t).uses d=false) :
  eX TE N F dj T n parts (Fq d ts v F K):=by
 unfold eX at h |-;obtain⟨e,ie,h,hsel⟩:=iF h;refine hsel _ ?_;cases hb:Nat.ble (n*ie.size) 16777216 with
 | false=>rw[hb]at h;exact h.elim
 | true=>
  rw[hb]at h;simp only[cond_true]at h |-;cases n with
  | zero=>
   cases parts with
   | nil=>exact jZ h hne lU
   | cons=>exact h.elim
  | succ n=>
   simp only[de]at h |-;refine iw (tZ hdt h hd hc) fun F' cs h=>?_
   obtain⟨v1,h1,h,u1⟩:=h;rw[mH]at h |-;exact bI (jZ (ts:=ts) h hne lU) fun F2 h2=>Fq.trans h1 u1 h2
theorem Jz {d dj t:Nat} {ts:List Nat} {v:AV} {K:(Nat->AV)->Prop} (h:ig N (eff none d v F) dj (.tmp t) K) (hne:dj≠d) (hdt:d∉ts) (ht:t∈ts) (hc:∀ t,(F t).uses d=false):ig N F dj (.tmp t) (Fq d ts v F K):=by
 have htd:t≠d:=fun e=>hdt (e ▸ ht)
 have std:bk (eff none d v F) (.tmp t) (fun av=>bM N (eff none d v F) dj av K)->bk F (.tmp t) (fun av=>bM N F dj av (Fq d ts v F K)):=fun h=>
  DM (p:=fun F K=>bk F (.tmp t) K) (iL h) hne (fun t' h'=>by simp[tm]at h';exact h' ▸ ht) hdt hc
 simp only[ig]at h |-;rw[di htd]at h;split at h
 ·rename_i sh xs hF
  cases hn:aW xs with
  | true=>rw[hn]at h;exact jZ h hne lU
  | false=>
   rw[hn]at h;simp only[cond_false]at h |-;rw[zH htd]at h;exact bI (jZ (ts:=ts) h hne lU) fun F2 h2=>Fq.trans (F1:=updH F t (.tup sh) _) (fun e=>by rw[vk htd,e]) cR.updH h2
 all_goals exact std h
theorem GF {d dj:Nat} {ts:List Nat} {v:AV} {x:Operand} {K:(Nat->AV)->Prop} (h:jn N (eff none d v F) dj x K) (hne:dj≠d) (hdt:d∉ts) (ht:∀ t,t∈tm x->t∈ts) (hc:∀ t,(F t).uses d=false):jn N F dj x (Fq d ts v F K):=by
 have m1:∀ y,(∀ t,t∈tm y->t∈ts)->bk (eff none d v F) y (fun av=>bM N (eff none d v F) dj av K)->bk F y (fun av=>bM N F dj av (Fq d ts v F K)):=fun y hy h=>DM (p:=fun F K=>bk F y K) (iL h) hne hy hdt hc
 have m2:∀ y,(∀ t,t∈tm y->t∈ts)->gj (eff none d v F) y (fun F' ag cs=>bM N F' dj (.hold (jV ag) cs) K)->gj F y (fun F' ag cs=>bM N F' dj (.hold (jV ag) cs) (Fq d ts v F K)):=fun y hy h=>
  fk (qr (ts:=ts) h (fun hm=>hdt (hy d hm)) hc) fun F' ag cs h=>by
   obtain⟨v1,h1,h,u1⟩:=h;exact bI (jZ (ts:=ts) h hne lU) fun F2 h2=>Fq.trans h1 u1 h2
 cases x with
 | tmp t=>
  have htd:t≠d:=fun e=>hdt (e ▸ ht t (by simp[tm]))
  unfold jn at h |-;simp only at h |-;rw[di htd]at h;cases hF:F t with
  | hold k cs=>
   rw[hF]at h;cases k with
   | one=>
    simp only at h |-;cases hn:aW cs with
    | true=>rw[hn]at h;exact m1 (.tmp t) ht h
    | false=>rw[hn]at h;exact m2 (.tmp t) ht h
   | agg=>
    simp only at h |-;cases hn:aW cs with
    | true=>rw[hn]at h;exact m1 (.tmp t) ht h
    | false=>rw[hn]at h;exact m2 (.tmp t) ht h
   | tup sh=>exact m1 _ ht h
   | box=>exact m1 _ ht h
  | bor t2 off st ag=>
   rw[hF]at h;simp only at h |-;cases hn:N.al dj with
   | true=>rw[hn]at h;exact m1 (.tmp t) ht h
   | false=>rw[hn]at h;exact m2 (.tmp t) ht h
  | dead=>rw[hF]at h;exact m1 _ ht h
  | ref=>rw[hF]at h;exact m1 _ ht h
  | iref=>rw[hF]at h;exact m1 _ ht h
  | fn=>rw[hF]at h;exact m1 _ ht h
  | fv=>rw[hF]at h;exact m1 _ ht h
 | const c=>exact m1 (.const c) ht h
 | global g=>exact m1 (.global g) ht h
 | func f=>exact m1 (.func f) ht h
theorem EX {d:Nat} {ts:List Nat} {v:AV} {x:Operand} {cs:List C} {K:(Nat->AV)->Prop} (h:oR (eff none d v F) x cs K) (hd:d∉tm x) (hc:∀ t,(F t).uses d=false):oR F x cs (Fq d ts v F K):=by
 have fin:∀ {t:Nat} {k:Kd} {cs:List C},t≠d->K (updH (eff none d v F) t k cs)->Fq d ts v F K (updH F t k cs):=fun {t k cs} ht h=>by
  rw[zH ht]at h;exact⟨_,fun e=>by rw[vk ht,e],h,cR.updH⟩
 have tz:∀ {t:Nat} {k:Kd} {cs:List C},t≠d->K (updN (eff none d v F) t k cs)->Fq d ts v F K (updN F t k cs):=fun {t k cs} ht h=>by
  rw[ES ht]at h;exact⟨_,fun e=>by rw[Dx ht,e],h,cR.updN⟩
 have finP:∀ {t:Nat} {k:Kd} {cs:List C},t≠d->K (LV (eff none d v F) t k cs)->Fq d ts v F K (LV F t k cs):=fun {t k cs} ht h=>by
  cases k with
  | box=>exact fin ht h
  | _=>exact tz ht h
 cases x with
 | tmp t=>
  have ht:t≠d:=fun e=>hd (by simp[tm,e])
  simp only[oR]at h |-;rw[di ht]at h;cases hF:F t with
  | hold k bs=>
   rw[hF]at h;cases k with
   | box=>
    simp only at h |-;cases hb:Nat.ble cs.length bs.length with
    | false=>rw[hb]at h;exact h.elim
    | true=>rw[hb]at h;simp only[cond_true,de]at h |-;exact fin ht h
   | _=>exact h.elim
  | ref t2 off st=>
   rw[hF]at h;have h2:t2≠d:=fun e=>by have:=hc t;rw[hF,e]at this;simp[AV.uses]at this
   cases st with
   | cons s st=>
    simp only at h |-;rw[di h2]at h;cases hF2:F t2 with
    | hold k bs=>
     rw[hF2]at h;obtain⟨r,j,e1,e2,e3,hK⟩:=Pu.out h;exact Pu.mk e1 e2 e3 rfl (finP h2 hK)
    | _=>rw[hF2]at h;exact h.elim
   | nil=>
    simp only at h |-;rw[di h2]at h;cases hF2:F t2 with
    | hold k bs=>
     rw[hF2]at h;cases k with
     | box=>
      simp only at h |-;cases hb:Nat.ble (off+cs.length) bs.length with
      | false=>rw[hb]at h;exact h.elim
      | true=>rw[hb]at h;simp only[cond_true,de]at h |-;exact fin h2 h
     | _=>exact h.elim
    | _=>rw[hF2]at h;exact h.elim
  | _=>rw[hF]at h;exact h.elim
 | _=>exact h.elim
theorem Kr {d T:Nat} {ts:List Nat} {v:AV} {x y:Operand} {K:(Nat->AV)->Prop} (h:l9 TE (eff none d v F) T x y K) (hdt:d∉ts) (hx:d∉tm x) (hy:d∉tm y) (hc:∀ t,(F t).uses d=false):l9 TE F T x y (Fq d ts v F K):=by
 unfold l9 at h |-;split at h
 ·rename_i i hT
  obtain⟨ag,cs,h1,h2⟩:=cF h;refine h2 F (mW hy hc) _ ?_;cases hl:Nat.beq cs.length i.size with
  | false=>rw[hl]at h1;exact h1.elim
  | true=>
   rw[hl]at h1;simp only[cond_true]at h1 |-;cases hn:aW cs with
   | true=>rw[hn]at h1;exact EX h1 hx hc
   | false=>
    rw[hn]at h1;simp only[cond_false]at h1 |-;refine fk (qr (ts:=ts) h1 hy hc) fun F' ag' cs' h=>?_
    obtain⟨v1,h1,h,u1⟩:=h;cases hl':Nat.beq cs'.length i.size with
    | false=>rw[hl']at h;exact h.elim
    | true=>rw[hl']at h;exact so (EX (ts:=ts) h hx (u1.clean hdt hc)) fun F2 h2=>Fq.trans h1 u1 h2
 ·exact h.elim
theorem M5 {d:Nat} {v:AV} {y:Operand} (hd:d∉tm y):m0 (eff none d v F) y=m0 F y:=by
 cases y with
 | tmp t=>exact di fun e=>hd (by simp[tm,e])
 | _=>rfl
theorem MU {d:Nat} {ts:List Nat} {v:AV} {y:Operand} {K:Bool->(Nat->AV)->List (List C)->Prop} (h:zf (eff none d v F) y K) (hd:d∉tm y) (hc:∀ t,(F t).uses d=false):zf F y fun fl F1 rows=>∃ v1,(v=F d->v1=F1 d)/\K fl (eff none d v1 F1) rows/\cR ts F F1:=by
 have hev:=M5 (F:=F) (v:=v) hd;unfold zf at h |-;rw[hev]at h;split at h
 ·refine fk (qr (ts:=ts) h hd hc) fun F1 ag cs h=>?_
  obtain⟨v1,h1,h,u1⟩:=h;split at h
  ·exact⟨v1,h1,h,u1⟩
  ·exact h.elim
 ·rw[<-hev]at h
  obtain⟨ag,xs,h1,h2⟩:=cF h;refine h2 F (mW hd hc) _ ?_;split at h1
  ·exact⟨v,fun e=>e,h1,cR.refl _ _⟩
  ·exact⟨v,fun e=>e,h1,cR.refl _ _⟩
  ·exact h1.elim
theorem Lc {d:Nat} {ts:List Nat} {v:AV} {y:Operand} {K:(Nat->AV)->List (List C)->Prop} (h:yi (eff none d v F) y K) (hd:d∉tm y) (hc:∀ t,(F t).uses d=false):yi F y fun F1 rows=>∃ v1,(v=F d->v1=F1 d)/\K (eff none d v1 F1) rows/\cR ts F F1:=by
 obtain⟨ag,xs,h1,h2⟩:=cF h;refine h2 F (mW hd hc) _ ?_;split at h1
 ·exact⟨v,fun e=>e,h1,cR.refl _ _⟩
 ·refine fk (qr (ts:=ts) h1 hd hc) fun F1 ag cs h=>?_
  obtain⟨v1,h1,h,u1⟩:=h;split at h
  ·exact⟨v1,h1,h,u1⟩
  ·exact h.elim
 ·exact h1.elim
theorem Ll {d dj T:Nat} {ts:List Nat} {v:AV} {x y:Operand} {K:(Nat->AV)->Prop} (h:xJ TE N (eff none d v F) dj T x y K) (hne:dj≠d) (hdt:d∉ts) (hx:d∉tm x) (hy:d∉tm y) (hc:∀ t,(F t).uses d=false):xJ TE N F dj T x y (Fq d ts v F K):=by
 obtain⟨e,ie,h,hsel⟩:=iF h;refine hsel _ (Bv (MU (ts:=ts) h hy hc) fun fl F1 xr h=>?_);obtain⟨v1,h1,h,u1⟩:=h;refine xU (Lc (ts:=ts) h hx (u1.clean hdt hc)) fun F2 rows h=>?_
 obtain⟨v2,h2,h,u2⟩:=h;obtain⟨a1,a2,a3,a4,a5,h⟩:=Ap.out h;refine Ap.mk a1 a2 a3 a4 a5 rfl (bI (jZ (ts:=ts) h hne lU) fun F3 h3=>?_);exact Fq.trans h1 u1 (Fq.trans h2 u2 h3)
theorem HO {oj:Oper} {d:Nat} {v:AV} {K:(Nat->AV)->Prop} (hg:oj.guard=none) (hk:MP oj.op=true) (hne:oj.dst≠some d) (hl:d∉oj.looksAt ops) (hc:∀ t,(F t).uses d=false) (h:jg P TE N ops oj K (eff none d v F)) :
  jg P TE N ops oj (Fq d (oj.looksAt ops) v F K) F:=by
 unfold jg eL at h |-;rw[hg]at h |-;simp only at h |-;have hsub:∀ t,t∈db oj.op->t∈oj.looksAt ops:=fun t ht=>fJ oj t ht
 have pur:∀ dj,dj≠d->df P TE (eff none d v F) oj.op (fun av=>bM N (eff none d v F) dj av K)->df P TE F oj.op fun av=>bM N F dj av (Fq d (oj.looksAt ops) v F K):=fun dj hne h=>
  DM (p:=fun F K=>df P TE F oj.op K) (kX h) hne hsub hl hc
 have dne:∀ dj,oj.dst=some dj->dj≠d:=fun dj hd e=>hne (e ▸ hd)
 have tmI:∀ x,x∈oj.op.operands.toList->∀ t,t∈tm x->t∈oj.looksAt ops:=fun x hx t ht=>hsub t (List.mem_flatMap.2 ⟨x,hx,ht⟩)
 cases hop:oj.op with
 | store T x y=>
  rw[hop]at h tmI;simp only[GP]at h |-;cases hd:oj.dst with
  | some dj=>rw[hd]at h;simp only[mX]at h;exact h.elim
  | none=>
   rw[hd]at h;simp only at h |-;exact Kr h hl (fun hm=>hl (tmI x (by simp[Op.operands]) d hm)) (fun hm=>hl (tmI y (by simp[Op.operands]) d hm)) hc
 | move x=>
  rw[hop]at h tmI;cases hd:oj.dst with
  | none=>rw[hd]at h;exact h.elim
  | some dj=>
   rw[hd]at h;cases x with
   | tmp t=>
    simp only[GP,mX]at h |-;exact Jz h (dne dj hd) hl (tmI (.tmp t) (by simp[Op.operands]) t (by simp[tm])) hc
   | _=>rw[hop]at hk;cases hk
 | assign x=>
  rw[hop]at h tmI;cases hd:oj.dst with
  | none=>rw[hd]at h;exact h.elim
  | some dj=>
   rw[hd]at h;simp only[GP,mX]at h |-;exact GF h (dne dj hd) hl (tmI x (by simp[Op.operands])) hc
 | build T ps=>
  rw[hop]at h tmI;cases hd:oj.dst with
  | none=>rw[hd]at h;exact h.elim
  | some dj=>
   rw[hd]at h;simp only[GP,mX]at h |-;refine Hs h (dne dj hd) hl (fun p hp hm=>hl (tmI p.2 ?_ d hm)) hc;simp only[Op.operands];simpa using ⟨p.1,by simpa using hp⟩
 | buildSlice T n ps=>
  rw[hop]at h tmI;cases hd:oj.dst with
  | none=>rw[hd]at h;exact h.elim
  | some dj=>
   rw[hd]at h;simp only[GP,mX]at h |-;refine EH h (dne dj hd) hl (fun p hp hm=>hl (tmI p.2 ?_ d hm)) hc;simp only[Op.operands];simpa using ⟨p.1,by simpa using hp⟩
 | extract x i=>rw[hop]at h pur;cases hd:oj.dst with|none=>rw[hd]at h;exact h.elim|some dj=>rw[hd]at h;exact pur dj (dne dj hd) h
 | load T x=>rw[hop]at h pur;cases hd:oj.dst with|none=>rw[hd]at h;exact h.elim|some dj=>rw[hd]at h;exact pur dj (dne dj hd) h
 | fieldAddr T x i=>rw[hop]at h pur;cases hd:oj.dst with|none=>rw[hd]at h;exact h.elim|some dj=>rw[hd]at h;exact pur dj (dne dj hd) h
 | field T x i=>rw[hop]at h pur;cases hd:oj.dst with|none=>rw[hd]at h;exact h.elim|some dj=>rw[hd]at h;exact pur dj (dne dj hd) h
 | binOp o T x y T2=>rw[hop]at h pur;cases hd:oj.dst with|none=>rw[hd]at h;exact h.elim|some dj=>rw[hd]at h;exact pur dj (dne dj hd) h
 | unOp o T x=>rw[hop]at h pur;cases hd:oj.dst with|none=>rw[hd]at h;exact h.elim|some dj=>rw[hd]at h;exact pur dj (dne dj hd) h
 | call c=>
  rw[hop]at hk h tmI;cases ha:pW c with
  | none=>simp[MP,ha]at hk
  | some p=>
   have hcc:=vD ha;subst hcc;cases hd:oj.dst with
   | none=>rw[hd]at h;exact h.elim
   | some dj=>
    rw[hd]at h;simp only[GP,mX,ha]at h |-;exact Ll h (dne dj hd) hl (fun hm=>hl (tmI p.2.1 (by simp[Op.operands,Call.operands]) d hm)) (fun hm=>hl (tmI p.2.2 (by simp[Op.operands,Call.operands]) d hm)) hc
 | _=>rw[hop]at hk;cases hk
theorem MF {oj:Oper} {d:Nat} {K:(Nat->AV)->Prop} (hg:oj.guard=none) (hk:MP oj.op=true) (hne:oj.dst≠some d) (hl:d∉oj.looksAt ops) (hc:∀ t,(F t).uses d=false) (h:jg P TE N ops oj K F) :
  jg P TE N ops oj (fun F1=>K F1/\cR (oj.looksAt ops) F F1) F:=by
 refine jE (HO (d:=d) (v:=F d) hg hk hne hl hc (by rw[J8];exact h)) fun F1 h1=>?_
 obtain⟨v1,e,hK,u⟩:=h1;rw[e rfl,J8]at hK;exact⟨hK,u⟩
theorem Jy {t e:Nat} {v:AV} (h:(LN t v).uses e=true):v.uses e=true:=by
 cases v with
 | bor t' off st ag=>simp only[LN]at h;cases hb:Nat.beq t' t<;>rw[hb]at h<;>first|exact h|cases h
 | ref t' off st=>simp only[LN]at h;cases hb:Nat.beq t' t<;>rw[hb]at h<;>first|exact h|cases h
 | _=>exact h
theorem cR.kill {ts:List Nat} {t:Nat} : cR ts F (kill F t):=fun s e hu=>by
 unfold Ab.kill at hu;cases hb:Nat.beq s t with
 | true=>rw[hb]at hu;cases hu
 | false=>rw[hb]at hu;exact .inr ⟨s,Jy hu⟩
theorem cR.setH {ts:List Nat} {t:Nat} {k:Kd} {cs:List C} : cR ts F (setH F t (.hold k cs)):=fun s e hu=>by
 unfold Ab.setH at hu;cases hb:Nat.beq s t with
 | true=>rw[hb]at hu;cases hu
 | false=>rw[hb]at hu;exact .inr ⟨s,hu⟩
theorem FF {ts:List Nat} {d:Nat} {k:Kd} {rcs:List C} {K:(Nat->AV)->Prop} (h:bM N F d (.hold k rcs) K):bM N F d (.hold k rcs) fun F1=>K F1/\cR ts F F1:=by
 unfold bM at h |-;cases hb:(N.free d&&!(AV.hold k rcs).uses d) with
 | false=>rw[hb]at h;exact h.elim
 | true=>rw[hb]at h;exact⟨h,cR.put fun e he=>by cases he⟩
theorem rJ {ts:List Nat} {t off n:Nat} {st:cm} {K:(Nat->AV)->List C->Prop} (h:lendAt F t off st n K):lendAt F t off st n fun F1 cs=>K F1 cs/\cR ts F F1:=by
 unfold lendAt at h |-;split at h
 case h_2=>exact h.elim
 split at h
 ·rename_i k bs _ _
  cases hb:Nat.ble (off+n) bs.length with
  | false=>rw[hb]at h;exact h.elim
  | true=>
   rw[hb]at h;simp only[cond_true,de]at h |-;exact⟨h,cR.updH⟩
 ·obtain⟨r,j,h1,h2,h3,hK⟩:=Lq.out h
  refine .mk_ ?_;exact⟨r,j,_,_,h1,h2,h3,rfl,rfl,hK,cR.updH⟩
theorem j9 {ts:List Nat} : ∀ {xs:List (Operand × Nat)} {K:(Nat->AV)->List (MA × wI)->Prop} {F:Nat->AV},lendP xs K F->lendP xs (fun F1 l=>K F1 l/\cR ts F F1) F
 | [],K,F,h=>⟨h,cR.refl _ _⟩
 | (x,0)::xs,K,F,h=>j9 (xs:=xs) h
 | (x,1)::xs,K,F,h=>by
  simp only[lendP]at h |-;split at h
  case h_2=>exact h.elim
  split at h
  ·exact gK (rJ (ts:=ts) h) fun F1 cs h=>dr (j9 (ts:=ts) h.1) fun F2 l h2=>⟨h2.1,h.2.trans h2.2⟩
  ·exact gK (rJ (ts:=ts) h) fun F1 cs h=>dr (j9 (ts:=ts) h.1) fun F2 l h2=>⟨h2.1,h.2.trans h2.2⟩
  ·exact gK (rJ (ts:=ts) h) fun F1 cs h=>dr (j9 (ts:=ts) h.1) fun F2 l h2=>⟨h2.1,h.2.trans h2.2⟩
  ·exact h.elim
 | (x,n+2)::xs,K,F,h=>by
  simp only[lendP]at h |-;split at h
  case h_2=>exact h.elim
  split at h
  ·split at h
   ·exact dr (j9 (ts:=ts) h) fun F2 l h2=>⟨h2.1,cR.kill.trans h2.2⟩
   ·exact h.elim
  ·exact dr (j9 (ts:=ts) h) fun F2 l h2=>⟨h2.1,cR.kill.trans h2.2⟩
  ·exact h.elim
theorem jR {ts:List Nat} {K:(Nat->AV)->Prop} : ∀ {l:List (MA × wI)} {B:List MA} {F:Nat->AV},ip l B K F->ip l B (fun F1=>K F1/\cR ts F F1) F
 | [],[],F,h=>⟨h,cR.refl _ _⟩
 | [],_::_,F,h=>h.elim
 | (m,.no)::l,[],F,h=>h.elim
 | (m,.at_ t off st)::l,[],F,h=>h.elim
 | (m,.box t)::l,[],F,h=>h.elim
 | (m,.no)::l,.val _ _::B,F,h=>jR (l:=l) (B:=B) h
 | (m,.no)::l,.mut _ _::B,F,h=>jR (l:=l) (B:=B) h
 | (m,.no)::l,.ptr _::B,F,h=>jR (l:=l) (B:=B) h
 | (m,.at_ t off st)::l,.val _ _::B,F,h=>h.elim
 | (m,.at_ t off st)::l,.ptr _::B,F,h=>h.elim
 | (m,.box t)::l,.val _ _::B,F,h=>h.elim
 | (m,.box t)::l,.mut _ _::B,F,h=>h.elim
 | (m,.at_ t off st)::l,.mut ag out::B,F,h=>by
  simp only[ip]at h |-;split at h
  case h_2=>exact h.elim
  split at h
  ·rename_i k bs _ _
   cases hb:Nat.ble (off+out.length) bs.length with
   | false=>rw[hb]at h;exact h.elim
   | true=>
    rw[hb]at h;simp only[cond_true,de]at h |-;exact dH (fun F2 h2=>⟨h2.1,cR.updH.trans h2.2⟩) (jR (ts:=ts) h)
  ·obtain⟨r,j,e1,e2,e3,hK⟩:=Pu.out h
   exact Pu.mk e1 e2 e3 rfl (dH (fun F2 h2=>⟨h2.1,cR.updH.trans h2.2⟩) (jR (ts:=ts) hK))
 | (m,.box t)::l,.ptr out::B,F,h=>by
  simp only[ip]at h |-;split at h
  ·exact dH (fun F2 h2=>⟨h2.1,cR.setH.trans h2.2⟩) (jR (ts:=ts) h)
  ·exact h.elim
theorem K4 {ts:List Nat} {d:Option Nat} {f:Nat} {args:List Operand} {modes:List Nat} {K:(Nat->AV)->Prop} (h:mS P N F d f args modes K):mS P N F d f args modes fun F1=>K F1/\cR ts F F1:=by
 unfold mS at h |-;refine dr (j9 (ts:=ts) h) fun F' l h=>?_
 obtain⟨h,u1⟩:=h;cases hb:(vr l&&Nat.beq args.length modes.length) with
 | false=>rw[hb]at h;exact h.elim
 | true=>
  rw[hb]at h;refine jJ h fun b A h=>?_
  obtain⟨sh,B,k,rcs,h1,h2,h3⟩:=cv.out h;refine cv.mk h1 h2 (dH (fun F'' h=>?_) (jR (ts:=ts) h3));obtain⟨h,u2⟩:=h;cases d with
  | none=>exact⟨h,u1.trans u2⟩
  | some d=>exact bI (FF (ts:=ts) h) fun F2 h2=>⟨h2.1,(u1.trans u2).trans h2.2⟩
theorem Lo {ts:List Nat} {d:Option Nat} {t:Nat} {cs:List C} {o0 n0 o1 n1:Nat} {K:(Nat->AV)->Prop} {k:Kd} {rcs:List C} {B:List MA} (h:BI N F d t cs o0 n0 o1 n1 K k rcs B):BI N F d t cs o0 n0 o1 n1 (fun F1=>K F1/\cR ts F F1) k rcs B:=by
 unfold BI at h |-;split at h
 case h_2=>exact h.elim
 rename_i c0 c1;cases hl:(Nat.beq c0.length n0&&Nat.beq c1.length n1) with
 | false=>rw[hl]at h;exact h.elim
 | true=>
  rw[hl]at h;simp only[cond_true,de]at h |-;cases d with
  | none=>exact⟨h,cR.kill.trans cR.setH⟩
  | some d=>exact bI (FF (ts:=ts) h) fun F2 h2=>⟨h2.1,(cR.kill.trans cR.setH).trans h2.2⟩
theorem JT {ts:List Nat} {d:Option Nat} {f:Nat} {args:List Operand} {n0 n1:Nat} {K:(Nat->AV)->Prop} (h:lH P N F d f args n0 n1 K):lH P N F d f args n0 n1 fun F1=>K F1/\cR ts F F1:=by
 unfold lH at h |-;split at h
 case h_2=>exact h.elim
 refine oc h fun t o0 h=>oc h fun t' o1 h=>?_
 split at h
 case h_2=>exact h.elim
 rename_i cs hF;cases hb:(Nat.beq t' t&&Nat.ble (o0+n0) o1&&Nat.ble (o1+n1) cs.length) with
 | false=>rw[hb]at h;exact h.elim
 | true=>
  rw[hb]at h;simp only[cond_true,de]at h |-;obtain⟨sh,B,k,rcs,h1,h2,h3⟩:=cv.out h;exact cv.mk h1 h2 (Lo h3)
theorem JM {ts:List Nat} {d:Option Nat} {f:Nat} {args:List Operand} {modes:List Nat} {K:(Nat->AV)->Prop} (h:lJ P N F d f args modes K):lJ P N F d f args modes fun F1=>K F1/\cR ts F F1:=by
 unfold lJ at h |-;split
 ·rename_i p hp;rw[hp]at h;exact JT h
 ·rename_i hp;rw[hp]at h;exact K4 h
theorem Le {oj:Oper} {K:(Nat->AV)->Prop} (hg:oj.guard=none) (hk:EW oj.op=true) (h:jg P TE N ops oj K F):jg P TE N ops oj (fun F1=>K F1/\cR (oj.looksAt ops) F F1) F:=by
 have pur:∀ d,oj.dst=some d->df P TE F oj.op (fun av=>bM N F d av K)->df P TE F oj.op fun av=>bM N F d av fun F1=>K F1/\cR (oj.looksAt ops) F F1:=fun d hd h=>by
  have h0:fG P TE N ops oj K F:=by unfold fG eL;rw[hg,hd];exact h
  obtain⟨d',av,hy,hK⟩:=ui h0;have hd':=hy.dst;rw[hd]at hd';simp only[T0]at hd';subst hd';have h1:=hy.at_ F (ik.refl _ _) (fun F1=>K F1/\cR (oj.looksAt ops) F F1) ⟨hK,cR.put fun e he=>(hy.from_ e he).imp id fun⟨t,_,h⟩=>⟨t,h⟩⟩;unfold fG eL at h1;rw[hg,hd]at h1;exact h1
 unfold jg eL at h |-;rw[hg]at h |-;simp only at h |-;cases hop:oj.op with
 | call c=>
  rw[hop]at h hk;cases hm:GP N F (.call c) with
  | some p=>rw[hm]at h;exact JM h
  | none=>
   rw[hm]at h;simp only at h |-;have hap:pW c=none:=by
    simp only[EW]at hk;unfold pW;cases hc:c.callee with
    | value=>rfl
    | _=>simp[hc]at hk
   cases hd:oj.dst with
   | none=>rw[hd]at h;exact h.elim
   | some d=>
    rw[hd]at h;simp only[mX,hap]at h |-;have h2:=pur d hd;rw[hop]at h2;exact h2 h
 | _=>rw[hop]at hk;cases hk
theorem KZ {oj:Oper} {d:Nat} {K:(Nat->AV)->Prop} (hg:oj.guard=none) (hk:(MP oj.op || EW oj.op)=true) (hne:oj.dst≠some d) (hl:d∉oj.looksAt ops) (hc:∀ t,(F t).uses d=false) (h:jg P TE N ops oj K F) :
  jg P TE N ops oj (fun F1=>K F1/\cR (oj.looksAt ops) F F1) F:=by
 rw[Bool.or_eq_true]at hk;rcases hk with hk|hk
 ·exact MF hg hk hne hl hc h
 ·exact Le hg hk h
structure kK (ops:Array Oper) (ds:List Nat) (F:Nat->AV) (listed:Array Bool):Prop where
 dst:∀ (j:Nat) (o:Oper) (d:Nat),mE ds o=true->ops[j]? = some o->listed.getD j true=false->o.dst=some d->∀ t,(F t).uses d=false
 mv:∀ (j:Nat) (o:Oper) (T:Option Nat) (s:Nat),mE ds o=true->ops[j]? = some o->listed.getD j true=false->o.guard=none->lI o.op=some (T,s)->iq ops o s=true->∀ t,(F t).uses s=false
theorem kK.put {j d:Nat} {mv:Option Nat} {listed:Array Bool} {av:AV} (h:kK ops ds F listed) (hav:∀ j' o' d',mE ds o'=true->j'≠j->ops[j']? = some o'->listed.getD j' true=false->o'.dst=some d'->av.uses d'=false)
  (hmv:∀ j' o' T s,mE ds o'=true->j'≠j->ops[j']? = some o'->listed.getD j' true=false->o'.guard=none->lI o'.op=some (T,s)->iq ops o' s=true->av.uses s=false) :
  kK ops ds (eff mv d av F) (listed.setIfInBounds j true):=by
 refine⟨fun j' o' d' hm hj' hl hd' t=>?_,fun j' o' T s hm hj' hl hg hmo hso t=>?_⟩
 ·have hne:=gN hl
  rw[getD_set_ne true (Ne.symm hne)]at hl;exact iH (hav j' o' d' hm hne hj' hl hd') (h.dst j' o' d' hm hj' hl hd' t)
 ·have hne:=gN hl
  rw[getD_set_ne true (Ne.symm hne)]at hl;exact iH (hmv j' o' T s hm hne hj' hl hg hmo hso) (h.mv j' o' T s hm hj' hl hg hmo hso t)
theorem ux {o:Oper} (h:Ni o=true):o.guard=none:=by
 unfold Ni at h;cases hg:o.guard with
 | none=>rfl
 | some p=>rw[hg]at h;cases h
theorem J4 {ts:List Nat} {d:Nat} (h:(!ts.any (Nat.beq d))=true):d∉ts:=fun hm=>by
 have:ts.any (Nat.beq d)=true:=v3.2 ⟨d,hm,Nat.beq_refl d⟩;rw[this]at h;cases h
theorem JV {oj oa:Oper} {d:Nat} {nb:Bool} (h:Nm ops oj oa nb=true) (hd:oa.dst=some d):oj.guard=none/\MP oj.op=true/\oj.dst≠some d/\d∉oj.looksAt ops/\oa.guard=none/\d∉oa.looksAt ops/\(nb=true\/∀ T s,lI oa.op=some (T,s)->iq ops oa s=false):=by
 unfold Nm at h;rw[hd]at h;simp only[I0]at h;obtain⟨⟨⟨⟨⟨⟨h1,h2⟩,h3⟩,h4⟩,h5⟩,h6⟩,h7⟩:=h;refine⟨ux h1,h2,fun e=>?_,J4 h4,ux h5,J4 h6,?_⟩
 ·rw[e]at h3;simp at h3
 ·rw[Bool.or_eq_true]at h7
  rcases h7 with h7|h7
  ·exact .inl h7
  ·exact .inr fun T s e=>by rw[e]at h7;simpa using h7
theorem HI {j i:Nat} (h:tJ ops j i=true):mA ops j i:=qv j _ (fun _ hi'=>.one (uF hi')) i h
theorem F7 {o:Oper} (h:mE ds o=true):∃ d,o.dst=some d/\ds.any (Nat.beq d)=true:=by
 unfold mE at h;cases hd:o.dst with
 | none=>rw[hd]at h;cases h
 | some d=>rw[hd]at h;exact⟨d,rfl,h⟩
structure Nv (ops:Array Oper) (ds:List Nat) (nm:Nat->Bool):Prop where
 back:∀ (j:Nat) (oj:Oper),ops[j]? = some oj->∀ e∈oj.after,Region.binds .any e=true->e.on<j
 apart:∀ (i j:Nat) (oi oj:Oper),mE ds oi=true->mE ds oj=true->i≠j->ops[i]? = some oi->ops[j]? = some oj->cL oj i=true\/cL oi j=true\/oi.apart ops oj=true
 look:∀ (i j:Nat) (oi oj:Oper) (d:Nat),mE ds oi=true->i≠j->ops[i]? = some oi->ops[j]? = some oj->oi.dst=some d->d∈oj.looksAt ops->cL oj i=true
 differ:∀ (i j:Nat) (oi oj:Oper) (d:Nat),mE ds oi=true->mE ds oj=true->i≠j->ops[i]? = some oi->ops[j]? = some oj->oi.dst=some d->oj.dst≠some d
 nf:∀ (i j:Nat) (oi oj:Oper),mE ds oi=true->mE ds oj=false->i≠j->ops[i]? = some oi->ops[j]? = some oj->tJ ops j i=true\/tJ ops i j=true\/Nm ops oj oi (nm i)=true
 mvs:∀ (j:Nat) (oj:Oper) (T:Option Nat) (s:Nat),mE ds oj=true->ops[j]? = some oj->lI oj.op=some (T,s)->iq ops oj s=true->ds.any (Nat.beq s)=true
theorem nM {listed:Array Bool} {j i:Nat} {oj:Oper} (hok:Nv ops ds nm) (hdc:DC ops listed) (hoj:ops[j]? = some oj) (hall:∀ e∈oj.after,Region.binds .any e=true->listed.getD e.on false=true) (hr:tJ ops j i=true):listed.getD i false=true:=
 mf hdc hok.back (HI hr) (R2.1 hoj).1 fun k hk=>by
  rw[aX hoj]at hk;obtain⟨e,he1,he2,rfl⟩:=bX.1 hk;exact hall e he1 he2
theorem unl {listed:Array Bool} {k:Nat} (h1:listed.getD k true=false) (h2:listed.getD k false=true):False:=by
 rcases Nat.lt_or_ge k listed.size with h'|h'
 ·simp[h']at h1 h2;rw[h1]at h2;cases h2
 ·simp[Array.getElem?_eq_none h']at h2
theorem ik.trans {F1 F2:Nat->AV} {ts:List Nat} (h1:ik F F1 ts) (h2:ik F1 F2 ts):ik F F2 ts:=fun t ht=>by
 obtain⟨a1,a2⟩:=h1 t ht;obtain⟨b1,b2⟩:=h2 t ht;refine⟨b1.trans a1,fun t' hu k cs hh=>b2 t' (by rw[a1];exact hu) k cs (a2 t' hu k cs hh)⟩
theorem kK.us {j:Nat} {oj:Oper} {F1:Nat->AV} {listed:Array Bool} (hok:Nv ops ds nm) (h:kK ops ds F listed) (hoj:ops[j]? = some oj) (hall:∀ e∈oj.after,Region.binds .any e=true->listed.getD e.on false=true) (u:cR (oj.looksAt ops) F F1):kK ops ds F1 (listed.setIfInBounds j true):=by
 refine⟨fun j' o' d' hm hj' hl hd'=>u.clean (fun hlk=>?_) (h.dst j' o' d' hm hj' ?_ hd'),fun j' o' T s hm hj' hl hg hmo hso=>u.clean (fun hlk=>?_) (h.mv j' o' T s hm hj' ?_ hg hmo hso)⟩
 ·have hne:=gN hl
  rw[getD_set_ne true (Ne.symm hne)]at hl;have:=hok.look j' j o' oj d' hm hne hj' hoj hd' hlk;obtain⟨e,he1,he2,rfl⟩:=bX.1 this;exact unl hl (hall e he1 he2)
 ·have hne:=gN hl
  rwa [getD_set_ne true (Ne.symm hne)]at hl
 ·have hne:=gN hl
  exact hne ((fm hso).2 j' j o' oj hj' hoj (cJ hmo) hlk)
 ·have hne:=gN hl
  rwa [getD_set_ne true (Ne.symm hne)]at hl
theorem MK {p d:Nat} {v:AV} {F1:Nat->AV} {op:Oper} (hop:ops[p]? = some op) (hd:d∉op.looksAt ops) (hc:∀ t,(F1 t).uses d=false) (hne:op.dst≠some d) (h:Mz P TE ops p (eff none d v F1)):Mz P TE ops p F1:=by
 obtain⟨dp,h1,h2,h3⟩:=h;rw[aX hop]at h1 h2 h3;refine⟨dp,by rw[aX hop];exact h1,?_,?_⟩
 ·rw[aX hop]
  rw[<-h2];exact tL (ops:=ops) (mW hd hc)
 ·rw[aX hop]
  obtain⟨av,e1,-,e3⟩:=kX h3;rw[di (fun e=>hne (by rw[h1,e]))]at e1;exact e3 F1 (mW (fun hm=>hd (fJ op d hm)) hc) _ e1
theorem Ez (hok:Nv ops ds nm) {i d:Nat} {oi:Oper} {K:(Nat->AV)->Prop} (hi:ops[i]? = some oi) (him:mE ds oi=true) :
  ∀ (fuel:Nat) (listed:Array Bool) (F:Nat->AV) (mv:Option Nat) (av:AV),i∈Region.ready .any ops listed->kK ops ds F listed->DC ops listed->Yl P TE N ops oi F mv d av->(nm i=true->mv=none)->D0 P TE N ops ds K fuel (listed.setIfInBounds i true) (eff mv d av F)->D0 P TE N ops ds K (fuel+1) listed F:=by
 have self:∀ (listed:Array Bool) (F:Nat->AV) (mv:Option Nat) (av:AV),i∈Region.ready .any ops listed->kK ops ds F listed->Yl P TE N ops oi F mv d av->∀ K':(Nat->AV)->Prop,K' (eff mv d av F)->jF P TE N ops oi K' F:=fun listed F mv av hr hcl hy K' hK=>by
  have hiun:=(mem_ready.1 hr).1;refine hy.at_ F (ik.refl _ _) (hcl.dst i oi d him hi hiun hy.dst) (fun s hs=>?_) K' hK;obtain⟨h1,⟨T,h2⟩,h3⟩:=hy.mvl s hs;exact hcl.mv i oi T s him hi hiun h1 h2 h3
 intro fuel
 induction fuel with
 | zero=>
  intro listed F mv av hr hcl hdc hy hnm H;refine⟨fun h=>(by rw[h]at hr;cases hr),fun j hj=>?_⟩;by_cases hji:j=i
  ·subst hji
   unfold sW;rw[hi];simp only[if_pos him];exact self listed F mv av hr hcl hy _ H
  ·have:=ready_mono hj hji
   rw[H.1]at this;cases this
 | succ fuel ih=>
  intro listed F mv av hr hcl hdc hy hnm H;refine⟨fun h=>(by rw[h]at hr;cases hr),fun j hj=>?_⟩;by_cases hji:j=i
  ·subst hji
   unfold sW;rw[hi];simp only[if_pos him];exact self listed F mv av hr hcl hy _ H
  ·have h1:=H.2 j (ready_mono hj hji)
   obtain⟨hjun,oj,hoj,hall⟩:=mem_ready.1 hj;obtain⟨hiun,oi',hoi',halli⟩:=mem_ready.1 hr;rw[hi]at hoi';simp only[T0]at hoi';subst hoi';have noedge:∀ k ok,ops[k]? = some ok->listed.getD k true=false->cL oj k=false:=fun k ok hk hkun=>by
    rw[<-Bool.not_eq_true];intro he;obtain⟨e,he1,he2,he3⟩:=bX.1 he;exact unl hkun (he3 ▸ hall e he1 he2)
   have noedge':∀ k ok,ops[k]? = some ok->listed.getD k true=false->cL oi k=false:=fun k ok hk hkun=>by
    rw[<-Bool.not_eq_true];intro he;obtain⟨e,he1,he2,he3⟩:=bX.1 he;exact unl hkun (he3 ▸ halli e he1 he2)
   have cd:∀ t,(F t).uses d=false:=hcl.dst i oi d him hi hiun hy.dst
   unfold sW at h1 |-;rw[hoj]at h1 |-;simp only at h1 |-;by_cases hjm:mE ds oj=true
   case neg=>
    rw[if_neg hjm]at h1 |-;have hji1:tJ ops j i=false:=by
     rw[<-Bool.not_eq_true];exact fun h=>unl hiun (nM hok hdc hoj hall h)
    have hij1:tJ ops i j=false:=by
     rw[<-Bool.not_eq_true];exact fun h=>unl hjun (nM hok hdc hi halli h)
    have hfb:Nm ops oj oi (nm i)=true:=by
     rcases hok.nf i j oi oj him (by simpa using hjm) (Ne.symm hji) hi hoj with h|h|h
     ·rw[hji1]at h;cases h
     ·rw[hij1]at h;cases h
     ·exact h
    obtain⟨g1,g2,g3,g4,g5,g6,g7⟩:=JV hfb hy.dst;have hmv:mv=none:=by
     cases mv with
     | none=>rfl
     | some s=>
      obtain⟨-,⟨T,q1⟩,q2⟩:=hy.mvl s rfl;rcases g7 with g7|g7
      ·exact hnm g7
      ·rw[g7 T s q1]at q2;cases q2
    subst hmv;refine jE (HO g1 g2 g3 g4 cd h1) fun F1 hF1=>?_
    obtain⟨v,-,⟨hchk,hrun⟩,u⟩:=hF1;have cd1:∀ t,(F1 t).uses d=false:=u.clean g4 cd
    have hisz:i<listed.size:=by
     rcases Nat.lt_or_ge i listed.size with h|h
     ·exact h
     ·simp[Array.getElem?_eq_none h]at hiun
    have hrd:Mz P TE ops i (eff none d v F1):=hchk i (by simp[hisz]) (by rw[aX hi];exact him) hji1;refine⟨fun p hp1 hp2 hp3=>?_,ih (listed.setIfInBounds j true) F1 none v (ready_mono hr (Ne.symm hji)) (hcl.us hok hoj hall u) (hdc.put hj) ?_ (fun _=>rfl) (by rw[Array.setIfInBounds_comm _ _ hji];exact hrun)⟩
    ·have hpi:p≠i:=fun e=>by subst e;exact unl hiun hp1
     have hpl:p<ops.size:=by
      rcases Nat.lt_or_ge p ops.size with h|h
      ·exact h
      ·rw[show cI ops p=default by simp[cI,Array.getD_eq_getD_getElem?,Array.getElem?_eq_none h]]at hp2
       cases hp2
     have h0:ops[p]? = some ops[p]:=Array.getElem?_eq_getElem hpl;have hp2':=hp2;rw[aX h0]at hp2';refine MK h0 (fun hlk=>?_) cd1 (hok.differ i p oi _ d him hp2' (Ne.symm hpi) hi h0 hy.dst) (hchk p (getD_set_true hp1) hp2 hp3);have:=hok.look i p oi _ d him (Ne.symm hpi) hi h0 hy.dst hlk;exact unl hiun (hdc p _ h0 hp1 i this)
    ·obtain⟨dp,q1,q2,q3⟩:=hrd
     rw[aX hi]at q1 q2 q3;have hdp:dp=d:=by rw[hy.dst]at q1;simpa using q1.symm
     subst hdp;rw[mF]at q3;obtain⟨av',e1,e2,e3⟩:=kX q3;subst e1;have agr1:ik (eff none dp av' F1) F1 (oi.looksAt ops):=mW g6 cd1;have fromv:dC F1 (oi.looksAt ops) av':=fun e he=>by
      rcases e2 e he with h|⟨t,ht,h⟩
      ·exact .inl (fJ oi e h)
      ·have htl:=fJ (ops:=ops) oi t ht
       have hne:t≠dp:=fun e=>g6 (e ▸ htl)
       rw[di hne]at h;exact .inr ⟨t,htl,h⟩
     have hself:av'.uses dp=false:=by
      cases hu:av'.uses dp with
      | false=>rfl
      | true=>
       rcases fromv dp hu with h|⟨t,_,h⟩
       ·exact absurd h g6
       ·rw[cd1 t]at h;cases h
     refine⟨hy.dst,hy.lt,hself,fromv,fun s hs=>(by cases hs),fun F' hA hd' _ K' hK=>?_⟩;have agr2:=agr1.trans hA;unfold jF;rw[tL agr2,q2];simp only;unfold fG eL;rw[g5,hy.dst];simp only;refine e3 F' (agr2.mono fun t ht=>fJ oi t ht) _ ?_;unfold bM;rw[hy.lt,hself];show K' (put F' dp av');rw[Ae av' hd'];exact hK
   rw[if_pos hjm]at h1 |-;have hap:oi.apart ops oj=true:=by
    rcases hok.apart i j oi oj him hjm (Ne.symm hji) hi hoj with h|h|h
    ·rw[noedge i oi hi hiun]at h;cases h
    ·rw[noedge' j oj hoj hjun]at h;cases h
    ·exact h
   obtain⟨ap1,ap2,ap3⟩:=Oper.apart_spec hap;have hdl:d∉oj.looksAt ops:=ap1 d hy.dst;have cdj':∀ dj,oj.dst=some dj->∀ t,(F t).uses dj=false:=fun dj hdj=>hcl.dst j oj dj hjm hoj hjun hdj
   have cmv:∀ s,mv=some s->(∀ t,(F t).uses s=false)/\s∉oj.looksAt ops/\s∈oi.looksAt ops:=fun s hs=>by
    obtain⟨g1,⟨T,g2⟩,g3⟩:=hy.mvl s hs;exact⟨hcl.mv i oi T s him hi hiun g1 g2 g3,fun hl=>hji ((fm g3).2 i j oi oj hi hoj (cJ g2) hl).symm,cJ g2⟩
   have cmvj:∀ T s,oj.guard=none->lI oj.op=some (T,s)->iq ops oj s=true->(∀ t,(F t).uses s=false)/\s∉oi.looksAt ops/\s∈oj.looksAt ops:=fun T s g1 g2 g3=>
    ⟨hcl.mv j oj T s hjm hoj hjun g1 g2 g3,fun hl=>hji ((fm g3).2 i j oi oj hi hoj hl (cJ g2)).symm,cJ g2⟩
   have avno:∀ e,e∉oi.looksAt ops->(∀ t,(F t).uses e=false)->av.uses e=false:=fun e h1 h2=>by
    cases hu:av.uses e with
    | false=>rfl
    | true=>
     rcases hy.from_ e hu with h|⟨t,_,h⟩
     ·exact absurd h h1
     ·rw[h2 t]at h;cases h
   obtain⟨mvj,dj,avj,hyj,hKj⟩:=o9 h1 (fun dj hdj t=>iH (avno dj (ap3 dj hdj) (cdj' dj hdj)) (cdj' dj hdj t)) (fun T s g1 g2 g3 t=>by
     obtain⟨c1,c2,-⟩:=cmvj T s g1 g2 g3;exact iH (avno s c2 c1) (c1 t))
   have hdne:d≠dj:=fun e=>ap2 d hy.dst (by rw[hyj.dst,e])
   have hdjl:dj∉oi.looksAt ops:=ap3 dj hyj.dst;have cdj:∀ t,(F t).uses dj=false:=cdj' dj hyj.dst
   have cmj:∀ s,mvj=some s->(∀ t,(F t).uses s=false)/\s∉oi.looksAt ops/\s∈oj.looksAt ops:=fun s hs=>by
    obtain⟨g1,⟨T,g2⟩,g3⟩:=hyj.mvl s hs;exact cmvj T s g1 g2 g3
   have lookj:∀ t,t∈oj.looksAt ops->eff mv d av F t=F t:=fun t ht=>by
    unfold eff;have e1:t≠d:=fun e=>hdl (e ▸ ht)
    have e2:mv≠some t:=fun e=>(cmv t e).2.1 ht
    rw[if_neg e1,if_neg e2]
   have looki:∀ t,t∈oi.looksAt ops->eff mvj dj avj F t=F t:=fun t ht=>by
    unfold eff;have e1:t≠dj:=fun e=>hdjl (e ▸ ht)
    have e2:mvj≠some t:=fun e=>(cmj t e).2.1 ht
    rw[if_neg e1,if_neg e2]
   have avjno:∀ e,e∉oj.looksAt ops->(∀ t,(F t).uses e=false)->avj.uses e=false:=fun e h1 h2=>by
    cases hu:avj.uses e with
    | false=>rfl
    | true=>
     rcases hyj.from_ e hu with h|⟨t,ht,h⟩
     ·exact absurd h h1
     ·rw[lookj t ht,h2 t]at h;cases h
   have agrj:ik (eff mv d av F) F (oj.looksAt ops):=fun t ht=>by
    rw[lookj t ht];refine⟨rfl,fun t' hu k cs hh=>?_⟩;have hne':t'≠d:=fun e=>by rw[e,cd t]at hu;cases hu
    have hnm:mv≠some t':=fun e=>by rw[(cmv t' e).1 t]at hu;cases hu
    unfold eff at hh;rw[if_neg hne',if_neg hnm]at hh;exact hh
   refine hyj.at_ F agrj cdj (fun s hs=>(cmj s hs).1) _ (ih (listed.setIfInBounds j true) (eff mvj dj avj F) mv av (ready_mono hr (Ne.symm hji)) (hcl.put (fun j' o' d' hm' hne' hj' hl' hd'=>?_) (fun j' o' T s hm' hne' hj' hl' g1 g2 g3=>?_)) (hdc.put hj) ?_ hnm ?_)
   ·refine avjno d' (fun h=>?_) (hcl.dst j' o' d' hm' hj' hl' hd')
    have:=hok.look j' j o' oj d' hm' hne' hj' hoj hd' h;rw[noedge j' o' hj' hl']at this;cases this
   ·exact avjno s (fun h=>hne' ((fm g3).2 j' j o' oj hj' hoj (cJ g2) h)) (hcl.mv j' o' T s hm' hj' hl' g1 g2 g3)
   ·refine⟨hy.dst,hy.lt,hy.self,fun e he=>?_,hy.mvl,fun F' hA hd' hs' K' hK=>hy.at_ F' (fun t ht=>?_) hd' hs' K' hK⟩
    ·rcases hy.from_ e he with h|⟨t,ht,h⟩
     ·exact .inl h
     ·exact .inr ⟨t,ht,by rw[looki t ht];exact h⟩
    ·obtain⟨a1,a2⟩:=hA t ht
     rw[looki t ht]at a1 a2;refine⟨a1,fun t' hu k cs hh=>a2 t' hu k cs ?_⟩;have hne':t'≠dj:=fun e=>by rw[e,cdj t]at hu;cases hu
     have hnm:mvj≠some t':=fun e=>by rw[(cmj t' e).1 t]at hu;cases hu
     unfold eff;rw[if_neg hne',if_neg hnm];exact hh
   ·rw[Array.setIfInBounds_comm _ _ hji]
    have:eff mv d av (eff mvj dj avj F)=eff mvj dj avj (eff mv d av F):=by
     funext t
     unfold eff;by_cases e1:t=d
     ·have g1:t≠dj:=fun e=>hdne (e1.symm.trans e)
      have g2:mvj≠some t:=fun e=>hdl (e1 ▸ (cmj t e).2.2)
      simp only[if_pos e1,if_neg g1,if_neg g2]
     ·rw[if_neg e1]
      by_cases e2:t=dj
      ·have g2:mv≠some t:=fun e=>hdjl (e2 ▸ (cmv t e).2.2)
       simp only[if_pos e2,if_neg g2]
      ·simp only[if_neg e2,if_neg e1]
       by_cases e3:mv=some t
       ·by_cases e4:mvj=some t
        ·simp only[if_pos e3,if_pos e4]
        ·simp only[if_pos e3,if_neg e4]
       ·by_cases e4:mvj=some t
        ·simp only[if_neg e3,if_pos e4]
        ·simp only[if_neg e3,if_neg e4]
    rw[this];exact hKj
theorem yj:∀ {fl:List Nat} {X:Prop} {F:Nat->AV},HE P TE ops fl X F->X/\∀ p,p∈fl->Mz P TE ops p F
 | [],X,F,h=>⟨h,fun p hp=>by cases hp⟩
 | p::l,X,F,h=>by
  simp only[HE]at h;unfold N5 at h;cases hd:(cI ops p).dst with
  | none=>rw[hd]at h;exact h.elim
  | some d=>
   rw[hd]at h;simp only at h;cases hm:E8 F (cI ops p) with
   | some q=>rw[hm]at h;exact h.elim
   | none=>
    rw[hm]at h;simp only at h;obtain⟨av,h1,-,-⟩:=kX h;obtain⟨e,hX,hall⟩:=(show av=F d/\X/\∀ p,p∈l->Mz P TE ops p F from⟨h1.out.1,yj h1.out.2⟩)
    refine⟨hX,fun p' hp'=>?_⟩;rcases List.mem_cons.1 hp' with rfl|hp'
    ·exact⟨d,hd,hm,rW h fun av h=>h.out.1⟩
    ·exact hall p' hp'
theorem ow {l:List (Nat × List Nat)} {i:Nat} : oG l i=true↔∃ p,p∈l/\p.1=i:=by
 unfold oG;rw[v3];exact⟨fun⟨p,h1,h2⟩=>⟨p,h1,P1 h2⟩,fun⟨p,h1,h2⟩=>⟨p,h1,by rw[h2];exact Nat.beq_refl i⟩⟩
theorem jy {k:Nat × List Nat} {l:List (Nat × List Nat)} {i:Nat} : oG (k::l) i=(Nat.beq k.1 i || oG l i):=rfl
theorem zI (hok:Nv ops ds nm) {K:(Nat->AV)->Prop} : ∀ (l:List (Nat × List Nat)) (listed:Array Bool) (F:Nat->AV),BN ops ds l=true->listed.size=ops.size->(∀ j,j<ops.size->listed.getD j true = !oG l j)->kK ops ds F listed->DC ops listed->
  He P TE N ops ds nm l K F->D0 P TE N ops ds K l.length listed F
 | [],listed,F,_,hs,hli,_,_,hp=>by
  refine⟨?_,hp⟩;apply List.eq_nil_iff_forall_not_mem.2;intro j hj;obtain⟨h1,o,ho,-⟩:=mem_ready.1 hj;have hlt:=(R2.1 ho).1;rw[hli j hlt]at h1;cases h1
 | k::l,listed,F,hsch,hs,hli,hcl,hdc,hp=>by
  simp only[BN,I0]at hsch;obtain⟨⟨⟨⟨q1,q2⟩,q3⟩,q4⟩,q5⟩:=hsch;have hk:k.1<ops.size:=by simpa[Nat.blt_eq] using q1
  have h0:ops[k.1]? = some ops[k.1]:=Array.getElem?_eq_getElem hk;have hrf:∀ i,i<ops.size->listed.getD i true=true->listed.getD i false=true:=fun i hi h=>by
   have h2:i<listed.size:=by omega
   simp[h2]at h |-;exact h
  have hready:k.1∈Region.ready .any ops listed:=mem_ready.2 ⟨by rw[hli k.1 hk,jy,Nat.beq_refl];rfl,_,h0,fun e he hb=>by
    have hlt:=hok.back k.1 _ h0 e he hb;have hx:=q3;rw[aX h0]at hx;have h3:=z3.1 hx e (by simpa using he);rw[hb]at h3;refine hrf e.on (by omega) ?_;rw[hli e.on (by omega),jy];simpa using h3⟩
  have hli':∀ j,j<ops.size->(listed.setIfInBounds k.1 true).getD j true = !oG l j:=fun j hj=>by
   by_cases hjk:j=k.1
   ·subst hjk
    have:oG l k.1=false:=by simpa using q2
    rw[this];simp[hs,hj]
   ·rw[getD_set_ne true (Ne.symm hjk),hli j hj,jy,show Nat.beq k.1 j=false by rw[<-Bool.not_eq_true,Nat.beq_eq];exact Ne.symm hjk];rfl
  show D0 P TE N ops ds K (l.length+1) listed F;simp only[He]at hp;rw[aX h0]at hp q4;have hun:listed.getD k.1 true=false:=(mem_ready.1 hready).1;cases hfr:mE ds ops[k.1] with
  | true=>
   rw[hfr]at hp;simp only[cond_true]at hp;obtain⟨mv,d,av,hy,hp,hnm⟩:=GY hp (fun d hd=>hcl.dst k.1 _ d hfr h0 hun hd) (fun T s g1 g2 g3=>hcl.mv k.1 _ T s hfr h0 hun g1 g2 g3);have hall:∀ e∈ops[k.1].after,Region.binds .any e=true->listed.getD e.on false=true:=by
    obtain⟨-,o',ho',hall⟩:=mem_ready.1 hready;rw[h0]at ho';simp only[T0]at ho';subst ho';exact hall
   refine Ez hok h0 hfr l.length listed F mv av hready hcl hdc hy hnm (zI hok l _ _ q5 (by simpa using hs) hli' (hcl.put (fun j' o' d' hm' hne' hj' hl'' hd'=>?_) (fun j' o' T s hm' hne' hj' hl'' g1 g2 g3=>?_)) (hdc.put hready) hp)
   ·cases hu:av.uses d' with
    | false=>rfl
    | true=>
     rcases hy.from_ d' hu with h|⟨t,_,h⟩
     ·have:=hok.look j' k.1 o' _ d' hm' hne' hj' h0 hd' h
      obtain⟨e,he1,he2,he3⟩:=bX.1 this;exact(unl hl'' (he3 ▸ hall e he1 he2)).elim
     ·rw[hcl.dst j' o' d' hm' hj' hl'' hd' t]at h;cases h
   ·cases hu:av.uses s with
    | false=>rfl
    | true=>
     rcases hy.from_ s hu with h|⟨t,_,h⟩
     ·exact absurd ((fm g3).2 j' k.1 o' _ hj' h0 (cJ g2) h) hne'
     ·rw[hcl.mv j' o' T s hm' hj' hl'' g1 g2 g3 t]at h;cases h
  | false=>
   rw[hfr]at hp q4;simp only[cond_false]at hp;simp only[Bool.false_or,I0]at q4;obtain⟨⟨r1,r2⟩,r3⟩:=q4;refine⟨fun h=>(by rw[h]at hready;cases hready),fun j hj=>?_⟩;obtain⟨hjun,oj,hoj,hall⟩:=mem_ready.1 hj;have hjlt:=(R2.1 hoj).1;have hjk:j=k.1:=by
    rw[hli j hjlt,jy]at hjun;cases hb:Nat.beq k.1 j with
    | true=>exact(P1 hb).symm
    | false=>
     rw[hb]at hjun;obtain⟨p,hp1,rfl⟩:=ow.1 (show oG l j=true by simpa using hjun);exact(unl hun (nM hok hdc hoj hall (z3.1 r1 p hp1))).elim
   subst hjk;rw[h0]at hoj;simp only[T0]at hoj;subst hoj;unfold sW;rw[h0];simp only[hfr,if_neg (show ¬false=true by decide)];have post:∀ F1,HE P TE ops k.2 (He P TE N ops ds nm l K F1) F1->kK ops ds F1 (listed.setIfInBounds k.1 true)->(∀ p,listed.getD p false=true->mE ds (cI ops p)=true->tJ ops k.1 p=false->Mz P TE ops p F1)/\D0 P TE N ops ds K l.length (listed.setIfInBounds k.1 true) F1:=fun F1 hch hcl1=>by
    obtain⟨hrun,hrd⟩:=yj hch;refine⟨fun p hp1 hp2 hp3=>hrd p ?_,zI hok l _ _ q5 (by simpa using hs) hli' hcl1 (hdc.put hready) hrun⟩;have hpl:p<ops.size:=by
     rcases Nat.lt_or_ge p ops.size with h|h
     ·exact h
     ·rw[show cI ops p=default by simp[cI,Array.getD_eq_getD_getElem?,Array.getElem?_eq_none h]]at hp2
      cases hp2
    have h4:=fL r2 hpl;rw[hp2,hp3]at h4;have hml:oG l p=false:=by
     rw[<-Bool.not_eq_true];intro hm;have:listed.getD p true=false:=by rw[hli p hpl,jy,hm];simp
     exact unl this hp1
    rw[hml]at h4;simp only[Bool.not_true,Bool.false_or]at h4;obtain⟨x,hx1,hx2⟩:=v3.1 h4;exact P1 hx2 ▸ hx1
   cases hlater:l.any (fun j=>mE ds (cI ops j.1)) with
   | false=>
    refine jE hp fun F1 hch=>post F1 hch ⟨fun j' o' d' hm' hj' hl'' hd'=>?_,fun j' o' T s hm' hj' hl''=>?_⟩
    all_goals
     exfalso;have hj'lt:=(R2.1 hj').1;rw[hli' j' hj'lt]at hl'';obtain⟨p,hp1,rfl⟩:=ow.1 (show oG l j'=true by simpa using hl'');have:l.any (fun j=>mE ds (cI ops j.1))=true:=v3.2 ⟨p,hp1,by rw[aX hj'];exact hm'⟩;rw[this]at hlater;cases hlater
   | true=>
    rw[hlater]at r3;simp only[Bool.not_true,Bool.false_or,I0]at r3;obtain⟨x,hx1,hx2⟩:=v3.1 hlater;have hxun:listed.getD x.1 true=false/\x.1<ops.size:=by
     have hlt:x.1<ops.size:=by
      rcases Nat.lt_or_ge x.1 ops.size with h|h
      ·exact h
      ·rw[show cI ops x.1=default by simp[cI,Array.getD_eq_getD_getElem?,Array.getElem?_eq_none h]]at hx2
       cases hx2
     refine⟨?_,hlt⟩;rw[hli x.1 hlt,jy,ow.2 ⟨x,hx1,rfl⟩];simp
    have hx0:ops[x.1]? = some ops[x.1]:=Array.getElem?_eq_getElem hxun.2;rw[aX hx0]at hx2;obtain⟨d,hd,hdd⟩:=F7 hx2;have hxk:x.1≠k.1:=fun e=>by
     have:oG l k.1=true:=ow.2 ⟨x,hx1,e⟩;rw[this]at q2;cases q2
    refine jE (KZ (d:=d) (ux r3.1) r3.2 (fun e=>?_) (fun hlk=>?_) (hcl.dst x.1 _ d hx2 hx0 hxun.1 hd) hp) fun F1 h1=>post F1 h1.1 (hcl.us hok h0 hall h1.2)
    ·unfold mE at hfr
     rw[e]at hfr;simp only at hfr;rw[hdd]at hfr;cases hfr
    ·have:=hok.look x.1 k.1 _ _ d hx2 hxk hx0 h0 hd hlk
     obtain⟨e,he1,he2,he3⟩:=bX.1 this;exact unl hxun.1 (he3 ▸ hall e he1 he2)
theorem An {sch:List (Nat × List Nat)} (h:zw ops ds sch=true):Nv ops ds (NA sch)/\BN ops ds sch=true/\sch.length=ops.size/\∀ j,j<ops.size->oG sch j=true:=by
 unfold zw at h;simp only[I0]at h;obtain⟨⟨hb0,hlen⟩,hsch⟩:=h;have hb:=fun j (hj:j<ops.size)=>fL hb0 hj
 have pr:∀ (i j:Nat) (oi oj:Oper),i≠j->ops[i]? = some oi->ops[j]? = some oj->ya ops ds (NA sch) i j=true:=fun i j oi oj hne h1 h2=>by
  have:=hb j (R2.1 h2).1;simp only[I0]at this;have:=fL this.2 (R2.1 h1).1;rw[show Nat.beq i j=false by rw[<-Bool.not_eq_true,Nat.beq_eq];exact hne]at this;exact this
 refine⟨⟨fun j oj hj e he hbe=>?_,fun i j oi oj f1 f2 hne h1 h2=>?_,fun i j oi oj d f1 hne h1 h2 hd hl=>?_,fun i j oi oj d f1 f2 hne h1 h2 hd he=>?_,fun i j oi oj f1 f2 hne h1 h2=>?_,fun j oj T s f1 hj hmo hso=>?_⟩,hsch,P1 hlen,fun j hj=>?_⟩
 ·have:=hb j (R2.1 hj).1
  rw[aX hj]at this;simp only[I0]at this;have:=z3.1 this.1.1.1 e (by simpa using he);rw[hbe]at this;simpa[Nat.blt_eq] using this
 ·have:=pr i j oi oj hne h1 h2
  unfold ya at this;rw[aX h1,aX h2,f1,f2]at this;simp only[cond_true,I0,Bool.or_eq_true]at this;rcases this.1.1 with(h|h)|h
  ·exact .inl h
  ·exact .inr (.inl h)
  ·exact .inr (.inr h)
 ·have:=pr i j oi oj hne h1 h2
  unfold ya at this;rw[aX h1,aX h2,f1]at this;have hlk:re ops i j=true:=by
   unfold re;rw[aX h1,hd];simp only;rw[aX h2];exact v3.2 ⟨d,hl,Nat.beq_refl d⟩
  rw[hlk]at this;cases f2:mE ds oj with
  | true=>
   rw[f2]at this;simp only[cond_true,I0,Bool.not_true,Bool.false_or]at this;exact this.1.2
  | false=>
   rw[f2]at this;simp only[cond_true,cond_false,I0,Bool.not_true,Bool.false_or]at this;exact this.2
 ·have:=pr i j oi oj hne h1 h2
  unfold ya at this;rw[aX h1,aX h2,f1,f2,hd,he]at this;simp[Nat.beq_refl]at this
 ·have:=pr i j oi oj hne h1 h2
  unfold ya at this;rw[aX h1,aX h2,f1,f2]at this;simp only[cond_true,cond_false,I0,Bool.or_eq_true]at this;rcases this.1 with(h|h)|h
  ·exact .inl h
  ·exact .inr (.inl h)
  ·exact .inr (.inr h)
 ·have:=hb j (R2.1 hj).1
  rw[aX hj]at this;simp only[I0]at this;have:=this.1.2;rw[f1,hmo]at this;simp only[hso,Bool.not_true,Bool.false_or]at this;exact this
 ·have:=hb j hj
  simp only[I0]at this;exact this.1.1.2
theorem nZ {l:List Nat} {j:Nat} : zT l j=true↔j∈l:=by
 unfold zT;rw[v3];exact⟨fun⟨x,h1,h2⟩=>P1 h2 ▸ h1,fun h=>⟨j,h,Nat.beq_refl j⟩⟩
theorem B3 {p:Nat->Prop} : ∀ {l:List Nat} {i:Nat},NQ p i l->∀ j,j∈i::l->p j
 | [],i,h,j,hj=>by rw[X0.1 hj];exact h
 | k::l,i,h,j,hj=>by
  rcases List.mem_cons.1 hj with rfl|hj
  ·exact h.1
  ·exact B3 h.2 j hj
theorem BK {l:List Nat} {K:Prop} {p:Nat->Prop} (h:NC l K p):(l=[]->K)/\∀ j∈l,p j:=by
 cases l with
 | nil=>exact⟨fun _=>h,fun j hj=>by cases hj⟩
 | cons i l=>exact⟨fun e=>(by cases e),B3 h⟩
theorem pL {listed:Array Bool} {done:List Nat} (hs:listed.size=ops.size) (hli:∀ j,j<ops.size->listed.getD j true=zT done j) (hb:∀ k∈done,k<ops.size) {j:Nat} : j∈Region.ready .any ops listed↔j∈JC ops done:=by
 have hrf:∀ i,listed.getD i false=zT done i:=fun i=>by
  by_cases hi:i<ops.size
  ·rw[<-hli i hi]
   have h2:i<listed.size:=by omega
   simp[h2]
  ·have h2:listed.getD i false=false:=by simp[Array.getElem?_eq_none (show listed.size<=i by omega)]
   rw[h2]
   symm
   rw[<-Bool.not_eq_true,nZ];exact fun hm=>hi (hb i hm)
 rw[mem_ready];unfold JC;rw[Q3,List.mem_range,I0];constructor
 ·rintro⟨h1,o,ho,hall⟩
  have hlt:=(R2.1 ho).1;refine⟨hlt,by rw[<-hli j hlt,h1];rfl,z3.2 fun e he=>?_⟩;rw[aX ho]at he;cases hbe:Region.binds .any e with
  | false=>rfl
  | true=>
   have:=hall e (by simpa using he) hbe;rw[hrf]at this;simpa using this
 ·rintro⟨hlt,h1,h2⟩
  refine⟨by rw[hli j hlt];simpa using h1,ops[j],Array.getElem?_eq_getElem hlt,fun e he hbe=>?_⟩;have:=z3.1 h2 e (by rw[aX (Array.getElem?_eq_getElem hlt)];simpa using he);rw[hbe]at this;rw[hrf];simpa using this
theorem Md {K:(Nat->AV)->Prop} : ∀ (n:Nat) (done:List Nat) (listed:Array Bool) (F:Nat->AV),listed.size=ops.size->(∀ j,j<ops.size->listed.getD j true=zT done j)->(∀ k∈done,k<ops.size)->MD P TE N ops K n done F->D0 P TE N ops [] K n listed F
 | 0,done,listed,F,hs,hli,hb,h=>by
  obtain⟨h1,h2⟩:=BK h;have he:JC ops done=[]:=List.eq_nil_iff_forall_not_mem.2 fun j hj=>h2 j hj
  exact⟨List.eq_nil_iff_forall_not_mem.2 fun j hj=>(by rw[pL hs hli hb,he]at hj;cases hj),h1 he⟩
 | n+1,done,listed,F,hs,hli,hb,h=>by
  obtain⟨h1,h2⟩:=BK h;refine⟨fun he=>h1 (List.eq_nil_iff_forall_not_mem.2 fun j hj=>(by rw[<-pL hs hli hb,he]at hj;cases hj)),fun i hi=>?_⟩;have hi':=(pL hs hli hb).1 hi;have h3:=h2 i hi';have hlt:i<ops.size:=List.mem_range.1 (Q3.1 hi').1;have h0:ops[i]? = some ops[i]:=Array.getElem?_eq_getElem hlt;unfold sW;rw[h0];simp only;rw[aX h0]at h3;have hf:mE [] ops[i]=false:=by unfold mE;split<;>rfl
  rw[if_neg (by rw[hf];decide)];refine jE h3 fun F1 hF=>⟨fun p _ hp=>?_,Md n (i::done) _ F1 (by simpa using hs) (fun j hj=>?_) (fun k hk=>?_) hF⟩
  ·have:mE [] (cI ops p)=false:=by unfold mE;split<;>rfl
   rw[this]at hp;cases hp
  ·by_cases e:j=i
   ·subst e
    rw[show zT (j::done) j=true from nZ.2 (I1 ..)];simp[hs,hj]
   ·rw[getD_set_ne true (Ne.symm e),hli j hj]
    rw[V3,nZ,nZ,List.mem_cons];exact⟨.inr,fun h=>h.resolve_left e⟩
  ·rcases List.mem_cons.1 hk with rfl|hk
   ·exact hlt
   ·exact hb k hk
theorem vP (hTE:∀ t i,TE t=some i->ca P t i) (hm:P.follows .mixedOrders=true) {id:Nat} {tb:List (Nat × Nat × List Nat)} (hok:mh tb id ops=true) {K:(Nat->AV)->Prop} {Q:Exit->Act->World->Prop} (hp:DD P TE N tb id ops K F) (hs:St w0 M S0 N F a w)
  (hq:∀ F' a' w',K F'->St w0 M S0 N F' a' w'->Q .normal a' w'):(Code.region id ops true).wp P Q a w:=by
 unfold mh at hok;unfold DD at hp;cases htb:uo tb id with
 | none=>rw[htb]at hok;cases hok
 | some p=>
  obtain⟨m,L⟩:=p;rw[htb]at hok hp;simp only at hok hp;cases hm3:Nat.ble 65536 m with
  | true=>
   rw[hm3]at hp;refine wp_region_any hm ?_;have hs':St w0 M S0 N F a {w with drawn:=w.drawn+1}:=by
    obtain⟨S,φ,h⟩:=hs;exact⟨S,φ,h.more (w1:={w with drawn:=w.drawn+1}) (fun _ _ h=>h) (fun _ _ h=>.inl h) ⟨rfl,rfl,rfl,I2 _,fun _ _ _=>rfl,fun _ _ _ _=>rfl,fun _ _ _ _=>rfl⟩⟩
   refine pw hTE (ds:=[]) hq ops.size (Array.replicate ops.size false) _ a _ ?_ hs';exact Md ops.size [] _ F (by simp) (fun j hj=>by simp[hj,zT]) (fun k hk=>by cases hk) hp
  | false=>
  rw[hm3]at hok hp;simp only[cond_false]at hok hp;cases hm2:Nat.ble 256 m with
  | false=>
   rw[hm2]at hok hp;exact yX hTE hm hok hp hs hq
  | true=>
   rw[hm2]at hok hp;simp only[cond_true,FB]at hok hp;generalize L.take (m - 256)=ds at hok hp;generalize dec (L.drop (m - 256))=sch at hok hp;obtain⟨hn,hsch,hlen,hmem⟩:=An hok;refine wp_region_any hm ?_;have hs':St w0 M S0 N (Ab.clr ds F) a {w with drawn:=w.drawn+1}:=by
    have h1:=hs.clr ds;obtain⟨S,φ,h⟩:=h1;exact⟨S,φ,h.more (w1:={w with drawn:=w.drawn+1}) (fun _ _ h=>h) (fun _ _ h=>.inl h) ⟨rfl,rfl,rfl,I2 _,fun _ _ _=>rfl,fun _ _ _ _=>rfl,fun _ _ _ _=>rfl⟩⟩
   refine pw hTE (ds:=ds) hq ops.size (Array.replicate ops.size false) _ a _ ?_ hs';have hcl:∀ d,ds.any (Nat.beq d)=true->∀ t,(Ab.clr ds F t).uses d=false:=fun d hd t=>by
    rw[yP];cases hb:ds.any (fun d=>(F t).uses d) with
    | true=>rfl
    | false=>
     simp only[cond_false];cases hu:(F t).uses d with
     | false=>rfl
     | true=>
      obtain⟨d',hd',he⟩:=v3.1 hd;have he':=P1 he;subst he';have:ds.any (fun d=>(F t).uses d)=true:=v3.2 ⟨_,hd',hu⟩;rw[this]at hb;cases hb
   rw[<-hlen];refine zI hn sch _ _ hsch (by simp[hlen]) (fun j hj=>by rw[hmem j hj];simp[hlen,hj]) ⟨fun j o d f1 ho _ hd t=>?_,fun j o T s f1 ho _ _ g2 g3 t=>hcl s (hn.mvs j o T s f1 ho g2 g3) t⟩ (fun j oj hj hl=>by
     have hlt:=(R2.1 hj).1;simp[hlen,hlt]at hl) hp
   obtain⟨d',hd',hdd⟩:=F7 f1;rw[hd]at hd';simp only[T0]at hd';subst hd';exact hcl d hdd t
end
def iY:List (Option Nat)->Kd
 | [ag]=>jV ag
 | sh=>.tup sh
def ng:ResultVar->Nat
 | .tmp t=>t
 | .cell t _=>t
def Bk (tmps:Array Value):ResultVar->Sem Value
 | .tmp t=>pure (tmps.getD t undef)
 | .cell a t=>do loadVar t (<-asAddr (tmps.getD a undef))
def resOne (TE:Nat->Option TI) (F:Nat->AV) (r:ResultVar) (K:Option Nat->List C->Prop):Prop:=
 match r with
 | .tmp t=>(match F t with
   | .hold .one cs=>K none cs
   | .hold .agg cs=>K (some cs.length) cs
   | _=>False)
 | .cell t T=>match TE T with
  | some i=>bif i.agg || Nat.beq i.size 1 then(match F t with
    | .hold .box cs=>bif Nat.beq cs.length i.size then K (oC i) cs else False
    | _=>False) else False
  | none=>False
def resA (TE:Nat->Option TI) (F:Nat->AV):List ResultVar->List Nat->(List (Option Nat)->List C->Prop)->Prop
 | [],_,K=>K [] []
 | r::rs,seen,K=>bif seen.any (Nat.beq (ng r)) then False else resOne TE F r fun ag cs=>resA TE F rs (ng r::seen) fun sh cs'=>K (ag::sh) (cs++cs')
def ND:RA->AV
 | .val ag cs=>.hold (jV ag) cs
 | .ptr cs=>.iref cs 0
 | .fn Ok=>.fv Ok
def tn:Nat->List RA->List (Nat × AV)
 | _,[]=>[]
 | i,A::As=>(i,ND A)::tn (i+1) As
inductive Hx:C->C->Prop
 |rfl_ (c:C):Hx c c
 |z_:Hx .z (.s .own [])
 |own_ (rows rows':List (List C)) (hl:rows.length=rows'.length) (hk:∀ (i:Nat) (r r':List C),rows[i]? = some r->rows'[i]? = some r'->r.length=r'.length)
   (hr:∀ (i j:Nat) (r r':List C) (c c':C),rows[i]? = some r->rows'[i]? = some r'->r[j]? = some c->r'[j]? = some c'->Hx c c'):Hx (.s .own rows) (.s .own rows')
def HT (cs cs':List C):Prop:=cs.length=cs'.length/\∀ (j:Nat) (c c':C),cs[j]? = some c->cs'[j]? = some c'->Hx c c'
theorem HT.nil:HT [] []:=⟨rfl,fun j c c' h=>by simp at h⟩
theorem HT.cons {c c':C} {cs cs':List C} (h:Hx c c') (hs:HT cs cs'):HT (c::cs) (c'::cs'):=by
 refine⟨by simp[hs.1],fun j y y' h1 h2=>?_⟩;cases j with
 | zero=>simp at h1 h2;subst h1 h2;exact h
 | succ j=>exact hs.2 j y y' (by simpa using h1) (by simpa using h2)
theorem Hx.rep {n:Nat} {r r':List C} (h:HT r r'):Hx (.s .own (List.replicate n r)) (.s .own (List.replicate n r')):=by
 refine .own_ _ _ (by simp) (fun i a b h1 h2=>?_) (fun i j a b c c' h1 h2 h3 h4=>?_)
 ·have e1:=List.mem_replicate.1 (O1 h1)
  have e2:=List.mem_replicate.1 (O1 h2);rw[e1.2,e2.2];exact h.1
 ·have e1:=List.mem_replicate.1 (O1 h1)
  have e2:=List.mem_replicate.1 (O1 h2);rw[e1.2]at h3;rw[e2.2]at h4;exact h.2 j c c' h3 h4
theorem L9 {w:World} {S Y:ac} {c:C} {v:Value} (h:dX w S Y c v):∀ c',Hx c c'->dX w S Y c' v:=by
 induction h with
 | z F a=>
  intro c' hd;cases hd with
  | rfl_=>exact .z _ _
  | z_=>exact .nil _ _ _ trivial
 | nil F o a ho=>
  intro c' hd;cases hd with
  | rfl_=>exact .nil _ _ _ ho
  | own_ rows rows' hl=>obtain rfl:rows'=[]:=List.eq_nil_of_length_eq_zero (by simpa using hl.symm);exact .nil _ _ _ trivial
 | own F o g k n cap rows u f ho hn hk hcap hpos hF hu hf hd hc ih=>
  intro c' hd';cases hd' with
  | rfl_=>exact .own _ o g k n cap rows u f ho hn hk hcap hpos hF hu hf hd hc
  | own_ rows rows' hl hk2 hr=>
   have hrow:∀ (i:Nat) (r':List C),rows'[i]? = some r'->∃ r,rows[i]? = some r:=fun i r' hi=>⟨_,Q1 (by have:=(R1.1 hi).1;omega)⟩
   refine .own _ .own g k n cap rows' u f trivial (hl.symm.trans hn) (fun r' hr'=>?_) hcap hpos hF hu hf hd (fun i j r' c' hi hj=>?_)
   ·obtain⟨i,hi⟩:=List.mem_iff_getElem?.1 hr'
    obtain⟨r,hri⟩:=hrow i r' hi;rw[<-hk2 i r r' hri hi];exact hk r (O1 hri)
   ·obtain⟨r,hri⟩:=hrow i r' hi
    have hlen:=hk2 i r r' hri hi;have hjl:=(R1.1 hj).1;have hcj:r[j]? = some (r[j]'(by omega)):=Q1 (by omega);exact ih i j r _ hri hcj _ (hr i j r r' _ c' hri hi hcj hj)
 | v F x h1=>intro c' hd;cases hd;exact .v _ _ h1
 | x F u h1=>intro c' hd;cases hd;exact .x _ _ h1
 | imm F g off k n cap rows u hn hk hcap hS hc ih=>intro c' hd;cases hd;exact .imm _ g off k n cap rows u hn hk hcap hS hc
 | m F b clock es ents hF hb he hv hst=>intro c' hd;cases hd;exact .m _ b clock es ents hF hb he hv hst
 | it F r b since c0 clock seen ents cur left hF hr hb hst hc hv hl hcur=>intro c' hd;cases hd;exact .it _ r b since c0 clock seen ents cur left hF hr hb hst hc hv hl hcur
def WK (cs cs':List C):Prop:=JQ cs cs'\/HT cs cs'
inductive i6 (k k':Kd) (cs cs':List C):Prop
 |mk_ (h:k=k'/\WK cs cs')
theorem kU:∀ (cs:List C),JQ cs cs
 | []=>trivial
 | c::cs=>by
  refine⟨?_,kU cs⟩;cases c with
  | s o rows=>cases o<;>rfl
  | x=>trivial
  | _=>rfl
theorem i6.mk {k k':Kd} {cs cs':List C} (h1:k=k') (h2:cs=cs'):i6 k k' cs cs':=by refine .mk_ ?_;exact⟨h1,.inl (h2 ▸ kU cs)⟩
theorem i6.wk {k k':Kd} {cs cs':List C} (h1:k=k') (h2:JQ cs cs'):i6 k k' cs cs':=.mk_ ⟨h1,.inl h2⟩
theorem i6.dk {k k':Kd} {cs cs':List C} (h1:k=k') (h2:HT cs cs'):i6 k k' cs cs':=.mk_ ⟨h1,.inr h2⟩
theorem i6.out {k k':Kd} {cs cs':List C} (h:i6 k k' cs cs'):k=k'/\WK cs cs':=by obtain⟨h⟩:=h;exact h
theorem WK.len {cs cs':List C} (h:WK cs cs'):cs.length=cs'.length:=h.elim (fun h=>(qn h).1) (fun h=>h.1)
theorem WK.row {w:World} {S Y:ac} {cs cs':List C} {u:Nat->Value} (hc:WK cs cs') (h:cN w S Y cs u):cN w S Y cs' u:=by
 rcases hc with hc|hc
 ·exact z8 hc h
 ·obtain⟨f,h1,h2,h3⟩:=h
  refine⟨f,fun j c' hj=>?_,fun j hj=>h2 j (by rw[hc.1];exact hj),fun j j' hj hj'=>h3 j j' (by rw[hc.1];exact hj) (by rw[hc.1];exact hj')⟩;have hjl:=(R1.1 hj).1;have hcj:cs[j]? = some (cs[j]'(by rw[hc.1];exact hjl)):=Q1 (by rw[hc.1];exact hjl);exact L9 (h1 j _ hcj) c' (hc.2 j _ c' hcj hj)
def LZ (TE:Nat->Option TI) (rs:List ResultVar) (k:Kd) (rcs:List C):Exit->(Nat->AV)->Prop:=fun e F=>
 match e with
 | .normal=>resA TE F rs [] fun sh cs=>i6 (iY sh) k cs rcs
 | .ret=>resA TE F rs [] fun sh cs=>i6 (iY sh) k cs rcs
 | _=>False
def LW (F:Nat->AV) (t:Nat) (rcs:List C):Prop:=
 match F t with
 | .hold .box cs=>i6 .box .box cs rcs
 | .ref t1 0 []=>(match F t1 with
   | .hold .box cs=>i6 .box .box cs rcs
   | _=>False)
 | _=>False
def N0 (t:Nat) (rcs:List C):Exit->(Nat->AV)->Prop:=fun e F=>
 match e with
 | .normal=>LW F t rcs
 | .ret=>LW F t rcs
 | _=>False
section
variable {P:Program} {w0 w w1:World} {M S0 S:ac} {N:fg} {φ:Nat->ac} {F:Nat->AV} {a:Act} {TE:Nat->Option TI}
theorem bh.resOne (h:bh w0 M S0 N S φ F a w) (hTE:∀ t i,TE t=some i->ca P t i) {r:ResultVar} {K:Option Nat->List C->Prop} (hp:resOne TE F r K) :
  ∃ ag cs v,K ag cs/\bP w S (φ (ng r)) ag cs v/\(Bk a.tmps r).run P w=.ok v w:=by
 cases r with
 | tmp t=>
  have hs:=h.slot t;simp only[Ab.resOne]at hp;cases hF:F t with
  | hold k cs=>
   rw[hF]at hp hs;obtain⟨X1,Y,h1,h2,h3,h4,h5⟩:=hs;cases k with
   | one=>exact⟨none,cs,tvs a t,hp,⟨h4,_,rfl,h5.mono (fun _ _ h=>h) h2⟩,rfl⟩
   | agg=>
    obtain⟨arr,hv,hsz⟩:=h4;refine⟨some cs.length,cs,tvs a t,hp,⟨rfl,bT w .agg (tvs a t),?_,h5.mono (fun _ _ h=>h) h2⟩,rfl⟩;rw[hv];have:=ov arr;rw[hsz]at this;exact this
   | _=>exact hp.elim
  | _=>rw[hF]at hp;exact hp.elim
 | cell t T=>
  have hs:=h.slot t;simp only[Ab.resOne]at hp;split at hp
  case h_2=>exact hp.elim
  rename_i i hT;have ht:=hTE _ _ hT;cases ha:(i.agg || Nat.beq i.size 1) with
  | false=>rw[ha]at hp;exact hp.elim
  | true=>
   rw[ha]at hp;simp only[cond_true]at hp;cases hF:F t with
   | hold k cs=>
    rw[hF]at hp hs;cases k with
    | box=>
     simp only at hp;cases hl:Nat.beq cs.length i.size with
     | false=>rw[hl]at hp;exact hp.elim
     | true=>
      rw[hl]at hp;have hl':=P1 hl;obtain⟨X1,Y,h1,h2,h3,⟨g,o,hv,hb⟩,h5⟩:=hs;have hcell:∀ d,d<i.size->cel w g (o+d)=some (bT w .box (tvs a t) d):=fun d hd=>by
       obtain⟨-,⟨z,hz⟩,-⟩:=hb d (by omega);rw[hv];simp only[bT,hz,Option.getD_some]
      have hrun:=wz (w:=w) ht ha hcell;refine⟨_,cs,_,hp,⟨by rw[nD ha];exact hl',_,rfl,h5.mono (fun _ _ h=>h) h2⟩,?_⟩;have hv':a.tmps.getD t undef=.pointer (some ⟨g,o,none⟩):=hv;simp only[Bk,hv',asAddr];exact hrun
    | _=>exact hp.elim
   | _=>rw[hF]at hp;exact hp.elim
theorem EK {ag:Option Nat} {cs:List C} {v:Value} {Y:ac} (h:bP w S Y ag cs v):∃ u,v.cells.toList=(List.range cs.length).map u/\cN w S Y cs u/\v=mkv ag u:=by
 obtain⟨hl,u,rfl,hr⟩:=h;refine⟨u,?_,hr,rfl⟩;rw[oo (fun e=>by subst e;exact hr.one (by simp at hl;omega)),hl]
theorem EP {Y1 Y2:ac} {cs cs':List C} {u u':Nat->Value} (h:cN w S Y1 cs u) (h':cN w S Y2 cs' u') (hd:∀ b o,Y1 b o->¬Y2 b o) :
  cN w S (fun b o=>Y1 b o\/Y2 b o) (cs++cs') (fun j=>if j<cs.length then u j else u' (j - cs.length)):=by
 obtain⟨f,h1,h2,h3⟩:=h;obtain⟨f',h1',h2',h3'⟩:=h';refine⟨fun j=>if j<cs.length then f j else f' (j - cs.length),fun j c hj=>?_,fun j hj b o hb=>?_,fun j j' hj hj' hne b o hb hb'=>?_⟩
 ·by_cases hl:j<cs.length
  ·simp only[if_pos hl];rw[R3 hl]at hj;exact h1 j c hj
  ·simp only[if_neg hl];rw[T3 (by omega)]at hj;exact h1' _ c hj
 ·rw[P2]at hj
  by_cases hl:j<cs.length
  ·rw[if_pos hl]at hb;exact .inl (h2 j hl b o hb)
  ·rw[if_neg hl]at hb;exact .inr (h2' _ (by omega) b o hb)
 ·rw[P2]at hj hj'
  by_cases hl:j<cs.length
  ·rw[if_pos hl]at hb
   by_cases hl':j'<cs.length
   ·rw[if_pos hl']at hb';exact h3 j j' hl hl' hne b o hb hb'
   ·rw[if_neg hl']at hb';exact hd b o (h2 j hl b o hb) (h2' _ (by omega) b o hb')
  ·rw[if_neg hl]at hb
   by_cases hl':j'<cs.length
   ·rw[if_pos hl']at hb';exact hd b o (h2 j' hl' b o hb') (h2' _ (by omega) b o hb)
   ·rw[if_neg hl']at hb';exact h3' _ _ (by omega) (by omega) (by omega) b o hb hb'
theorem bh.resA (h:bh w0 M S0 N S φ F a w) (hTE:∀ t i,TE t=some i->ca P t i):∀ {rs:List ResultVar} {seen:List Nat} {K:List (Option Nat)->List C->Prop},resA TE F rs seen K->
  ∃ sh cs vs u,K sh cs/\(rs.mapM (Bk a.tmps)).run P w=.ok vs w/\wv sh vs/\sh.length=rs.length/\oL sh=cs.length/\
   (vs.flatMap fun v=>v.cells.toList)=(List.range cs.length).map u/\(∀ ag,sh=[ag]->∃ v,vs=[v]/\bP w S (fun b o=>∃ t,t∉seen/\φ t b o) ag cs v)/\cN w S (fun b o=>∃ t,t∉seen/\φ t b o) cs u
 | [],seen,K,hp=>⟨[],[],[],fun _=>undef,hp,rfl,trivial,rfl,rfl,rfl,fun _ h=>by simp at h,cN.nil _ _ _ _⟩
 | r::rs,seen,K,hp=>by
  simp only[Ab.resA]at hp;cases hseen:seen.any (Nat.beq (ng r)) with
  | true=>rw[hseen]at hp;exact hp.elim
  | false=>
   rw[hseen]at hp;simp only[cond_false]at hp;have hns:ng r∉seen:=fun hm=>by
    have:seen.any (Nat.beq (ng r))=true:=v3.2 ⟨_,hm,Nat.beq_refl _⟩;rw[this]at hseen;cases hseen
   obtain⟨ag,cs,v,hp,hv,hrun⟩:=h.resOne hTE hp;obtain⟨sh,cs',vs,u',hK,hrun',hT,hln,hL,hcells,-,hrow⟩:=bh.resA h hTE hp;obtain⟨u,hcv,hr,hmk⟩:=EK hv;have hd:∀ b o,φ (ng r) b o->¬∃ t,t∉ng r::seen/\φ t b o:=fun b o hb ⟨t,ht,hb'⟩=>h.dis _ _ (fun e=>ht (by rw[<-e];simp)) b o hb hb'
   refine⟨ag::sh,cs++cs',v::vs,fun j=>if j<cs.length then u j else u' (j - cs.length),hK,?_,?_,by simp[hln],?_,?_,?_,?_⟩
   ·rw[List.mapM_cons]
    simp only[Sem.run_bind,hrun,Result.andThen_ok,hrun',Sem.run_pure]
   ·obtain⟨hl,-⟩:=hv
    cases ag with
    | none=>
     refine⟨?_,hT⟩;rw[hmk];have h1:(u 0).oneCell'=true:=hr.one (by simp at hl;omega);show(u 0).cells = #[u 0];cases hu:u 0<;>first|(rw[hu]at h1;cases h1;done)|rfl
    | some n=>exact⟨⟨_,by rw[hmk];rfl,by simp⟩,hT⟩
   ·rw[pf,P2,hL,hv.1]
   ·simp only[List.flatMap_cons,hcv,hcells,P2]
    apply List.ext_getElem?;intro j;by_cases hj:j<cs.length
    ·rw[R3 (by simpa using hj)];simp[hj,Nat.lt_add_right]
    ·rw[T3 (by simp;omega)]
     by_cases hj2:j - cs.length<cs'.length
     ·simp[hj,hj2,show j<cs.length+cs'.length by omega]
     ·simp[hj2,show ¬j<cs.length+cs'.length by omega]
   ·intro ag' hag
    simp only[List.cons.injEq]at hag;obtain⟨rfl,rfl⟩:=hag;cases vs with
    | cons _ _=>exact hT.elim
    | nil=>
     have:cs'=[]:=List.eq_nil_of_length_eq_zero (by simpa[oL] using hL.symm);subst this;exact⟨v,rfl,by rw[List.append_nil];exact hv.mono (fun _ _ h=>h) (fun b o hb=>⟨_,hns,hb⟩)⟩
   ·exact(EP hr hrow hd).mono (fun _ _ h=>h) (fun b o hb=>hb.elim (fun hb=>⟨_,hns,hb⟩) (fun⟨t,ht,hb⟩=>⟨t,fun hm=>ht (List.mem_cons_of_mem _ hm),hb⟩))
theorem rg:∀ {A:List RA} {vs:List Value} (i:Nat),wJ w S A vs->∀ t,(lay (tn i A) t=.dead)\/(∃ A0 v,i<=t/\vs[t - i]? = some v/\lay (tn i A) t=ND A0/\nA w S A0 v)
 | [],_,i,_,t=>.inl rfl
 | A0::A,[],i,h,t=>h.elim
 | A0::A,v::vs,i,h,t=>by
  simp only[tn,lay];cases hb:Nat.beq t i with
  | true=>
   have:=P1 hb;subst this;exact .inr ⟨A0,v,I2 _,by simp,rfl,h.1⟩
  | false=>
   have hne:t≠i:=fun e=>by subst e;rw[Nat.beq_refl]at hb;cases hb
   rcases rg (i+1) h.2 t with h1|⟨A1,v',h1,h2,h3⟩
   ·exact .inl h1
   ·refine .inr ⟨A1,v',by omega,?_,h3⟩
    rw[show t - i=(t - (i+1))+1 by omega];simpa using h2
theorem nA.slot {A:RA} {v:Value} (h:nA w S A v) {tv:Nat->Value} : cu w S F tv NO (ND A) v:=by
 cases A with
 | val ag cs=>exact bP.slot h
 | ptr cs=>obtain⟨g,b,u,e1,e2,e3⟩:=h;exact⟨g,b,u,by rw[e1,Nat.add_zero],e2,e3⟩
 | fn Ok=>exact h
theorem zL:∀ {A:List RA} {vs:List Value},wJ w S A vs->A.length=vs.length
 | [],[],_=>rfl
 | _::_,_::_,h=>by simp[zL h.2]
 | [],_::_,h=>h.elim
 | _::_,[],h=>h.elim
theorem G3 {D : Nat -> Array Oper -> ((Nat -> AV) -> Prop) -> (Nat -> AV) -> Prop} {f : Nat} {fn : Func} {c : Code} {sh : Bool} {A : List RA} {k : Kd} {rcs : List C} (hTE : ∀ t i, TE t = some i -> ca P t i) (hf : P.funcs[f]? = some fn) (hn : (fn.name == "runtime.NumGoroutine") = false)
  (hb:fn.body=some c) {ck:Nat->Array Oper->Bool} (hD:wa P N ck D) (hc:fo ck c=true) (hN:A.length+(fn.ntmps - A.length)=N.n) (hkp:N.kp=[]) (hsh:sh=true\/gG rcs) (hp:aw P TE N D c (LZ TE fn.results.toList k rcs) (lay (tn 0 A))):ao P f sh A k rcs:=by
 refine⟨⟨fn,hf,hn,by rw[hb];rfl⟩,fun w S vs hS hA=>?_⟩;have hlen:=zL hA;refine calls_of_wp hf hb ?_;have hst:St w NO S N (lay (tn 0 A)) {tmps:=vs.toArray++Array.replicate (fn.ntmps - vs.toArray.size) undef,defers:=[]} w:=by
  refine⟨S,fun _=>NO,fun t=>?_,fun _ _ _ _ _ h=>h.elim,fun _ _ _ h=>h.elim,fun _ _ _ h=>h.elim,fun _ _ h=>h,fun b o h=>⟨hS b o h,.inl h⟩,bH.refl _ _,by simp;omega,rfl,fun p hp=>by rw[hkp]at hp;cases hp⟩;rcases rg 0 hA t with h1|⟨A0,v,-,h2,h3,h4⟩
  ·rw[h1];trivial
  ·rw[h3]
   have hv:tvs {tmps:=vs.toArray++Array.replicate (fn.ntmps - vs.toArray.size) undef,defers:=[]} t=v:=by
    have hlt:=(R1.1 h2).1;simp only[tvs,Array.getD_eq_getD_getElem?];rw[Array.getElem?_append_left (by simpa using hlt)];simp only[List.getElem?_toArray];rw[show vs[t]? = some v by simpa using h2];rfl
   rw[hv];exact h4.slot
 refine ia hTE hD c hc _ _ _ _ w hp hst fun e F' a' w' he hs'=>?_
 obtain⟨S',φ',h⟩:=hs';have fin:resA TE F' fn.results.toList [] (fun sh cs=>i6 (iY sh) k cs rcs)->a'.defers=[]/\∃ v,(results fn a'.tmps).run P w'=.ok v w'/\(∃ v',Ending.returned v=.returned v'/\bH NO w w'/\∃ X S1:ac,(∀ b o,X b o->b<w'.heap.size/\w.heap.size<=b)/\
     (∀ b o,S1 b o->(sh=true/\S b o)\/(b<w'.heap.size/\w.heap.size<=b))/\(∀ b o,X b o->¬S1 b o)/\fp w' NO k rcs.length v'/\cN w' S1 X rcs (bT w' k v')):=by
  intro hr;obtain⟨shs,cs,vs',u,hfin,hrun,hT,hln,hL,hcells,hone,hrow⟩:=h.resA hTE hr;obtain⟨rfl,hwk⟩:=hfin.out;refine⟨h.defers,?_⟩;have hrun2:(results fn a'.tmps).run P w'=.ok (if h:vs'.toArray.size=1 then vs'.toArray[0] else .tuple vs'.toArray) w':=by
   have e:results fn a'.tmps=(do let vs <-fn.results.mapM (Bk a'.tmps);pure (if h:vs.size=1 then vs[0] else .tuple vs)):=by
    unfold results
    congr 1
   rw[e,<-Array.toArray_toList (xs:=fn.results),List.mapM_toArray];simp only[Sem.run_bind,Sem.run_map,hrun,Result.andThen_ok,Sem.run_pure]
  refine⟨_,hrun2,_,rfl,h.old,fun b o=>∃ t,φ' t b o,fun b o=>(sh=true/\S' b o)\/(S' b o/\w.heap.size<=b),fun b o ⟨t,hb⟩=>⟨(h.ex t b o hb).1,(h.ex t b o hb).2.resolve_right (fun h=>h)⟩,fun b o hb=>?_,fun b o ⟨t,hb⟩ hb'=>h.disS t b o hb (hb'.elim (·.2) (·.1)),?_⟩
  ·rcases hb with⟨h1,h2⟩|⟨h1,h2⟩
   ·rcases(h.sup b o h2).2 with h3|h3|h3
    ·exact .inl ⟨h1,h3⟩
    ·exact .inr ⟨(h.sup b o h2).1,h3⟩
    ·exact h3.elim
   ·exact .inr ⟨(h.sup b o h1).1,h2⟩
  ·have hk:fp w' NO (iY shs) cs.length (if h:vs'.toArray.size=1 then vs'.toArray[0] else .tuple vs'.toArray)/\cN w' S' (fun b o=>∃ t,φ' t b o) cs (bT w' (iY shs) (if h:vs'.toArray.size=1 then vs'.toArray[0] else .tuple vs'.toArray)):=by
    have hall:∀ b o,(∃ t,t∉([]:List Nat)/\φ' t b o)->∃ t,φ' t b o:=fun b o ⟨t,_,hb⟩=>⟨t,hb⟩
    match shs,hT,hone,hL with
    | [],hT,_,hL=>
     cases vs' with
     | cons _ _=>exact hT.elim
     | nil=>
      have:cs=[]:=List.eq_nil_of_length_eq_zero (by simpa[oL] using hL.symm);subst this;exact⟨⟨_,rfl,trivial,rfl⟩,cN.nil _ _ _ _⟩
    | [ag],_,hone,_=>
     obtain⟨v,rfl,hv⟩:=hone ag rfl;have:=(hv.mono (fun _ _ h=>h) hall).slot (F:=F') (tv:=tvs a');obtain⟨X1,Y,h1,h2,h3,h4,h5⟩:=this;refine⟨?_,h5.mono (fun _ _ h=>h) h2⟩;cases ag<;>exact h4
    | ag::ag2::sh,hT,_,hL=>
     have hsz:¬vs'.toArray.size=1:=by
      match vs',hT with
      | [],hT=>simp
      | [v],hT=>cases ag<;>cases ag2<;>exact hT.2.elim
      | _::_::_,_=>simp
     rw[dif_neg hsz];refine⟨⟨_,rfl,hT,hL⟩,(hrow.mono (fun _ _ h=>h) hall).congr fun j hj=>?_⟩;simp only[bT,iY,lv,hcells];simp[List.getD,hj]
   replace hk:=And.intro hk.1 (hwk.row hk.2);refine⟨by rw[<-hwk.len];exact hk.1,?_⟩;rcases hsh with h1|h1
   ·exact hk.2.mono (fun b o hb=>.inl ⟨h1,hb⟩) (fun _ _ h=>h)
   ·exact(hk.2.fresh h1).mono (fun _ _ h=>h.elim) (fun _ _ h=>h)
 cases e with
 | normal=>exact fin he
 | ret=>exact fin he
 | _=>exact he.elim
theorem G9 {D : Nat -> Array Oper -> ((Nat -> AV) -> Prop) -> (Nat -> AV) -> Prop} {f t : Nat} {fn : Func} {c : Code} {A : List RA} {rcs : List C} (hTE : ∀ t i, TE t = some i -> ca P t i) (hf : P.funcs[f]? = some fn) (hn : (fn.name == "runtime.NumGoroutine") = false)
  (hb:fn.body=some c) {ck:Nat->Array Oper->Bool} (hD:wa P N ck D) (hc:fo ck c=true) (hN:A.length+(fn.ntmps - A.length)=N.n) (hkp:N.kp=[]) (hr:fn.results = #[.tmp t]) (hp:aw P TE N D c (N0 t rcs) (lay (tn 0 A))):pv P f true A .box rcs:=by
 refine⟨⟨fn,hf,hn,by rw[hb];rfl⟩,fun w S vs hS hA=>?_⟩;have hlen:=zL hA;refine calls_of_wp hf hb ?_;have hst:St w NO S N (lay (tn 0 A)) {tmps:=vs.toArray++Array.replicate (fn.ntmps - vs.toArray.size) undef,defers:=[]} w:=by
  refine⟨S,fun _=>NO,fun t=>?_,fun _ _ _ _ _ h=>h.elim,fun _ _ _ h=>h.elim,fun _ _ _ h=>h.elim,fun _ _ h=>h,fun b o h=>⟨hS b o h,.inl h⟩,bH.refl _ _,by simp;omega,rfl,fun p hp=>by rw[hkp]at hp;cases hp⟩;rcases rg 0 hA t with h1|⟨A0,v,-,h2,h3,h4⟩
  ·rw[h1];trivial
  ·rw[h3]
   have hv:tvs {tmps:=vs.toArray++Array.replicate (fn.ntmps - vs.toArray.size) undef,defers:=[]} t=v:=by
    have hlt:=(R1.1 h2).1;simp only[tvs,Array.getD_eq_getD_getElem?];rw[Array.getElem?_append_left (by simpa using hlt)];simp only[List.getElem?_toArray];rw[show vs[t]? = some v by simpa using h2];rfl
   rw[hv];exact h4.slot
 refine ia hTE hD c hc _ _ _ _ w hp hst fun e F' a' w' he hs'=>?_
 obtain⟨S',φ',h⟩:=hs';have fin:LW F' t rcs->a'.defers=[]/\∃ v,(results fn a'.tmps).run P w'=.ok v w'/\(∃ v',Ending.returned v=.returned v'/\bH NO w w'/\∃ X S1:ac,(∀ b o,X b o->b<w'.heap.size/\w.heap.size<=b)/\
     (∀ b o,S1 b o->(true=true/\S b o)\/(b<w'.heap.size/\w.heap.size<=b))/\(∀ b o,X b o->¬S1 b o)/\∃ X1 Y:ac,(∀ b o,X1 b o->X b o)/\(∀ b o,Y b o->X b o)/\(∀ b o,X1 b o->¬Y b o)/\fp w' X1 .box rcs.length v'/\cN w' S1 Y rcs (bT w' .box v')):=by
  intro hq;have core:∃ (t1:Nat) (cs:List C),tvs a' t=tvs a' t1/\F' t1=.hold .box cs/\i6 .box .box cs rcs:=by
   unfold LW at hq;split at hq
   ·rename_i cs hF
    exact⟨t,cs,rfl,hF,hq⟩
   ·rename_i t1 hF2
    split at hq
    case h_2=>exact hq.elim
    rename_i cs hF;refine⟨t1,cs,?_,hF,hq⟩;have hs2:=h.slot t;rw[hF2]at hs2;obtain⟨k0,cs0,r0,j0,g0,o0,e1,-,e3,e4⟩:=hs2;have hs:=h.slot t1;rw[hF]at hs;rw[hF]at e1;simp only[AV.hold.injEq]at e1;obtain⟨rfl,rfl⟩:=e1;obtain⟨X1,Y,h1,h2,h3,⟨g,o,hv,-⟩,h5⟩:=hs;rw[hv]at e3;simp only[plc,nC,Option.map_some,T0,Prod.mk.injEq]at e3;rw[e4,hv,<-e3.1,<-e3.2]
    rfl
   ·exact hq.elim
  obtain⟨t1,cs,htt,hF,hq⟩:=core;have hwk:=hq.out.2;have hs:=h.slot t1;rw[hF]at hs;obtain⟨X1,Y,h1,h2,h3,h4,h5⟩:=hs;refine⟨h.defers,tvs a' t1,?_,tvs a' t1,rfl,h.old,φ' t1,fun b o=>S' b o/\(S b o\/w.heap.size<=b),fun b o hb=>⟨(h.ex t1 b o hb).1,(h.ex t1 b o hb).2.resolve_right (fun h=>h)⟩,fun b o hb=>?_,fun b o hb hb'=>h.disS t1 b o hb hb'.1,X1,Y,h1,h2,h3,?_,?_⟩
  ·rw[<-htt];simp[results,hr,tvs]
  ·rcases hb.2 with h6|h6
   ·exact .inl ⟨rfl,h6⟩
   ·exact .inr ⟨(h.sup b o hb.1).1,h6⟩
  ·rw[<-hwk.len];exact h4
  ·exact(hwk.row h5).mono (fun b o hb=>⟨hb,by
     rcases(h.sup b o hb).2 with h6|h6|h6
     · exact .inl h6
     · exact .inr h6
     · exact h6.elim⟩) (fun _ _ h=>h)
 cases e with
 | normal=>exact fin he
 | ret=>exact fin he
 | _=>exact he.elim
end
def DF (P:Program) (TE:Nat->Option TI) (N:fg) (tb:List (Nat × Nat × List Nat)) (id:Nat) (ops:Array Oper) (K:(Nat->AV)->Prop) (F:Nat->AV):Prop:=
 match uo tb (id+1048576) with
 | some (t,offs)=>pZ t offs (DD P TE N tb id ops K) F
 | none=>DD P TE N tb id ops K F
theorem pF {P:Program} {TE:Nat->Option TI} (hTE:∀ t i,TE t=some i->ca P t i) (hm:P.follows .mixedOrders=true) (N:fg) (tb:List (Nat × Nat × List Nat)):wa P N (mh tb) (DF P TE N tb):=
 fun _ _ hok _ _ _ _ _ _ _ _ hp hs hq=>by
  unfold DF at hp;split at hp
  ·obtain⟨F',hK,hs'⟩:=vS hp hs
   exact vP hTE hm hok hK hs' hq
  ·exact vP hTE hm hok hp hs hq
def Fa:List (Nat × TI)->Nat->Option TI
 | [],_=>none
 | p::l,t=>bif Nat.beq t p.1 then some p.2 else Fa l t
def M1 (P:Program):List (Nat × TI)->Prop
 | []=>True
 | p::l=>ca P p.1 p.2/\M1 P l
theorem Dy {P:Program} : ∀ {l:List (Nat × TI)},M1 P l->∀ t i,Fa l t=some i->ca P t i
 | [],_,t,i,h=>by cases h
 | p::l,hl,t,i,h=>by
  simp only[Fa]at h;cases hb:Nat.beq t p.1 with
  | true=>
   rw[hb]at h;simp only[cond_true,T0]at h;have:=P1 hb;subst this h;exact hl.1
  | false=>rw[hb]at h;exact Dy hl.2 t i h
def ti3:TI:=⟨1,8,[.v (.int .i64 0)],.sc (.int .i64)⟩
theorem tok3:ca Tryz.prog 3 ti3:=⟨by kernel_rfl,by simp[ti3,aI,Value.oneCell'],⟨Tryz.underlying3,trivial⟩⟩
def ti4:TI:=⟨1,1,[.v (.bool false)],.sc .bool⟩
theorem tok4:ca Tryz.prog 4 ti4:=⟨by kernel_rfl,by simp[ti4,aI,Value.oneCell'],⟨Tryz.underlying4,trivial⟩⟩
def ti2:TI:=⟨1,8,[.v (.int .i64 0)],.sc (.int .i64)⟩
theorem tok2:ca Tryz.prog 2 ti2:=⟨by kernel_rfl,by simp[ti2,aI,Value.oneCell'],⟨Tryz.underlying2,trivial⟩⟩
def ti5:TI:=⟨1,1,[.v (.int .u8 0)],.sc (.int .u8)⟩
theorem tok5:ca Tryz.prog 5 ti5:=⟨by kernel_rfl,by simp[ti5,aI,Value.oneCell'],⟨Tryz.underlying5,trivial⟩⟩
def ti6:TI:=⟨1,1,[.v (.int .u8 0)],.sc (.int .u8)⟩
theorem tok6:ca Tryz.prog 6 ti6:=⟨by kernel_rfl,by simp[ti6,aI,Value.oneCell'],⟨Tryz.underlying6,trivial⟩⟩
def ti7:TI:=⟨4,24,[.v (.int .i64 0),.v (.int .i64 0),.v (.bool false),.v (.int .u8 0)],.st [(0,2),(1,3),(2,4),(3,6)]⟩
theorem tok7:ca Tryz.prog 7 ti7:=⟨by kernel_rfl,by simp[ti7,aI,Value.oneCell'],⟨_,Tryz.underlying7,rfl⟩⟩
def ti8:TI:=⟨4,24,[.v (.int .i64 0),.v (.int .i64 0),.v (.bool false),.v (.int .u8 0)],.st [(0,2),(1,3),(2,4),(3,6)]⟩
theorem tok8:ca Tryz.prog 8 ti8:=⟨by kernel_rfl,by simp[ti8,aI,Value.oneCell'],⟨_,Tryz.underlying8,rfl⟩⟩
def ti9:TI:=⟨1,16,[.v (.string ⟨#[]⟩)],.sc .string⟩
theorem tok9:ca Tryz.prog 9 ti9:=⟨by kernel_rfl,by simp[ti9,aI,Value.oneCell'],⟨Tryz.underlying9,trivial⟩⟩
def ti10:TI:=⟨1,16,[.v (.string ⟨#[]⟩)],.sc .string⟩
theorem tok10:ca Tryz.prog 10 ti10:=⟨by kernel_rfl,by simp[ti10,aI,Value.oneCell'],⟨Tryz.underlying10,trivial⟩⟩
def ti11:TI:=⟨1,16,[.v (.string ⟨#[]⟩)],.sc .string⟩
theorem tok11:ca Tryz.prog 11 ti11:=⟨by kernel_rfl,by simp[ti11,aI,Value.oneCell'],⟨Tryz.underlying11,trivial⟩⟩
def ti12:TI:=⟨1,8,[.v (.int .u64 0)],.sc (.int .u64)⟩
theorem tok12:ca Tryz.prog 12 ti12:=⟨by kernel_rfl,by simp[ti12,aI,Value.oneCell'],⟨Tryz.underlying12,trivial⟩⟩
def ti13:TI:=⟨2,24,[.v (.string ⟨#[]⟩),.v (.int .u64 0)],.st [(0,9),(1,12)]⟩
theorem tok13:ca Tryz.prog 13 ti13:=⟨by kernel_rfl,by simp[ti13,aI,Value.oneCell'],⟨_,Tryz.underlying13,rfl⟩⟩
def ti14:TI:=⟨2,24,[.v (.string ⟨#[]⟩),.v (.int .u64 0)],.st [(0,9),(1,12)]⟩
theorem tok14:ca Tryz.prog 14 ti14:=⟨by kernel_rfl,by simp[ti14,aI,Value.oneCell'],⟨_,Tryz.underlying14,rfl⟩⟩
def ti21:TI:=⟨1,4,[.v (.int .i32 0)],.sc (.int .i32)⟩
theorem tok21:ca Tryz.prog 21 ti21:=⟨by kernel_rfl,by simp[ti21,aI,Value.oneCell'],⟨Tryz.underlying21,trivial⟩⟩
def ti22:TI:=⟨1,24,[.z],.sl 5⟩
theorem tok22:ca Tryz.prog 22 ti22:=⟨by kernel_rfl,by simp[ti22,aI,Value.oneCell'],Tryz.underlying22⟩
def ti24:TI:=⟨1,24,[.z],.sl 33⟩
theorem tok24:ca Tryz.prog 24 ti24:=⟨by kernel_rfl,by simp[ti24,aI,Value.oneCell'],Tryz.underlying24⟩
def ti25:TI:=⟨1,24,[.z],.sl 4⟩
theorem tok25:ca Tryz.prog 25 ti25:=⟨by kernel_rfl,by simp[ti25,aI,Value.oneCell'],Tryz.underlying25⟩
def ti26:TI:=⟨2,48,[.z,.z],.st [(0,24),(1,25)]⟩
theorem tok26:ca Tryz.prog 26 ti26:=⟨by kernel_rfl,by simp[ti26,aI,Value.oneCell'],⟨_,Tryz.underlying26,rfl⟩⟩
def ti27:TI:=⟨2,48,[.z,.z],.st [(0,24),(1,25)]⟩
theorem tok27:ca Tryz.prog 27 ti27:=⟨by kernel_rfl,by simp[ti27,aI,Value.oneCell'],⟨_,Tryz.underlying27,rfl⟩⟩
def ti28:TI:=⟨1,24,[.z],.sl 134⟩
theorem tok28:ca Tryz.prog 28 ti28:=⟨by kernel_rfl,by simp[ti28,aI,Value.oneCell'],Tryz.underlying28⟩
def ti29:TI:=⟨1,24,[.z],.st [(0,28)]⟩
theorem tok29:ca Tryz.prog 29 ti29:=⟨by kernel_rfl,by simp[ti29,aI,Value.oneCell'],⟨_,Tryz.underlying29,rfl⟩⟩
def ti30:TI:=⟨1,24,[.z],.st [(0,28)]⟩
theorem tok30:ca Tryz.prog 30 ti30:=⟨by kernel_rfl,by simp[ti30,aI,Value.oneCell'],⟨_,Tryz.underlying30,rfl⟩⟩
def ti31:TI:=⟨3,72,[.z,.z,.z],.st [(0,27),(2,30)]⟩
theorem tok31:ca Tryz.prog 31 ti31:=⟨by kernel_rfl,by simp[ti31,aI,Value.oneCell'],⟨_,Tryz.underlying31,rfl⟩⟩
def ti32:TI:=⟨3,72,[.z,.z,.z],.st [(0,27),(2,30)]⟩
theorem tok32:ca Tryz.prog 32 ti32:=⟨by kernel_rfl,by simp[ti32,aI,Value.oneCell'],⟨_,Tryz.underlying32,rfl⟩⟩
def ti33:TI:=⟨1,24,[.z],.sl 3⟩
theorem tok33:ca Tryz.prog 33 ti33:=⟨by kernel_rfl,by simp[ti33,aI,Value.oneCell'],Tryz.underlying33⟩
def ti34:TI:=⟨5,104,[.z,.z,.z,.v (.int .i64 0),.z],.st [(0,32),(3,3),(4,33)]⟩
theorem tok34:ca Tryz.prog 34 ti34:=⟨by kernel_rfl,by simp[ti34,aI,Value.oneCell'],⟨_,Tryz.underlying34,rfl⟩⟩
def ti35:TI:=⟨5,104,[.z,.z,.z,.v (.int .i64 0),.z],.st [(0,32),(3,3),(4,33)]⟩
theorem tok35:ca Tryz.prog 35 ti35:=⟨by kernel_rfl,by simp[ti35,aI,Value.oneCell'],⟨_,Tryz.underlying35,rfl⟩⟩
def ti36:TI:=⟨1,24,[.z],.sl 131⟩
theorem tok36:ca Tryz.prog 36 ti36:=⟨by kernel_rfl,by simp[ti36,aI,Value.oneCell'],Tryz.underlying36⟩
def ti37:TI:=⟨1,24,[.z],.sl 75⟩
theorem tok37:ca Tryz.prog 37 ti37:=⟨by kernel_rfl,by simp[ti37,aI,Value.oneCell'],Tryz.underlying37⟩
def ti38:TI:=⟨1,24,[.z],.sl 173⟩
theorem tok38:ca Tryz.prog 38 ti38:=⟨by kernel_rfl,by simp[ti38,aI,Value.oneCell'],Tryz.underlying38⟩
def ti39:TI:=⟨1,24,[.z],.sl 71⟩
theorem tok39:ca Tryz.prog 39 ti39:=⟨by kernel_rfl,by simp[ti39,aI,Value.oneCell'],Tryz.underlying39⟩
def ti40:TI:=⟨1,24,[.z],.sl 105⟩
theorem tok40:ca Tryz.prog 40 ti40:=⟨by kernel_rfl,by simp[ti40,aI,Value.oneCell'],Tryz.underlying40⟩
def ti41:TI:=⟨1,24,[.z],.sl 212⟩
theorem tok41:ca Tryz.prog 41 ti41:=⟨by kernel_rfl,by simp[ti41,aI,Value.oneCell'],Tryz.underlying41⟩
def ti42:TI:=⟨2,48,[.z,.z],.st [(0,41),(1,24)]⟩
theorem tok42:ca Tryz.prog 42 ti42:=⟨by kernel_rfl,by simp[ti42,aI,Value.oneCell'],⟨_,Tryz.underlying42,rfl⟩⟩
def ti43:TI:=⟨2,48,[.z,.z],.st [(0,41),(1,24)]⟩
theorem tok43:ca Tryz.prog 43 ti43:=⟨by kernel_rfl,by simp[ti43,aI,Value.oneCell'],⟨_,Tryz.underlying43,rfl⟩⟩
def ti44:TI:=⟨1,24,[.z],.sl 185⟩
theorem tok44:ca Tryz.prog 44 ti44:=⟨by kernel_rfl,by simp[ti44,aI,Value.oneCell'],Tryz.underlying44⟩
def ti45:TI:=⟨2,32,[.v (.int .i64 0),.z],.st [(0,3),(1,44)]⟩
theorem tok45:ca Tryz.prog 45 ti45:=⟨by kernel_rfl,by simp[ti45,aI,Value.oneCell'],⟨_,Tryz.underlying45,rfl⟩⟩
def ti46:TI:=⟨2,32,[.v (.int .i64 0),.z],.st [(0,3),(1,44)]⟩
theorem tok46:ca Tryz.prog 46 ti46:=⟨by kernel_rfl,by simp[ti46,aI,Value.oneCell'],⟨_,Tryz.underlying46,rfl⟩⟩
def ti47:TI:=⟨3,40,[.v (.int .i64 0),.v (.int .i64 0),.z],.st [(0,3),(1,3),(2,33)]⟩
theorem tok47:ca Tryz.prog 47 ti47:=⟨by kernel_rfl,by simp[ti47,aI,Value.oneCell'],⟨_,Tryz.underlying47,rfl⟩⟩
def ti48:TI:=⟨3,40,[.v (.int .i64 0),.v (.int .i64 0),.z],.st [(0,3),(1,3),(2,33)]⟩
theorem tok48:ca Tryz.prog 48 ti48:=⟨by kernel_rfl,by simp[ti48,aI,Value.oneCell'],⟨_,Tryz.underlying48,rfl⟩⟩
def ti49:TI:=⟨5,56,[.v (.int .i64 0),.v (.int .i64 0),.z,.v (.int .i64 0),.v (.int .i64 0)],.st [(0,48),(3,3),(4,3)]⟩
theorem tok49:ca Tryz.prog 49 ti49:=⟨by kernel_rfl,by simp[ti49,aI,Value.oneCell'],⟨_,Tryz.underlying49,rfl⟩⟩
def ti50:TI:=⟨5,56,[.v (.int .i64 0),.v (.int .i64 0),.z,.v (.int .i64 0),.v (.int .i64 0)],.st [(0,48),(3,3),(4,3)]⟩
theorem tok50:ca Tryz.prog 50 ti50:=⟨by kernel_rfl,by simp[ti50,aI,Value.oneCell'],⟨_,Tryz.underlying50,rfl⟩⟩
def ti51:TI:=⟨24,400,[.z,.z,.z,.v (.int .i64 0),.z,.z,.z,.z,.z,.z,.z,.z,.v (.int .i64 0),.z,.v (.int .i64 0),.v (.int .i64 0),.v (.int .i64 0),.v (.int .i64 0),.v (.bool false),.v (.int .i64 0),.v (.int .i64 0),.z,.v (.int .i64 0),.v (.int .i64 0)],.st [(0,35),(5,36),(6,37),(7,38),(8,39),(9,40),(10,43),(12,46),(14,3),(15,3),(16,3),(17,3),(18,4),(19,50)]⟩
theorem tok51:ca Tryz.prog 51 ti51:=⟨by kernel_rfl,by simp[ti51,aI,Value.oneCell'],⟨_,Tryz.underlying51,rfl⟩⟩
def ti52:TI:=⟨24,400,[.z,.z,.z,.v (.int .i64 0),.z,.z,.z,.z,.z,.z,.z,.z,.v (.int .i64 0),.z,.v (.int .i64 0),.v (.int .i64 0),.v (.int .i64 0),.v (.int .i64 0),.v (.bool false),.v (.int .i64 0),.v (.int .i64 0),.z,.v (.int .i64 0),.v (.int .i64 0)],.st [(0,35),(5,36),(6,37),(7,38),(8,39),(9,40),(10,43),(12,46),(14,3),(15,3),(16,3),(17,3),(18,4),(19,50)]⟩
theorem tok52:ca Tryz.prog 52 ti52:=⟨by kernel_rfl,by simp[ti52,aI,Value.oneCell'],⟨_,Tryz.underlying52,rfl⟩⟩
def ti53:TI:=⟨1,24,[.z],.sl 330⟩
theorem tok53:ca Tryz.prog 53 ti53:=⟨by kernel_rfl,by simp[ti53,aI,Value.oneCell'],Tryz.underlying53⟩
def ti54:TI:=⟨2,32,[.v (.int .i64 0),.z],.st [(0,3),(1,53)]⟩
theorem tok54:ca Tryz.prog 54 ti54:=⟨by kernel_rfl,by simp[ti54,aI,Value.oneCell'],⟨_,Tryz.underlying54,rfl⟩⟩
def ti55:TI:=⟨2,32,[.v (.int .i64 0),.z],.st [(0,3),(1,53)]⟩
theorem tok55:ca Tryz.prog 55 ti55:=⟨by kernel_rfl,by simp[ti55,aI,Value.oneCell'],⟨_,Tryz.underlying55,rfl⟩⟩
def ti56:TI:=⟨26,432,[.z,.z,.z,.v (.int .i64 0),.z,.z,.z,.z,.z,.z,.z,.z,.v (.int .i64 0),.z,.v (.int .i64 0),.v (.int .i64 0),.v (.int .i64 0),.v (.int .i64 0),.v (.bool false),.v (.int .i64 0),.v (.int .i64 0),.z,.v (.int .i64 0),.v (.int .i64 0),.v (.int .i64 0),.z],.st [(0,52),(24,55)]⟩
theorem tok56:ca Tryz.prog 56 ti56:=⟨by kernel_rfl,by simp[ti56,aI,Value.oneCell'],⟨_,Tryz.underlying56,rfl⟩⟩
def ti57:TI:=⟨26,432,[.z,.z,.z,.v (.int .i64 0),.z,.z,.z,.z,.z,.z,.z,.z,.v (.int .i64 0),.z,.v (.int .i64 0),.v (.int .i64 0),.v (.int .i64 0),.v (.int .i64 0),.v (.bool false),.v (.int .i64 0),.v (.int .i64 0),.z,.v (.int .i64 0),.v (.int .i64 0),.v (.int .i64 0),.z],.st [(0,52),(24,55)]⟩
theorem tok57:ca Tryz.prog 57 ti57:=⟨by kernel_rfl,by simp[ti57,aI,Value.oneCell'],⟨_,Tryz.underlying57,rfl⟩⟩
def ti65:TI:=⟨8,64,[.v (.int .i64 0),.v (.int .i64 0),.v (.int .i64 0),.v (.int .i64 0),.v (.int .i64 0),.v (.int .i64 0),.v (.int .i64 0),.v (.int .i64 0)],.st [(0,3),(1,3),(2,3),(3,3),(4,3),(5,3),(6,3),(7,3)]⟩
theorem tok65:ca Tryz.prog 65 ti65:=⟨by kernel_rfl,by simp[ti65,aI,Value.oneCell'],⟨_,Tryz.underlying65,rfl⟩⟩
def ti66:TI:=⟨8,64,[.v (.int .i64 0),.v (.int .i64 0),.v (.int .i64 0),.v (.int .i64 0),.v (.int .i64 0),.v (.int .i64 0),.v (.int .i64 0),.v (.int .i64 0)],.st [(0,3),(1,3),(2,3),(3,3),(4,3),(5,3),(6,3),(7,3)]⟩
theorem tok66:ca Tryz.prog 66 ti66:=⟨by kernel_rfl,by simp[ti66,aI,Value.oneCell'],⟨_,Tryz.underlying66,rfl⟩⟩
def ti70:TI:=⟨4,32,[.v (.int .i64 0),.v (.int .i64 0),.v (.int .i64 0),.v (.int .i64 0)],.st [(0,3),(1,3),(2,3),(3,3)]⟩
theorem tok70:ca Tryz.prog 70 ti70:=⟨by kernel_rfl,by simp[ti70,aI,Value.oneCell'],⟨_,Tryz.underlying70,rfl⟩⟩
def ti71:TI:=⟨4,32,[.v (.int .i64 0),.v (.int .i64 0),.v (.int .i64 0),.v (.int .i64 0)],.st [(0,3),(1,3),(2,3),(3,3)]⟩
theorem tok71:ca Tryz.prog 71 ti71:=⟨by kernel_rfl,by simp[ti71,aI,Value.oneCell'],⟨_,Tryz.underlying71,rfl⟩⟩
def ti74:TI:=⟨3,24,[.v (.int .i64 0),.v (.int .i64 0),.v (.int .i64 0)],.st [(0,3),(1,3),(2,3)]⟩
theorem tok74:ca Tryz.prog 74 ti74:=⟨by kernel_rfl,by simp[ti74,aI,Value.oneCell'],⟨_,Tryz.underlying74,rfl⟩⟩
def ti75:TI:=⟨3,24,[.v (.int .i64 0),.v (.int .i64 0),.v (.int .i64 0)],.st [(0,3),(1,3),(2,3)]⟩
theorem tok75:ca Tryz.prog 75 ti75:=⟨by kernel_rfl,by simp[ti75,aI,Value.oneCell'],⟨_,Tryz.underlying75,rfl⟩⟩
def ti104:TI:=⟨1,24,[.z],.st [(0,24)]⟩
theorem tok104:ca Tryz.prog 104 ti104:=⟨by kernel_rfl,by simp[ti104,aI,Value.oneCell'],⟨_,Tryz.underlying104,rfl⟩⟩
def ti105:TI:=⟨1,24,[.z],.st [(0,24)]⟩
theorem tok105:ca Tryz.prog 105 ti105:=⟨by kernel_rfl,by simp[ti105,aI,Value.oneCell'],⟨_,Tryz.underlying105,rfl⟩⟩
def ti120:TI:=⟨4,32,[.v (.int .i64 0),.v (.int .i64 0),.v (.int .i64 0),.v (.int .i64 0)],.st [(0,3),(1,3),(2,3),(3,3)]⟩
theorem tok120:ca Tryz.prog 120 ti120:=⟨by kernel_rfl,by simp[ti120,aI,Value.oneCell'],⟨_,Tryz.underlying120,rfl⟩⟩
def ti121:TI:=⟨4,32,[.v (.int .i64 0),.v (.int .i64 0),.v (.int .i64 0),.v (.int .i64 0)],.st [(0,3),(1,3),(2,3),(3,3)]⟩
theorem tok121:ca Tryz.prog 121 ti121:=⟨by kernel_rfl,by simp[ti121,aI,Value.oneCell'],⟨_,Tryz.underlying121,rfl⟩⟩
def ti130:TI:=⟨2,16,[.v (.int .i64 0),.v (.int .i64 0)],.st [(0,3),(1,3)]⟩
theorem tok130:ca Tryz.prog 130 ti130:=⟨by kernel_rfl,by simp[ti130,aI,Value.oneCell'],⟨_,Tryz.underlying130,rfl⟩⟩
def ti131:TI:=⟨2,16,[.v (.int .i64 0),.v (.int .i64 0)],.st [(0,3),(1,3)]⟩
theorem tok131:ca Tryz.prog 131 ti131:=⟨by kernel_rfl,by simp[ti131,aI,Value.oneCell'],⟨_,Tryz.underlying131,rfl⟩⟩
def ti133:TI:=⟨2,16,[.v (.int .i64 0),.v (.int .i64 0)],.st [(0,3),(1,3)]⟩
theorem tok133:ca Tryz.prog 133 ti133:=⟨by kernel_rfl,by simp[ti133,aI,Value.oneCell'],⟨_,Tryz.underlying133,rfl⟩⟩
def ti134:TI:=⟨2,16,[.v (.int .i64 0),.v (.int .i64 0)],.st [(0,3),(1,3)]⟩
theorem tok134:ca Tryz.prog 134 ti134:=⟨by kernel_rfl,by simp[ti134,aI,Value.oneCell'],⟨_,Tryz.underlying134,rfl⟩⟩
def ti144:TI:=⟨1,24,[.z],.sl 150⟩
theorem tok144:ca Tryz.prog 144 ti144:=⟨by kernel_rfl,by simp[ti144,aI,Value.oneCell'],Tryz.underlying144⟩
def ti149:TI:=⟨2,16,[.v (.int .i64 0),.v (.int .i64 0)],.st [(0,3),(1,3)]⟩
theorem tok149:ca Tryz.prog 149 ti149:=⟨by kernel_rfl,by simp[ti149,aI,Value.oneCell'],⟨_,Tryz.underlying149,rfl⟩⟩
def ti150:TI:=⟨2,16,[.v (.int .i64 0),.v (.int .i64 0)],.st [(0,3),(1,3)]⟩
theorem tok150:ca Tryz.prog 150 ti150:=⟨by kernel_rfl,by simp[ti150,aI,Value.oneCell'],⟨_,Tryz.underlying150,rfl⟩⟩
def ti172:TI:=⟨3,24,[.v (.int .i64 0),.v (.int .i64 0),.v (.int .i64 0)],.st [(0,3),(1,3),(2,3)]⟩
theorem tok172:ca Tryz.prog 172 ti172:=⟨by kernel_rfl,by simp[ti172,aI,Value.oneCell'],⟨_,Tryz.underlying172,rfl⟩⟩
def ti173:TI:=⟨3,24,[.v (.int .i64 0),.v (.int .i64 0),.v (.int .i64 0)],.st [(0,3),(1,3),(2,3)]⟩
theorem tok173:ca Tryz.prog 173 ti173:=⟨by kernel_rfl,by simp[ti173,aI,Value.oneCell'],⟨_,Tryz.underlying173,rfl⟩⟩
def ti180:TI:=⟨2,16,[.v (.int .i64 0),.v (.int .i64 0)],.st [(0,3),(1,3)]⟩
theorem tok180:ca Tryz.prog 180 ti180:=⟨by kernel_rfl,by simp[ti180,aI,Value.oneCell'],⟨_,Tryz.underlying180,rfl⟩⟩
def ti181:TI:=⟨2,16,[.v (.int .i64 0),.v (.int .i64 0)],.st [(0,3),(1,3)]⟩
theorem tok181:ca Tryz.prog 181 ti181:=⟨by kernel_rfl,by simp[ti181,aI,Value.oneCell'],⟨_,Tryz.underlying181,rfl⟩⟩
def ti184:TI:=⟨3,24,[.v (.int .i64 0),.v (.int .i64 0),.v (.int .i64 0)],.st [(0,3),(1,3),(2,3)]⟩
theorem tok184:ca Tryz.prog 184 ti184:=⟨by kernel_rfl,by simp[ti184,aI,Value.oneCell'],⟨_,Tryz.underlying184,rfl⟩⟩
def ti185:TI:=⟨3,24,[.v (.int .i64 0),.v (.int .i64 0),.v (.int .i64 0)],.st [(0,3),(1,3),(2,3)]⟩
theorem tok185:ca Tryz.prog 185 ti185:=⟨by kernel_rfl,by simp[ti185,aI,Value.oneCell'],⟨_,Tryz.underlying185,rfl⟩⟩
def ti196:TI:=⟨5,56,[.v (.int .i64 0),.v (.int .i64 0),.v (.int .i64 0),.v (.int .i64 0),.z],.st [(0,3),(1,3),(2,3),(3,3),(4,33)]⟩
theorem tok196:ca Tryz.prog 196 ti196:=⟨by kernel_rfl,by simp[ti196,aI,Value.oneCell'],⟨_,Tryz.underlying196,rfl⟩⟩
def ti197:TI:=⟨5,56,[.v (.int .i64 0),.v (.int .i64 0),.v (.int .i64 0),.v (.int .i64 0),.z],.st [(0,3),(1,3),(2,3),(3,3),(4,33)]⟩
theorem tok197:ca Tryz.prog 197 ti197:=⟨by kernel_rfl,by simp[ti197,aI,Value.oneCell'],⟨_,Tryz.underlying197,rfl⟩⟩
def ti199:TI:=⟨1,24,[.z],.sl 264⟩
theorem tok199:ca Tryz.prog 199 ti199:=⟨by kernel_rfl,by simp[ti199,aI,Value.oneCell'],Tryz.underlying199⟩
def ti201:TI:=⟨3,40,[.z,.v (.int .i64 0),.v (.int .i64 0)],.st [(0,22),(1,3),(2,3)]⟩
theorem tok201:ca Tryz.prog 201 ti201:=⟨by kernel_rfl,by simp[ti201,aI,Value.oneCell'],⟨_,Tryz.underlying201,rfl⟩⟩
def ti202:TI:=⟨3,40,[.z,.v (.int .i64 0),.v (.int .i64 0)],.st [(0,22),(1,3),(2,3)]⟩
theorem tok202:ca Tryz.prog 202 ti202:=⟨by kernel_rfl,by simp[ti202,aI,Value.oneCell'],⟨_,Tryz.underlying202,rfl⟩⟩
def ti209:TI:=⟨1,8,[.v (.map none)],.mp 3 4 (.bool false)⟩
theorem tok209:ca Tryz.prog 209 ti209:=⟨by kernel_rfl,by simp[ti209,aI,Value.oneCell'],⟨Tryz.underlying209,Tryz.underlying3,by kernel_rfl,rfl⟩⟩
def ti212:TI:=⟨1,24,[.z],.sl 181⟩
theorem tok212:ca Tryz.prog 212 ti212:=⟨by kernel_rfl,by simp[ti212,aI,Value.oneCell'],Tryz.underlying212⟩
def ti215:TI:=⟨1,8,[.v (.map none)],.mp 3 3 (.int .i64 0)⟩
theorem tok215:ca Tryz.prog 215 ti215:=⟨by kernel_rfl,by simp[ti215,aI,Value.oneCell'],⟨Tryz.underlying215,Tryz.underlying3,by kernel_rfl,rfl⟩⟩
def ti263:TI:=⟨5,40,[.v (.int .i64 0),.v (.int .i64 0),.v (.int .i64 0),.v (.int .i64 0),.v (.int .i64 0)],.st [(0,3),(1,3),(2,3),(3,3),(4,3)]⟩
theorem tok263:ca Tryz.prog 263 ti263:=⟨by kernel_rfl,by simp[ti263,aI,Value.oneCell'],⟨_,Tryz.underlying263,rfl⟩⟩
def ti264:TI:=⟨5,40,[.v (.int .i64 0),.v (.int .i64 0),.v (.int .i64 0),.v (.int .i64 0),.v (.int .i64 0)],.st [(0,3),(1,3),(2,3),(3,3),(4,3)]⟩
theorem tok264:ca Tryz.prog 264 ti264:=⟨by kernel_rfl,by simp[ti264,aI,Value.oneCell'],⟨_,Tryz.underlying264,rfl⟩⟩
def ti272:TI:=⟨1,8,[.v (.int .u64 0)],.sc (.int .u64)⟩
theorem tok272:ca Tryz.prog 272 ti272:=⟨by kernel_rfl,by simp[ti272,aI,Value.oneCell'],⟨Tryz.underlying272,trivial⟩⟩
def ti308:TI:=⟨1,8,[.v (.int .i64 0)],.sc (.int .i64)⟩
theorem tok308:ca Tryz.prog 308 ti308:=⟨by kernel_rfl,by simp[ti308,aI,Value.oneCell'],⟨Tryz.underlying308,trivial⟩⟩
def ti315:TI:=⟨1,4,[.v (.int .u32 0)],.sc (.int .u32)⟩
theorem tok315:ca Tryz.prog 315 ti315:=⟨by kernel_rfl,by simp[ti315,aI,Value.oneCell'],⟨Tryz.underlying315,trivial⟩⟩
def ti317:TI:=⟨1,8,[.v (.int .u64 0)],.sc (.int .u64)⟩
theorem tok317:ca Tryz.prog 317 ti317:=⟨by kernel_rfl,by simp[ti317,aI,Value.oneCell'],⟨Tryz.underlying317,trivial⟩⟩
def ti329:TI:=⟨2,32,[.v (.int .i64 0),.z],.st [(0,3),(1,33)]⟩
theorem tok329:ca Tryz.prog 329 ti329:=⟨by kernel_rfl,by simp[ti329,aI,Value.oneCell'],⟨_,Tryz.underlying329,rfl⟩⟩
def ti330:TI:=⟨2,32,[.v (.int .i64 0),.z],.st [(0,3),(1,33)]⟩
theorem tok330:ca Tryz.prog 330 ti330:=⟨by kernel_rfl,by simp[ti330,aI,Value.oneCell'],⟨_,Tryz.underlying330,rfl⟩⟩
def ti337:TI:=⟨1,8,[.v (.int .u64 0)],.sc (.int .u64)⟩
theorem tok337:ca Tryz.prog 337 ti337:=⟨by kernel_rfl,by simp[ti337,aI,Value.oneCell'],⟨Tryz.underlying337,trivial⟩⟩
def ti363:TI:=⟨0,0,[],.st [(0,362)]⟩
theorem tok363:ca Tryz.prog 363 ti363:=⟨by kernel_rfl,by simp[ti363,aI,Value.oneCell'],⟨_,Tryz.underlying363,rfl⟩⟩
def ti364:TI:=⟨0,0,[],.st [(0,362)]⟩
theorem tok364:ca Tryz.prog 364 ti364:=⟨by kernel_rfl,by simp[ti364,aI,Value.oneCell'],⟨_,Tryz.underlying364,rfl⟩⟩
def ti366:TI:=⟨1,1,[.v (.int .u8 0)],.sc (.int .u8)⟩
theorem tok366:ca Tryz.prog 366 ti366:=⟨by kernel_rfl,by simp[ti366,aI,Value.oneCell'],⟨Tryz.underlying366,trivial⟩⟩
def ti367:TI:=⟨1,1,[.v (.int .u8 0)],.sc (.int .u8)⟩
theorem tok367:ca Tryz.prog 367 ti367:=⟨by kernel_rfl,by simp[ti367,aI,Value.oneCell'],⟨Tryz.underlying367,trivial⟩⟩
def ti370:TI:=⟨1,4,[.v (.int .i32 0)],.sc (.int .i32)⟩
theorem tok370:ca Tryz.prog 370 ti370:=⟨by kernel_rfl,by simp[ti370,aI,Value.oneCell'],⟨Tryz.underlying370,trivial⟩⟩
def ti371:TI:=⟨1,4,[.v (.int .i32 0)],.sc (.int .i32)⟩
theorem tok371:ca Tryz.prog 371 ti371:=⟨by kernel_rfl,by simp[ti371,aI,Value.oneCell'],⟨Tryz.underlying371,trivial⟩⟩
def tab:List (Nat × TI):=[(3,ti3),(4,ti4),(2,ti2),(5,ti5),(6,ti6),(7,ti7),(8,ti8),(9,ti9),(10,ti10),(11,ti11),(12,ti12),(13,ti13),(14,ti14),(21,ti21),(22,ti22),(24,ti24),(25,ti25),(26,ti26),(27,ti27),(28,ti28),(29,ti29),(30,ti30),(31,ti31),(32,ti32),(33,ti33),(34,ti34),(35,ti35),(36,ti36),(37,ti37),(38,ti38),(39,ti39),(40,ti40),(41,ti41),(42,ti42),(43,ti43),(44,ti44),(45,ti45),(46,ti46),(47,ti47),(48,ti48),(49,ti49),(50,ti50),(51,ti51),(52,ti52),(53,ti53),(54,ti54),(55,ti55),(56,ti56),(57,ti57),(65,ti65),(66,ti66),(70,ti70),(71,ti71),(74,ti74),(75,ti75),(104,ti104),(105,ti105),(120,ti120),(121,ti121),(130,ti130),(131,ti131),(133,ti133),(134,ti134),(144,ti144),(149,ti149),(150,ti150),(172,ti172),(173,ti173),(180,ti180),(181,ti181),(184,ti184),(185,ti185),(196,ti196),(197,ti197),(199,ti199),(201,ti201),(202,ti202),(209,ti209),(212,ti212),(215,ti215),(263,ti263),(264,ti264),(272,ti272),(308,ti308),(315,ti315),(317,ti317),(329,ti329),(330,ti330),(337,ti337),(363,ti363),(364,ti364),(366,ti366),(367,ti367),(370,ti370),(371,ti371)]
theorem MV:M1 Tryz.prog tab:=⟨tok3,tok4,tok2,tok5,tok6,tok7,tok8,tok9,tok10,tok11,tok12,tok13,tok14,tok21,tok22,tok24,tok25,tok26,tok27,tok28,tok29,tok30,tok31,tok32,tok33,tok34,tok35,tok36,tok37,tok38,tok39,tok40,tok41,tok42,tok43,tok44,tok45,tok46,tok47,tok48,tok49,tok50,tok51,tok52,tok53,tok54,tok55,tok56,tok57,tok65,tok66,tok70,tok71,tok74,tok75,tok104,tok105,tok120,tok121,tok130,tok131,tok133,tok134,tok144,tok149,tok150,tok172,tok173,tok180,tok181,tok184,tok185,tok196,tok197,tok199,tok201,tok202,tok209,tok212,tok215,tok263,tok264,tok272,tok308,tok315,tok317,tok329,tok330,tok337,tok363,tok364,tok366,tok367,tok370,tok371,trivial⟩
def TE:Nat->Option TI:=Fa tab
theorem yl:∀ t i,TE t=some i->ca Tryz.prog t i:=Dy MV
def MR:C->Value->C
 | .s .own rows,v=>.s (.tag v) rows
 | c,_=>c
def x7 (u:Nat->Value):Nat->List C->List C
 | _,[]=>[]
 | j,c::cs=>MR c (u j)::x7 u (j+1) cs
def vc (u:Nat->Nat->Value):Nat->List MA->List (Nat × AV)
 | _,[]=>[]
 | i,.val ag cs::A=>(i,.hold (jV ag) cs)::vc u (i+1) A
 | i,.mut ag cs::A=>(i,.hold (jV ag) (x7 (u i) 0 cs))::vc u (i+1) A
 | i,.ptr cs::A=>(i,.hold .box cs)::vc u (i+1) A
def Ft (p:Nat->Value):Nat->List MA->List (Nat × Value)
 | _,[]=>[]
 | i,.ptr _::A=>(i,p i)::Ft p (i+1) A
 | i,_::A=>Ft p (i+1) A
def A5:Nat->List MA->List (Nat × Nat)->List (Option Nat)
 | i,.val _ _::A,_::pl=>none::A5 (i+1) A pl
 | i,.mut _ _::A,p::pl=>some p.1::A5 (i+1) A pl
 | i,.ptr _::A,_::pl=>some i::A5 (i+1) A pl
 | _,_,_=>[]
def Ex:List (Option Nat)->Bool
 | []=>true
 | none::l=>Ex l
 | some t::l=>l.all (fun x=>match x with|some t'=>!Nat.beq t t'|none=>true)&&Ex l
def sles:List (Option Nat)->List Nat
 | []=>[]
 | none::l=>sles l
 | some t::l=>t::sles l
def NK (v:Value) (c y o:C):Prop:=
 match c with
 | .s .own _=>(match y with|.s (.tag v') rows=>v'=v/\o=.s .own rows|_=>False)
 | .s (.tag _) _=>False
 | .m _=>False
 | .it _ _=>False
 | c=>o=c
def Mf (u:Nat->Value):Nat->List C->List C->List C->Prop
 | _,[],_,o=>o=[]
 | j,c::cs,y::xs,o::os=>NK (u j) c y o/\Mf u (j+1) cs xs os
 | _,_,_,_=>False
def gQ (u:Nat->Nat->Value) (F:Nat->AV):Nat->List MA->List (Nat × Nat)->List MA->Prop
 | _,[],_,[]=>True
 | i,.val _ _::A,_::pl,.val _ _::B=>gQ u F (i+1) A pl B
 | i,.mut ag cs::A,p::pl,.mut ag' out::B=>(ag'=ag/\match F p.1 with|.hold _ xs=>Mf (u i) 0 cs (xs.drop p.2) out|_=>False)/\gQ u F (i+1) A pl B
 | i,.ptr _::A,_::pl,.ptr out::B=>(match F i with|.hold .box xs=>xs=out|_=>False)/\gQ u F (i+1) A pl B
 | _,_,_,_=>False
inductive aR (k k':Kd) (cs cs':List C) (Q:Prop):Prop
 |mk_ (h:k=k'/\cs=cs'/\Q)
theorem aR.mk {k k':Kd} {cs cs':List C} {Q:Prop} (h1:k=k') (h2:cs=cs') (h3:Q):aR k k' cs cs' Q:=by refine .mk_ ?_;exact⟨h1,h2,h3⟩
theorem aR.out {k k':Kd} {cs cs':List C} {Q:Prop} (h:aR k k' cs cs' Q):k=k'/\cs=cs'/\Q:=by obtain⟨h⟩:=h;exact h
def MI (TE:Nat->Option TI) (rs:List ResultVar) (k:Kd) (rcs:List C) (u:Nat->Nat->Value) (A B:List MA) (pl:List (Nat × Nat)):Exit->(Nat->AV)->Prop:=fun e F=>
 match e with
 | .normal=>resA TE F rs (sles (A5 0 A pl)) fun sh cs=>aR (iY sh) k cs rcs (gQ u F 0 A pl B)
 | .ret=>resA TE F rs (sles (A5 0 A pl)) fun sh cs=>aR (iY sh) k cs rcs (gQ u F 0 A pl B)
 | _=>False
section
variable {P:Program} {w0 w w1:World} {M S0 S:ac} {N:fg} {φ:Nat->ac} {F:Nat->AV} {a:Act} {TE:Nat->Option TI}
theorem dX.tag {Y:ac} {c:C} {v:Value} (h:dX w S Y c v):dX w S Y (MR c v) v:=by
 cases h with
 | nil _ o a ho=>cases o with
  | own=>exact .nil _ _ _ rfl
  | _=>exact .nil _ _ _ ho
 | own _ o g k n cap rows u f ho hn hk hcap hpos hF hu hf hd hc=>cases o with
  | own=>exact .own _ _ g k n cap rows u f rfl hn hk hcap hpos hF hu hf hd hc
  | imm=>exact ho.elim
  | tag z=>exact .own _ _ g k n cap rows u f ho hn hk hcap hpos hF hu hf hd hc
 | v _ x h1=>exact .v _ _ h1
 | x _ u h1=>exact .x _ _ h1
 | z _ a=>exact .z _ _
 | imm _ g off k n cap rows u hn hk hcap hS hc=>exact .imm _ g off k n cap rows u hn hk hcap hS hc
 | m _ b clock es ents hF hb he hv hst=>exact .m _ b clock es ents hF hb he hv hst
 | it _ r b since c0 clock seen ents cur left hF hr hb hst hc hv hl hcur=>exact .it _ r b since c0 clock seen ents cur left hF hr hb hst hc hv hl hcur
theorem dX.untag {Y:ac} {z v:Value} {rows:List (List C)} (h:dX w S Y (.s (.tag z) rows) v):v=z/\dX w S Y (.s .own rows) v:=by
 cases h with
 | nil _ o a ho=>exact⟨Eq.symm ho,.nil _ _ _ trivial⟩
 | own _ o g k n cap rows u f ho hn hk hcap hpos hF hu hf hd hc=>exact⟨Eq.symm ho,.own _ _ g k n cap rows u f trivial hn hk hcap hpos hF hu hf hd hc⟩
theorem mZ (u:Nat->Value):∀ (j:Nat) (cs:List C),(x7 u j cs).length=cs.length
 | _,[]=>rfl
 | j,c::cs=>by simp[x7,mZ u (j+1) cs]
theorem Bd (u:Nat->Value):∀ (j0:Nat) (cs:List C) (j:Nat),(x7 u j0 cs)[j]? = (cs[j]?).map fun c=>MR c (u (j0+j))
 | _,[],j=>by simp[x7]
 | j0,c::cs,0=>by simp[x7]
 | j0,c::cs,j+1=>by simp only[x7,List.getElem?_cons_succ];rw[Bd u (j0+1) cs j,show j0+1+j=j0+(j+1) by omega]
theorem cN.tag {Y:ac} {cs:List C} {u:Nat->Value} (h:cN w S Y cs u):cN w S Y (x7 u 0 cs) u:=by
 obtain⟨f,h1,h2,h3⟩:=h;refine⟨f,fun j c hj=>?_,fun j hj=>h2 j (by rwa [mZ]at hj),fun j j' hj hj'=>h3 j j' (by rwa [mZ]at hj) (by rwa [mZ]at hj')⟩;rw[Bd,Nat.zero_add]at hj;cases hc:cs[j]? with
 | none=>rw[hc]at hj;cases hj
 | some c0=>
  rw[hc]at hj;simp only[Option.map_some,T0]at hj;subst hj;exact(h1 j c0 hc).tag
def celF (v:Value) (j:Nat):Value:=v.cells.toList.getD j undef
theorem bP.celF {Y:ac} {ag:Option Nat} {cs:List C} {v:Value} (h:bP w S Y ag cs v):cs.length=ag.getD 1/\v=mkv ag (celF v)/\cN w S Y cs (celF v):=by
 obtain⟨h1,u,h2,h3⟩:=h;have hc:=oo (ag:=ag) (u:=u) (fun e=>by subst e;exact h3.one (by simp at h1;omega));have hu:∀ j,j<ag.getD 1->Ab.celF v j=u j:=fun j hj=>by
  unfold Ab.celF;rw[h2,hc];simp[List.getD,hj]
 exact⟨h1,h2.trans (gL fun j hj=>(hu j hj).symm),h3.congr fun j hj=>hu j (by omega)⟩
def Me (u:Nat->Nat->Value) (i:Nat):MA->AV
 | .val ag cs=>.hold (jV ag) cs
 | .mut ag cs=>.hold (jV ag) (x7 (u i) 0 cs)
 | .ptr cs=>.hold .box cs
theorem y4 {u:Nat->Nat->Value} : ∀ {A:List MA} {vs:List Value} {V:Nat->ac} (i:Nat),KF w S V A vs->∀ t,(lay (vc u i A) t=.dead)\/(∃ m v,i<=t/\vs[t - i]? = some v/\A[t - i]? = some m/\lay (vc u i A) t=Me u t m/\oF w S (V (t - i)) m v)
 | [],_,_,i,_,t=>.inl rfl
 | m::A,[],_,i,h,t=>h.elim
 | m::A,v::vs,V,i,h,t=>by
  have hl:lay (vc u i (m::A)) t=bif Nat.beq t i then Me u i m else lay (vc u (i+1) A) t:=by cases m<;>rfl
  rw[hl];cases hb:Nat.beq t i with
  | true=>
   have:=P1 hb;subst this;exact .inr ⟨m,v,I2 _,by simp,by simp,rfl,by rw[Nat.sub_self];exact h.1⟩
  | false=>
   have hne:t≠i:=fun e=>by subst e;rw[Nat.beq_refl]at hb;cases hb
   rcases y4 (i+1) h.2 t with h1|⟨m',v',h1,h2,h3,h4,h5⟩
   ·exact .inl h1
   ·refine .inr ⟨m',v',by omega,?_,?_,h4,?_⟩
    ·rw[show t - i=(t - (i+1))+1 by omega];simpa using h2
    ·rw[show t - i=(t - (i+1))+1 by omega];simpa using h3
    ·rw[show t - i=(t - (i+1))+1 by omega];exact h5
theorem Fb:∀ {A:List MA} {vs:List Value} {V:Nat->ac},KF w S V A vs->A.length=vs.length
 | [],[],_,_=>rfl
 | _::_,_::_,_,h=>by simp[Fb h.2]
 | [],_::_,_,h=>h.elim
 | _::_,[],_,h=>h.elim
theorem FT {p:Nat->Value} : ∀ {A:List MA} {i:Nat} {q:Nat × Value},q∈Ft p i A->i<=q.1/\q.1<i+A.length/\q.2=p q.1
 | [],_,_,h=>by simp[Ft]at h
 | m::A,i,q,h=>by
  have hr:q∈Ft p (i+1) A->i<=q.1/\q.1<i+(m::A).length/\q.2=p q.1:=fun h=>by
   obtain⟨h1,h2,h3⟩:=FT h;exact⟨by omega,by simp;omega,h3⟩
  cases m with
  | ptr cs=>
   rcases List.mem_cons.1 h with rfl|h
   ·exact⟨I2 _,by simp,rfl⟩
   ·exact hr h
  | val=>exact hr h
  | «mut»=>exact hr h
theorem ET {p:Nat->Value} : ∀ {A:List MA} {i n:Nat} {cs:List C},A[n]? = some (.ptr cs)->(i+n,p (i+n))∈Ft p i A
 | [],_,n,_,h=>by simp at h
 | m::A,i,0,cs,h=>by simp at h;subst h;simp[Ft]
 | m::A,i,n+1,cs,h=>by
  have h1:=ET (p:=p) (i:=i+1) (show A[n]? = some (.ptr cs) by simpa using h);rw[show i+1+n=i+(n+1) by omega]at h1;cases m with
  | ptr cs=>exact List.mem_cons_of_mem _ h1
  | val=>exact h1
  | «mut»=>exact h1
def MS (φ:Nat->ac):Option (Option Nat)->ac
 | some (some t)=>φ t
 | _=>NO
theorem yV {u:Nat->Value} : ∀ {j0:Nat} {cs xs os:List C},Mf u j0 cs xs os->cs.length=os.length/\∀ (j:Nat) (c o:C),cs[j]? = some c->os[j]? = some o->∃ y,(d5 c=true->xs[j]? = some y)/\NK (u (j0+j)) c y o
 | _,[],xs,os,h=>by simp only[Mf]at h;subst h;exact⟨rfl,fun j c o h=>by simp at h⟩
 | _,_::_,[],_,h=>by simp only[Mf]at h
 | _,_::_,_::_,[],h=>by simp only[Mf]at h
 | j0,c0::cs,x0::xs,o0::os,h=>by
  simp only[Mf]at h;obtain⟨h1,h2⟩:=yV h.2;refine⟨by simp[h1],fun j c o hj ho=>?_⟩;cases j with
  | zero=>simp at hj ho;subst hj ho;exact⟨x0,fun _=>rfl,h.1⟩
  | succ j=>
   obtain⟨y,e1,e2⟩:=h2 j c o (by simpa using hj) (by simpa using ho);exact⟨y,fun hc=>by simpa using e1 hc,by rw[show j0+(j+1)=j0+1+j by omega];exact e2⟩
theorem H6 {S' Y Y':ac} {u tu:Nat->Value} {cs xs os:List C} {off:Nat} (hsame:bi S w w1) (hsub:∀ b o,S b o->S' b o) (h:cN w S Y cs u) (h':cN w1 S' Y' xs tu) (hb:Mf u 0 cs (xs.drop off) os):cN w1 S' Y' os u:=by
 obtain⟨f,h1,h2,h3⟩:=h;obtain⟨f',h1',h2',h3'⟩:=h';obtain⟨hl,hg⟩:=yV hb;refine⟨fun j b o=>off+j<xs.length/\f' (off+j) b o,fun j c hj=>?_,fun j hj b o hb=>h2' _ hb.1 b o hb.2,fun j j' hj hj' hne b o hb hb'=>h3' _ _ hb.1 hb'.1 (by omega) b o hb.2 hb'.2⟩;have hjl:=(R1.1 hj).1;have hcs:cs[j]? = some cs[j]:=Q1 (by omega);obtain⟨y,hx,hbk⟩:=hg j _ c hcs hj;rw[Nat.zero_add]at hbk;have hrep:=h1 j _ hcs;generalize cs[j]=c0 at hcs hbk hrep hx;have keep:d5 c0=false->c=c0->dX w1 S' (fun b o=>off+j<xs.length/\f' (off+j) b o) c (u j):=fun hi e=>by
  subst e;exact((hrep.bare (F':=NO) hi).keep hsame (fun _ _ h=>h.elim)).mono hsub (fun _ _ h=>h.elim)
 cases c0 with
 | v x0=>exact keep rfl hbk
 | x=>exact keep rfl hbk
 | z=>exact keep rfl hbk
 | m es=>exact hbk.elim
 | it=>exact hbk.elim
 | s o rows=>
  cases o with
  | imm=>exact keep rfl hbk
  | tag z=>exact hbk.elim
  | own=>
   have hx:=hx rfl;rw[List.getElem?_drop]at hx;have hlt:=(R1.1 hx).1;simp only[NK]at hbk;split at hbk
   case h_2=>exact hbk.elim
   rename_i v' rows';obtain⟨rfl,rfl⟩:=hbk;obtain⟨e1,e2⟩:=(h1' _ _ hx).untag;rw[e1]at e2;exact e2.mono (fun _ _ h=>h) (fun b o h=>⟨hlt,h⟩)
theorem bh.backs {w':World} {S':ac} {u:Nat->Nat->Value} (h:bh w0 M S0 N S' φ F a w') (hsame:bi S w w') (hsub:∀ b o,S b o->S' b o):∀ {A:List MA} {pl:List (Nat × Nat)} {B:List MA} {vs:List Value} {V:Nat->ac} {i:Nat},KF w S V A vs->
  (∀ j v,vs[j]? = some v->u (i+j)=celF v)->(∀ j v cs,vs[j]? = some v->A[j]? = some (.ptr cs)->tvs a (i+j)=v)->gQ u F i A pl B->Dn w' S' (fun n=>MS φ (A5 i A pl)[n]?) B vs
 | [],pl,B,vs,V,i,hA,hu,hp,hb=>by
  cases vs with
  | cons _ _=>exact hA.elim
  | nil=>cases B with
   | nil=>trivial
   | cons _ _=>simp only[gQ]at hb
 | m::A,[],B,vs,V,i,hA,hu,hp,hb=>by cases m<;>simp only[gQ]at hb
 | m::A,p::pl,[],vs,V,i,hA,hu,hp,hb=>by cases m<;>simp only[gQ]at hb
 | m::A,p::pl,m'::B,[],V,i,hA,hu,hp,hb=>hA.elim
 | m::A,p::pl,m'::B,v::vs,V,i,hA,hu,hp,hb=>by
  have next:gQ u F (i+1) A pl B->Dn w' S' (fun n=>MS φ (A5 (i+1) A pl)[n]?) B vs:=fun hb=>
   bh.backs h hsame hsub hA.2 (fun j v hj=>by rw[show i+1+j=i+(j+1) by omega];exact hu (j+1) v (by simpa using hj))
    (fun j v cs hj hc=>by rw[show i+1+j=i+(j+1) by omega];exact hp (j+1) v cs (by simpa using hj) (by simpa using hc)) hb
  cases m with
  | val ag cs=>
   cases m' with
   | val ag' cs'=>simp only[gQ]at hb;exact⟨trivial,next hb⟩
   | ptr=>simp only[gQ]at hb
   | «mut»=>simp only[gQ]at hb
  | «mut» ag cs=>
   cases m' with
   | val=>simp only[gQ]at hb
   | ptr=>simp only[gQ]at hb
   | «mut» ag' out=>
    simp only[gQ]at hb;obtain⟨⟨rfl,hb1⟩,hb2⟩:=hb;refine⟨?_,next hb2⟩;have hv:=bP.celF (show bP w S (V 0) ag' cs v from hA.1);have hu0:u i=celF v:=hu 0 v (by simp);have hs:=h.slot p.1;cases hF:F p.1 with
    | hold k xs=>
     rw[hF]at hb1 hs;simp only at hb1;rw[hu0]at hb1;obtain⟨X1,Y,e1,e2,e3,e4,e5⟩:=hs;refine⟨by rw[<-(yV hb1).1];exact hv.1,celF v,hv.2.1,?_⟩;exact(H6 hsame hsub hv.2.2 e5 hb1).mono (fun _ _ h=>h) (fun b o hb=>by simpa[A5,MS] using e2 b o hb)
    | _=>rw[hF]at hb1;exact hb1.elim
  | ptr cs=>
   cases m' with
   | val=>simp only[gQ]at hb
   | «mut»=>simp only[gQ]at hb
   | ptr out=>
    simp only[gQ]at hb;refine⟨?_,next hb.2⟩;have hv:tvs a i=v:=hp 0 v cs (by simp) (by simp);have hs:=h.slot i;cases hF:F i with
    | hold k xs=>
     cases k with
     | box=>
      rw[hF]at hb hs;have:=hb.1;simp only at this;subst this;rw[hv]at hs;obtain⟨X1,Y,e1,e2,e3,e4,e5⟩:=hs;exact⟨X1,Y,fun b o hb=>by simpa[A5,MS] using e1 b o hb,fun b o hb=>by simpa[A5,MS] using e2 b o hb,e3,e4,e5⟩
     | _=>rw[hF]at hb;exact hb.1.elim
    | _=>rw[hF]at hb;exact hb.1.elim
theorem rN:∀ {l:List (Option Nat)},Ex l=true->∀ (i i' t t':Nat),i≠i'->l[i]? = some (some t)->l[i']? = some (some t')->t≠t'
 | [],_,i,i',t,t',_,h,_=>by simp at h
 | none::l,hok,i,i',t,t',hne,h,h'=>by
  cases i with
  | zero=>simp at h
  | succ i=>cases i' with
   | zero=>simp at h'
   | succ i'=>exact rN (l:=l) hok i i' t t' (by omega) (by simpa using h) (by simpa using h')
 | some t0::l,hok,i,i',t,t',hne,h,h'=>by
  simp only[Ex,I0]at hok;have hd:∀ (n s:Nat),l[n]? = some (some s)->t0≠s:=fun n s hn e=>by
   have:=z3.1 hok.1 _ (O1 hn);simp only[Bool.not_eq_true']at this;rw[e,Nat.beq_refl]at this;cases this
  cases i with
  | zero=>
   simp at h;subst h;cases i' with
   | zero=>exact absurd rfl hne
   | succ i'=>exact hd i' t' (by simpa using h')
  | succ i=>cases i' with
   | zero=>simp at h';subst h';exact fun e=>hd i t (by simpa using h) e.symm
   | succ i'=>exact rN hok.2 i i' t t' (by omega) (by simpa using h) (by simpa using h')
theorem wD:∀ {l:List (Option Nat)} {i t:Nat},l[i]? = some (some t)->t∈sles l
 | [],i,t,h=>by simp at h
 | none::l,i,t,h=>by
  cases i with
  | zero=>simp at h
  | succ i=>exact wD (l:=l) (i:=i) (by simpa using h)
 | some t0::l,i,t,h=>by
  cases i with
  | zero=>simp at h;subst h;simp[sles]
  | succ i=>exact List.mem_cons_of_mem _ (wD (l:=l) (i:=i) (by simpa using h))
theorem vt {φ:Nat->ac} {x:Option (Option Nat)} {b o:Nat} (h:MS φ x b o):∃ t,x=some (some t)/\φ t b o:=by
 match x,h with
 | some (some t),h=>exact⟨t,rfl,h⟩
 | some none,h=>exact h.elim
 | none,h=>exact h.elim
theorem GS {f : Nat} {fn : Func} {c : Code} {sh : Bool} {A B : List MA} {k : Kd} {rcs : List C} {mo : List (Nat × List Nat)} {n : Nat} (pl : List (Nat × Nat)) (hTE : ∀ t i, TE t = some i -> ca P t i) (hf : P.funcs[f]? = some fn) (hn : (fn.name == "runtime.NumGoroutine") = false)
  (hb:fn.body=some c) {ck:Nat->Array Oper->Bool} {D:fg->Nat->Array Oper->((Nat->AV)->Prop)->(Nat->AV)->Prop} (hD:∀ N,wa P N ck (D N)) (hc:fo ck c=true) (hN:A.length+(fn.ntmps - A.length)=n) (hok:Ex (A5 0 A pl)=true) (hsh:sh=true\/gG rcs)
  (hp:∀ (u:Nat->Nat->Value) (p:Nat->Value),aw P TE ⟨n,Ft p 0 A,mo⟩ (D ⟨n,Ft p 0 A,mo⟩) c (MI TE fn.results.toList k rcs u A B pl) (lay (vc u 0 A))):aT P f sh A B k rcs:=by
 refine⟨⟨fn,hf,hn,by rw[hb];rfl⟩,fun w S V vs hS hV hVd hA=>?_⟩;have hlen:=Fb hA;refine calls_of_wp hf hb ?_
 let u:Nat->Nat->Value:=fun i=>celF (vs.getD i undef)
 let p:Nat->Value:=fun i=>vs.getD i undef
 have htv:∀ t v,vs[t]? = some v->tvs {tmps:=vs.toArray++Array.replicate (fn.ntmps - vs.toArray.size) undef,defers:=[]} t=v:=fun t v h2=>by
  have hlt:=(R1.1 h2).1;simp only[tvs,Array.getD_eq_getD_getElem?];rw[Array.getElem?_append_left (by simpa using hlt)];simp only[List.getElem?_toArray];rw[h2];rfl
 have hst:St w (fun b o=>∃ i,V i b o) S ⟨n,Ft p 0 A,mo⟩ (lay (vc u 0 A)) {tmps:=vs.toArray++Array.replicate (fn.ntmps - vs.toArray.size) undef,defers:=[]} w:=by
  refine⟨S,V,fun t=>?_,hVd,fun t b o h=>(hV t b o h).2,fun t b o h=>⟨(hV t b o h).1,.inr ⟨t,h⟩⟩,fun _ _ h=>h,fun b o h=>⟨hS b o h,.inl h⟩,bH.refl _ _,by simp;omega,rfl,fun q hq=>?_⟩
  ·rcases y4 (u:=u) 0 hA t with h1|⟨m,v,-,h2,h2',h3,h4⟩
   ·rw[h1];trivial
   ·rw[h3]
    rw[Nat.sub_zero]at h2 h4;rw[htv t v h2];have hu:u t=celF v:=by show celF (vs.getD t undef)=_;rw[List.getD,h2];rfl
    cases m with
    | val ag cs=>exact(bP.mono (show bP w S NO ag cs v from h4) (fun _ _ h=>h) (fun _ _ h=>h.elim)).slot
    | «mut» ag cs=>
     obtain⟨e1,e2,e3⟩:=bP.celF (show bP w S (V t) ag cs v from h4);refine bP.slot ⟨by rw[mZ];exact e1,celF v,e2,?_⟩;rw[hu];exact e3.tag
    | ptr cs=>exact h4
  ·obtain⟨-,h1,h2⟩:=FT hq
   rw[h2];have hlt:q.1<vs.length:=by omega
   refine htv _ _ ?_;show vs[q.1]? = some (vs.getD q.1 undef);rw[List.getD,Q1 hlt];rfl
 refine ia hTE (hD _) c hc _ _ _ _ w (hp u p) hst fun e F' a' w' he hs'=>?_
 obtain⟨S',φ',h⟩:=hs';have fin:resA TE F' fn.results.toList (sles (A5 0 A pl)) (fun sh cs=>aR (iY sh) k cs rcs (gQ u F' 0 A pl B))->a'.defers=[]/\∃ v,(results fn a'.tmps).run P w'=.ok v w'/\(∃ v',Ending.returned v=.returned v'/\bH (fun b o=>∃ i,V i b o) w w'/\∃ (X:ac) (V':Nat->ac) (S1:ac),
     (∀ b o,X b o->(∃ i,V i b o)\/(b<w'.heap.size/\w.heap.size<=b))/\(∀ i b o,V' i b o->(∃ i,V i b o)\/(b<w'.heap.size/\w.heap.size<=b))/\
     (∀ b o,S1 b o->(sh=true/\S b o)\/(∃ i,V i b o)\/(b<w'.heap.size/\w.heap.size<=b))/\
     (∀ i i',i≠i'->∀ b o,V' i b o->¬V' i' b o)/\(∀ i b o,X b o->¬V' i b o)/\(∀ b o,X b o->¬S1 b o)/\(∀ i b o,V' i b o->¬S1 b o)/\
     fp w' NO k rcs.length v'/\cN w' S1 X rcs (bT w' k v')/\Dn w' (fun b o=>S b o\/S1 b o) V' B vs):=by
  intro hr;obtain⟨shs,cs,vs',u',hfin,hrun,hT,hln,hL,hcells,hone,hrow⟩:=h.resA hTE hr;obtain⟨rfl,rfl,hback⟩:=hfin.out;refine⟨h.defers,?_⟩;have hrun2:(results fn a'.tmps).run P w'=.ok (if h:vs'.toArray.size=1 then vs'.toArray[0] else .tuple vs'.toArray) w':=by
   have e:results fn a'.tmps=(do let vs <-fn.results.mapM (Bk a'.tmps);pure (if h:vs.size=1 then vs[0] else .tuple vs)):=by
    unfold results
    congr 1
   rw[e,<-Array.toArray_toList (xs:=fn.results),List.mapM_toArray];simp only[Sem.run_bind,Sem.run_map,hrun,Result.andThen_ok,Sem.run_pure]
  have hex:∀ t b o,φ' t b o->(∃ i,V i b o)\/(b<w'.heap.size/\w.heap.size<=b):=fun t b o hb=>(h.ex t b o hb).2.elim (fun h'=>.inr ⟨(h.ex t b o hb).1,h'⟩) .inl
  have hsameS:bi S w w':=fun b o hb=>by
   have hlt:=hS b o hb;exact⟨h.old.cel b o hlt (fun⟨i,hi⟩=>(hV i b o hi).2 hb),h.old.fro b o hlt (fun⟨i,hi⟩=>(hV i b o hi).2 hb)⟩
  have hm:=h.backs (u:=u) hsameS h.sub hA (fun j v hj=>by show celF (vs.getD (0+j) undef)=_;rw[Nat.zero_add,List.getD,hj];rfl) (fun j v cs hj hc=>by
    have:=h.par _ (ET (p:=p) (i:=0) hc);rw[this];show vs.getD (0+j) undef=v;rw[Nat.zero_add,List.getD,hj];rfl) hback
  refine⟨_,hrun2,_,rfl,h.old,fun b o=>∃ t,t∉sles (A5 0 A pl)/\φ' t b o,fun i=>MS φ' (A5 0 A pl)[i]?,fun b o=>(sh=true/\S' b o)\/(S' b o/\((∃ i,V i b o)\/w.heap.size<=b)),fun b o ⟨t,_,hb⟩=>hex t b o hb,fun i b o hb=>?_,fun b o hb=>?_,fun i i' hne b o hb hb'=>?_,fun i b o ⟨t,ht,hb⟩ hb'=>?_,fun b o ⟨t,_,hb⟩ hb'=>h.disS t b o hb (hb'.elim (·.2) (·.1)),fun i b o hb hb'=>?_,?_⟩
  ·obtain⟨t,-,hb⟩:=vt hb
   exact hex t b o hb
  ·rcases hb with⟨h1,h2⟩|⟨h1,h2⟩
   ·rcases(h.sup b o h2).2 with h3|h3|h3
    ·exact .inl ⟨h1,h3⟩
    ·exact .inr (.inr ⟨(h.sup b o h2).1,h3⟩)
    ·exact .inr (.inl h3)
   ·rcases h2 with h2|h2
    ·exact .inr (.inl h2)
    ·exact .inr (.inr ⟨(h.sup b o h1).1,h2⟩)
  ·obtain⟨t,e1,hb⟩:=vt hb
   obtain⟨t',e2,hb'⟩:=vt hb';exact h.dis t t' (rN hok i i' t t' hne e1 e2) b o hb hb'
  ·obtain⟨t',e2,hb'⟩:=vt hb'
   exact h.dis t t' (fun e=>ht (by rw[e];exact wD e2)) b o hb hb'
  ·obtain⟨t,-,hb⟩:=vt hb
   exact h.disS t b o hb (hb'.elim (·.2) (·.1))
  ·have hk:fp w' NO (iY shs) cs.length (if h:vs'.toArray.size=1 then vs'.toArray[0] else .tuple vs'.toArray)/\cN w' S' (fun b o=>∃ t,t∉sles (A5 0 A pl)/\φ' t b o) cs (bT w' (iY shs) (if h:vs'.toArray.size=1 then vs'.toArray[0] else .tuple vs'.toArray)):=by
    match shs,hT,hone,hL with
    | [],hT,_,hL=>
     cases vs' with
     | cons _ _=>exact hT.elim
     | nil=>
      have:cs=[]:=List.eq_nil_of_length_eq_zero (by simpa[oL] using hL.symm);subst this;exact⟨⟨_,rfl,trivial,rfl⟩,cN.nil _ _ _ _⟩
    | [ag],_,hone,_=>
     obtain⟨v,rfl,hv⟩:=hone ag rfl;have:=hv.slot (F:=F') (tv:=tvs a');obtain⟨X1,Y,h1,h2,h3,h4,h5⟩:=this;refine⟨?_,h5.mono (fun _ _ h=>h) h2⟩;cases ag<;>exact h4
    | ag::ag2::sh,hT,_,hL=>
     have hsz:¬vs'.toArray.size=1:=by
      match vs',hT with
      | [],hT=>simp
      | [v],hT=>cases ag<;>cases ag2<;>exact hT.2.elim
      | _::_::_,_=>simp
     rw[dif_neg hsz];refine⟨⟨_,rfl,hT,hL⟩,hrow.congr fun j hj=>?_⟩;simp only[bT,iY,lv,hcells];simp[List.getD,hj]
   refine⟨hk.1,?_,hm.mono fun b o hb=>?_⟩
   ·rcases hsh with h1|h1
    ·exact hk.2.mono (fun b o hb=>.inl ⟨h1,hb⟩) (fun _ _ h=>h)
    ·exact(hk.2.fresh h1).mono (fun _ _ h=>h.elim) (fun _ _ h=>h)
   ·rcases(h.sup b o hb).2 with h3|h3|h3
    ·exact .inl h3
    ·exact .inr (.inr ⟨hb,.inr h3⟩)
    ·exact .inr (.inr ⟨hb,.inl h3⟩)
 cases e with
 | normal=>exact fin he
 | ret=>exact fin he
 | _=>exact he.elim
end
abbrev I (z:Int):C:=.v (.int .i64 z)
abbrev B (b:Bool):C:=.v (.bool b)
def rI (_:d3) (z:Int):List C:=[I z]
def rB (_:d3) (b:Bool):List C:=[B b]
theorem oN (z:Int):gG (rI .own z):=⟨trivial,trivial⟩
theorem AB (b:Bool):gG (rB .own b):=⟨trivial,trivial⟩
def l7 (z:Int):Prop:=-9223372036854775808<=z/\z<=9223372036854775807
def NW (_:Bool):Prop:=True
theorem pH : Tryz.prog.follows .mixedOrders=true:=by kernel_rfl
theorem Nj {n f : Nat} {mo : List (Nat × List Nat)} {fn : Func} {c : Code} {sh : Bool} {A : List RA} {k : Kd} {rcs : List C} (hf : Tryz.prog.funcs[f]? = some fn) (hn : (fn.name == "runtime.NumGoroutine") = false) (hb : fn.body = some c) {tb : List (Nat × Nat × List Nat)} (hc : fo (mh tb) c = true)
  (hN:A.length+(fn.ntmps - A.length)=n) (hsh:sh=true\/gG rcs) (hp:aw Tryz.prog TE ⟨n,[],mo⟩ (DF Tryz.prog TE ⟨n,[],mo⟩ tb) c (LZ TE fn.results.toList k rcs) (lay (tn 0 A))):ao Tryz.prog f sh A k rcs:=
 G3 yl hf hn hb (pF yl pH ⟨n,[],mo⟩ tb) hc hN rfl hsh hp
theorem N3 {n f : Nat} {mo : List (Nat × List Nat)} {fn : Func} {c : Code} {sh : Bool} {A B : List MA} {k : Kd} {rcs : List C} (pl : List (Nat × Nat)) (hf : Tryz.prog.funcs[f]? = some fn) (hn : (fn.name == "runtime.NumGoroutine") = false) (hb : fn.body = some c) {tb : List (Nat × Nat × List Nat)} (hc : fo (mh tb) c = true)
  (hN:A.length+(fn.ntmps - A.length)=n) (hok:Ex (A5 0 A pl)=true) (hsh:sh=true\/gG rcs)
  (hp:∀ (u:Nat->Nat->Value) (p:Nat->Value),aw Tryz.prog TE ⟨n,Ft p 0 A,mo⟩ (DF Tryz.prog TE ⟨n,Ft p 0 A,mo⟩ tb) c (MI TE fn.results.toList k rcs u A B pl) (lay (vc u 0 A))):aT Tryz.prog f sh A B k rcs:=
 GS pl yl hf hn hb (fun N=>pF yl pH N tb) hc hN hok hsh hp
theorem Nd {n f t : Nat} {mo : List (Nat × List Nat)} {fn : Func} {c : Code} {A : List RA} {rcs : List C} (hf : Tryz.prog.funcs[f]? = some fn) (hn : (fn.name == "runtime.NumGoroutine") = false) (hb : fn.body = some c) {tb : List (Nat × Nat × List Nat)} (hc : fo (mh tb) c = true)
  (hN:A.length+(fn.ntmps - A.length)=n) (hr:fn.results = #[.tmp t]) (hp:aw Tryz.prog TE ⟨n,[],mo⟩ (DF Tryz.prog TE ⟨n,[],mo⟩ tb) c (N0 t rcs) (lay (tn 0 A))):pv Tryz.prog f true A .box rcs:=
 G9 yl hf hn hb (pF yl pH ⟨n,[],mo⟩ tb) hc hN rfl hr hp
theorem dS {x:Int} (h1 : -9223372036854775808<=x) (h2:x<=9223372036854775807):IntKind.i64.wrap x=x:=IntWalk.i64_in x (by constructor<;>assumption)
def Ki:RA->RA->Prop
 | .val ag cs,.val ag' cs'=>ag=ag'/\cs=cs'
 | .ptr cs,.ptr cs'=>cs=cs'
 | A,A'=>A=A'
theorem Ki.eq {A A':RA} (h:Ki A A'):A=A':=by
 unfold Ki at h;split at h
 ·obtain⟨rfl,rfl⟩:=h;rfl
 ·rw[h]
 ·exact h
def By:List RA->List RA->Prop
 | [],[]=>True
 | A::As,B::Bs=>Ki A B/\By As Bs
 | _,_=>False
theorem By.eq:∀ {A A':List RA},By A A'->A=A'
 | [],[],_=>rfl
 | A::As,B::Bs,h=>by rw[Ki.eq h.1,By.eq h.2]
 | [],_::_,h=>h.elim
 | _::_,[],h=>h.elim
theorem Cl.eq {P:Program} {f:Nat} {b:Bool} {A A':List RA} {K:AV->Prop} {k:Kd} {rcs:List C} (h:ao P f false A' k rcs) (hA:By A A') (hK:K (.hold k rcs)):Cl P f b A K:=by rw[hA.eq];exact Cl.mk h hK
theorem wK {n b:Nat} (h:n<=1048576) (hb:b<=1000):n*b<=140737488355328:=W3 (Nat.mul_le_mul h hb) (by decide)
theorem Bf.NB {a b:Bool} {X Y:Prop} (h1:a≠b->X) (h2:a=b->Y):Bf (a != b) X Y:=by
 refine Bf.P (fun h=>h1 ?_) (fun h=>h2 ?_)
 ·simpa using h
 ·simpa using h
theorem Rw.one {bs:List C} {off i k j:Nat} {K:List C->Nat->Prop} {o:d3} {rows:List (List C)} {r:List C} (h1:bs[off]? = some (.s o rows)) (h2:rows[i]? = some r) (h3:r.length=k) (hK:K r j):Rw bs off [(i,k,j)] K:=
 Rw.mk (r:=r) (j:=j) (by simp[bR,h1,h2,h3]) hK
section
variable {α:Type} {A B:List α}
end
theorem aa {α β:Type} {f:α->β} {l:List α} {k:Nat} {x:α} (h:l[k]? = some x):(l.map f)[k]? = some (f x):=by simp[h]
end Go.Proofs.YtembpgjjnioagaaGreat.Ab
