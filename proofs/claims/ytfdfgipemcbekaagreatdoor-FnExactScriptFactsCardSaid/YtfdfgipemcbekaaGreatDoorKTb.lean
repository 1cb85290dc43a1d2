/- Calls that only read what they are handed, on abstract frames; all slot-only operations together. No condition. -/
import Derived.Test.YtfdfgipemcbekaaGreatDoorKTa
import Derived.Deep.LoopGhost
set_option linter.unusedVariables false
set_option linter.defProp false
set_option linter.unusedSimpArgs false
set_option linter.constructorNameAsVariable false
namespace Go.Proofs.YtfdfgipemcbekaaGreatDoor.Ab
open Go.RowKit
inductive RA where
 |val (ag:Option Nat) (cs:List C)
 |ptr (cs:List C)
 |fn (Ok:af->World->Value->Prop)
def qv(w:World)(S:af):RA->Value->Prop
 | .val ag cs,v=>bm w S NO ag cs v
 | .ptr cs,v=>∃g b u,v=.pointer (some ⟨g,b,none⟩)/\(∀d,d<cs.length->S g (b+d)/\cel w g (b+d)=some (u d))/\cw w S NO cs u
 | .fn Ok,v=>∃(S1:af)(w1:World),(∀b o,S1 b o->S b o)/\b8 S1 w1 w/\Ok S1 w1 v
def Aq(w:World)(S:af):List RA->List Value->Prop
 | [],[]=>True
 | A::As,v::vs=>qv w S A v/\Aq w S As vs
 | _,_=>False
def JY(P : Program)(f : Nat) : Prop := ∃a, P.funcs[f]? = some a /\ (a.name == "runtime.NumGoroutine") = false /\ a.body.isSome = true
structure am(P:Program)(f:Nat)(sh:Bool)(A:List RA)(k:Kd)(rcs:List C):Prop where
 has:JY P f
 run:∀(w:World)(S:af)(vs:List Value),((∀b o,S b o->b<w.heap.size)/\Tb w S)->Aq w S A vs->
  Calls P f vs.toArray w λe w1=>∃v,e=.returned v/\bu NO w w1/\∃X S1:af,(∀b o,X b o->b<w1.heap.size/\w.heap.size<=b)/\
   (∀b o,S1 b o->(sh=true/\S b o)\/(b<w1.heap.size/\w.heap.size<=b))/\(∀b o,X b o->¬S1 b o)/\fZ w1 NO k rcs.length v/\cw w1 S1 X rcs (co w1 k v)
structure LF(P:Program)(f:Nat)(sh:Bool)(A:List RA)(k:Kd)(rcs:List C):Prop where
 has:JY P f
 run:∀(w:World)(S:af)(vs:List Value),((∀b o,S b o->b<w.heap.size)/\Tb w S)->Aq w S A vs->
  Calls P f vs.toArray w λe w1=>∃v,e=.returned v/\bu NO w w1/\∃X S1:af,(∀b o,X b o->b<w1.heap.size/\w.heap.size<=b)/\
   (∀b o,S1 b o->(sh=true/\S b o)\/(b<w1.heap.size/\w.heap.size<=b))/\(∀b o,X b o->¬S1 b o)/\∃X1 Y:af,(∀b o,X1 b o->X b o)/\(∀b o,Y b o->X b o)/\(∀b o,X1 b o->¬Y b o)/\fZ w1 X1 k rcs.length v/\cw w1 S1 Y rcs (co w1 k v)
variable{rcs:List C}{k:Kd}{A:List RA}{f:Nat}{P:Program}
def am.toG{sh:Bool}(h:am P f sh A k rcs):LF P f sh A k rcs:=
 ⟨h.has,λw S a b c=>(h.run w S a b c).mono λ_ _ ⟨v,d,e,X,S1,g,i,j,l,n⟩=>⟨v,d,e,X,S1,g,i,j,NO,X,λ_ _ h=>h.elim,λ_ _ h=>h,λ_ _ h=>h.elim,l,n⟩⟩
def DT(K:Bool->RA->Prop)(ag:Option Nat)(cs:List C):Prop:=bif br cs then K true (.val ag cs) else K false (.val ag (dw cs))
def argV(F:Nat->AV)(x:Operand)(K:Bool->RA->Prop):Prop:=
 match oN F x with
 | .Y .box b=>K false (.ptr (dw b))
 | .Y .one b=>DT K none b
 | .Y .agg b=>DT K (some b.length) b
 | .Y (.tup _) _=>False
 | .c5 t a c ag=>jj F (.c5 t a c ag) (DT K)
 | .ref t a c=>(match a,c,F t with|0,[],.Y .box b=>K false (.ptr (dw b))|_,_,_=>False)
 | .iref r a=>bif Nat.beq a 0 then K true (.ptr r) else False
 | .fv Ok=>K true (.fn Ok)
 | .fn _ _=>False
 | .dead=>False
def o9(F:Nat->AV):List Nat->(List RA->Prop)->Prop
 | [],K=>K []
 | c::cs,K=>(match F c with
   | .Y .box xs=>o9 F cs λD=>K (.ptr (dw xs)::D)
   | .Y .one xs=>o9 F cs λD=>K (.val none (dw xs)::D)
   | .Y .agg xs=>o9 F cs λD=>K (.val (some xs.length) (dw xs)::D)
   | _=>False)
def mS(P:Program)(Q:List (Option Nat × List C)->Kd->List C->Prop)(S1:af)(w1:World)(v:Value):Prop:=
 ∃(f:Nat)(caps:List Value),v=.func (.func f) #[] caps.toArray/\JY P f/\∀L k rcs,Q L k rcs->∀(w:World)(S:af)(a:List Value),(∀b o,S1 b o->S b o)->b8 S1 w1 w->((∀b o,S b o->b<w.heap.size)/\Tb w S)->Aq w S (L.map λp=>.val p.1 p.2) a->
  Calls P f (a++caps).toArray w λe w1=>∃v,e=.returned v/\bu NO w w1/\∃X S1:af,(∀b o,X b o->b<w1.heap.size/\w.heap.size<=b)/\
   (∀b o,S1 b o->(false=true/\S b o)\/(b<w1.heap.size/\w.heap.size<=b))/\(∀b o,X b o->¬S1 b o)/\fZ w1 NO k rcs.length v/\cw w1 S1 X rcs (co w1 k v)
inductive Cq(P:Program)(f:Nat)(D:List RA)(K:(af->World->Value->Prop)->Prop):Prop
 | mk_ (h:∃Q:List (Option Nat × List C)->Kd->List C->Prop,JY P f/\(∀L k rcs,Q L k rcs->am P f false (L.map (λp=>RA.val p.1 p.2)++D) k rcs)/\K (mS P Q))
def Cq.mk{D:List RA}{K:(af->World->Value->Prop)->Prop}(Q:List (Option Nat × List C)->Kd->List C->Prop)(h1:JY P f)(h2:∀L k rcs,Q L k rcs->am P f false (L.map (λp=>RA.val p.1 p.2)++D) k rcs)(a:K (mS P Q)):Cq P f D K:=.mk_ ⟨Q,h1,h2,a⟩
inductive Fv(P:Program)(Ok:af->World->Value->Prop)(L:List (Option Nat × List C))(K:AV->Prop):Prop
 |mk_ (h:∃(Q:List (Option Nat × List C)->Kd->List C->Prop)(k:Kd)(rcs:List C),Ok=mS P Q/\Q L k rcs/\K (.Y k rcs))
theorem Fv.mk{Q:List (Option Nat × List C)->Kd->List C->Prop}{L:List (Option Nat × List C)}{K:AV->Prop}(h:Q L k rcs)(a:K (.Y k rcs)):Fv P (mS P Q) L K:=.mk_ ψ
def argA(P:Program)(F:Nat->AV)(x:Operand)(K:Bool->RA->Prop):Prop:=
 match oN F x with
 | .fn f caps=>o9 F caps λD=>Cq P f D λOk=>K false (.fn Ok)
 | _=>argV F x K
def EZ(P:Program)(F:Nat->AV):List Operand->(Bool->List RA->Prop)->Prop
 | [],K=>K true []
 | x::xs,K=>argA P F x λa A=>EZ P F xs λb As=>K (bif a then b else false) (A::As)
def argsV(F:Nat->AV):List Operand->(List (Option Nat × List C)->Prop)->Prop
 | [],K=>K []
 | x::xs,K=>jj F (oN F x) λb a=>argsV F xs λL=>K ((b,bif br a then a else dw a)::L)
inductive Cl(P:Program)(f:Nat)(b:Bool)(A:List RA)(K:AV->Prop):Prop
 |mk_ (h:∃sh k rcs,LF P f sh A k rcs/\(sh=false\/b=true)/\K (.Y k rcs))
variable{b:Bool}
def Cl.mk{K:AV->Prop}(h:am P f false A k rcs)(a:K (.Y k rcs)):Cl P f b A K:=by refine .mk_ ?_;exact⟨false,k,rcs,h.toG,.inl rfl,a⟩
theorem CF:type_of% @Cl.mk:=@Cl.mk
def Cl.sh{K:AV->Prop}(h:am P f true A k rcs)(a:b=true)(c:K (.Y k rcs)):Cl P f b A K:=by refine .mk_ ?_;exact⟨true,k,rcs,h.toG,.inr a,c⟩
def Cl.out{K:AV->Prop}(h:Cl P f b A K):∃sh k rcs,LF P f sh A k rcs/\(sh=false\/b=true)/\K (.Y k rcs):=by obtain⟨h⟩:=h;exact h
def P3(P:Program)(F:Nat->AV)(f:Nat)(args:List Operand)(K:AV->Prop):Prop:=
 EZ P F args λb A=>Cl P f b A K
def oc(P:Program)(F:Nat->AV)(t:Nat)(args:List Operand)(K:AV->Prop):Prop:=
 match F t with
 | .fn f caps=>EZ P F args λ_ A=>o9 F caps λD=>Cl P f false (A++D) K
 | .fv Ok=>argsV F args λL=>Fv P Ok L K
 | _=>False
section
variable{P:Program}{w0 w w1:World}{M S0 S:af}{N:fF}{φ:Nat->af}{F:Nat->AV}{a:Act}
variable{v:Value}{cs:List C}{ag:Option Nat}{S':af}
def bm.mono{S Y a:af}(h:bm w S Y ag cs v)(c:∀b o,S b o->S' b o)(d:∀b o,Y b o->a b o):bm w S' a ag cs v:=
 ⟨h.1,h.2.choose,h.2.choose_spec.1,h.2.choose_spec.2.mono c d⟩
def bm.freeze{Y:af}(h:bm w S Y ag cs v):bm w (λb o=>S b o\/Y b o) NO ag (dw cs) v:=
 ⟨by rw[bU,Z1];exact h.1,h.2.choose,h.2.choose_spec.1,h.2.choose_spec.2.freeze⟩
def oK(S:af)(φ:Nat->af):af:=λb o=>S b o\/∃t,φ t b o
def bm.keepS(h:bm w S NO ag cs v)(a:b8 S w w1)(c:∀b o,S b o->S' b o):bm w1 S' NO ag cs v:=by
 obtain⟨d,u,e,f⟩:=h;exact⟨d,u,e,(f.keep a (λ_ _ h=>h.elim)).mono c (λ_ _ h=>h)⟩
theorem qv.keep{A:RA}(h:qv w S A v)(c:b8 S w w1)(i:∀b o,S b o->S' b o):qv w1 S' A v:=by
 cases A with
 | val p l=>exact bm.keepS h c i
 | ptr l=>
  obtain⟨g,b,u,e,a,j⟩:=h;exact⟨g,b,u,e,λd k=>⟨i _ _ (a d k).1,(c _ _ (a d k).1).1.trans (a d k).2⟩,(j.keep c (λ_ _ h=>h.elim)).mono i (λ_ _ h=>h)⟩
 | fn Ok=>
  obtain⟨S1,n,e,a,j⟩:=h;exact⟨S1,n,ψ,λb o f=>⟨(c b o (e b o f)).1.trans (a b o f).1,(c b o (e b o f)).2.trans (a b o f).2⟩,j⟩
def Aq.keep{S':af}(a:b8 S w w1)(c:∀b o,S b o->S' b o):∀{A:List RA}{vs:List Value},Aq w S A vs->Aq w1 S' A vs
 | [],[],_=>trivial
 | _::_,_::_,h=>⟨h.1.keep a c,Aq.keep a c h.2⟩
 | [],_::_,h=>h.elim
 | _::_,[],h=>h.elim
def Aq.append:∀{A B:List RA}{vs a:List Value},Aq w S A vs->Aq w S B a->Aq w S (A++B) (vs++a)
 | [],_,[],_,_,h=>h
 | _::_,_,_::_,_,h,b=>⟨h.1,Aq.append h.2 b⟩
 | [],_,_::_,_,h,_=>h.elim
 | _::_,_,[],_,h,_=>h.elim
def b8.rfl'(X:af)(w:World):b8 X w w:=λ_ _ _=>⟨rfl,rfl⟩
theorem GL{X:af}{tv:Nat->Value}(h:cP w S F tv X (.Y .box cs) v){T:af}(e:∀b o,S b o\/X b o->T b o):qv w T (.ptr (dw cs)) v:=by
 obtain⟨f,Y,i,j,k,⟨g,o,a,l⟩,c⟩:=h;refine⟨g,o,co w .box v,a,λd n=>?_,c.freeze.mono ψ (λ_ _ h=>h)⟩
 grind [bU,co]
theorem bj.argVal(h:bj w0 M S0 N S φ F a w){av:AV}{X:af}(g:∀b o,X b o->oK S φ b o)(i:cP w S F (tvs a) X av v){K:Bool->RA->Prop}(j:jj F av (DT K)) :
  ∃b A,K b A/\qv w (oK S φ) A v/\(b=true->qv w S A v):=by
 obtain⟨p,k,Y,c,e,l⟩:=h.val i j;have f:∀b o,Y b o->oK S φ b o:=λb o n=>(l b o n).elim (g b o) .inr
 unfold DT at c;cases d:br k with
 | true=>
  rw[d]at c;exact⟨true,_,c,(e.bare d).mono (λ_ _ h=>.inl h) (λ_ _ h=>h),λ_=>e.bare d⟩
 | false=>
  rw[d]at c;exact⟨false,_,c,e.freeze.mono (λb o h=>h.elim .inl (f b o)) (λ_ _ h=>h),ψ⟩
variable{x:Operand}
theorem bj.argV(h:bj w0 M S0 N S φ F a w){K:Bool->RA->Prop}(c:Ab.argV F x K):∃b A,K b A/\qv w (oK S φ) A (a.eval x)/\(b=true->qv w S A (a.eval x)):=by
 have e:=h.ev x;have q:∀b o,Y9 φ x b o->oK S φ b o:=λb o d=>by
  cases x with
  | tmp t=>exact .inr ⟨t,d⟩
  | _=>exact d.elim
 unfold Ab.argV at c;cases i:oN F x with
 | Y k y=>
  rw[i]at c e;cases k with
  | box=>exact⟨false,_,c,GL e λb o d=>d.elim .inl (q b o),ψ⟩
  | one=>exact h.argVal q e (show jj F (.Y .one y) (DT K) from c)
  | agg=>exact h.argVal q e (show jj F (.Y .agg y) (DT K) from c)
  | tup L=>exact c.elim
 | c5 t l H O=>grind [bj.argVal]
 | ref t l H=>
  rw[i]at c e;simp only at c;split at c
  ·rename_i y C
   have B:=h.slot t;rw[C]at B;obtain⟨k,J,r,j,g,o,p,D,E,P⟩:=e;rw[C]at p;cases p;have G:a.eval x=tvs a t:=by
    obtain⟨Q,Y,-,-,-,⟨R,T,G,-⟩,-⟩:=B
    grind [plc,rp]
   rw[G];exact⟨false,_,c,GL B λb o d=>d.elim .inl (λd=>.inr ⟨t,d⟩),ψ⟩
  exact c.elim
 | iref r l=>
  rw[i]at c e;simp only at c;cases d:Nat.beq l 0 with
  | false=>grind
  | true=>
   rw[d]at c;have:=O3 d;subst this;have n:qv w S (.ptr r) (a.eval x):=by
    obtain⟨g,b,u,p,D,E⟩:=e;exact⟨g,b,u,by rw[p,Nat.add_zero],D,E⟩
   exact⟨true,_,c,n.keep (b8.rfl' _ _) (λ_ _ h=>.inl h),λ_=>n⟩
 | fv Ok=>
  rw[i]at c e;have n:qv w S (.fn Ok) (a.eval x):=e;exact⟨true,_,c,n.keep (b8.rfl' _ _) (λ_ _ h=>.inl h),λ_=>n⟩
 | fn f caps=>grind
 | dead=>grind
def bj.caps(h:bj w0 M S0 N S φ F a w):∀{cs:List Nat}{K:List RA->Prop},o9 F cs K->∃D,K D/\Aq w (oK S φ) D (cs.map (tvs a))
 | [],K,e=>⟨[],e,tV1⟩
 | c::cs,K,e=>by
  have p:=h.slot c;have f:∀(k:Kd)(xs:List C)(q:Option Nat),F c=.Y k xs->jj F (.Y k xs) (λi j=>i=q/\j=xs)->qv w (oK S φ) (.val q (dw xs)) (tvs a c):=λk xs q g r=>by
   rw[g]at p;obtain⟨i,j,Y,⟨rfl,rfl⟩,r,t⟩:=h.val p r;exact r.freeze.mono (λb o d=>d.elim .inl (λd=>(t b o d).elim (λd=>.inr ⟨c,d⟩) .inr)) (λ_ _ h=>h)
  simp only[o9]at e;split at e
  ·rename_i xs g
   obtain⟨D,l,n⟩:=bj.caps h e;rw[g]at p;exact⟨_,l,GL p (λb o d=>d.elim .inl λd=>.inr ⟨c,d⟩),n⟩
  ·rename_i xs g
   obtain⟨D,l,n⟩:=bj.caps h e;exact⟨_,l,f _ _ _ g ⟨rfl,rfl⟩,n⟩
  ·rename_i xs g
   obtain⟨D,l,n⟩:=bj.caps h e;exact⟨_,l,f _ _ _ g ⟨rfl,rfl⟩,n⟩
  exact e.elim
theorem bj.argA(h:bj w0 M S0 N S φ F a w){K:Bool->RA->Prop}(e:Ab.argA P F x K):∃b A,K b A/\qv w (oK S φ) A (a.eval x)/\(b=true->qv w S A (a.eval x)):=by
 unfold Ab.argA at e;split at e
 ·rename_i f caps g
  have l:=h.ev x;rw[g]at l;obtain⟨D,n,o⟩:=h.caps e;obtain⟨Q,p,q,r⟩:=n;refine⟨false,_,r,⟨oK S φ,w,λ_ _ h=>h,b8.rfl' _ _,f,caps.map (tvs a),l,p,λL k rcs t u y B d c i j=>?_⟩,ψ⟩;exact(q L k rcs t).run u y _ i (Aq.append j (Aq.keep c d o))
 exact h.argV e
def bj.args(h:bj w0 M S0 N S φ F a w):∀{xs:List Operand}{K:Bool->List RA->Prop},EZ P F xs K->∃b A,K b A/\Aq w (oK S φ) A (xs.map a.eval)/\(b=true->Aq w S A (xs.map a.eval))
 | [],K,c=>⟨true,[],c,tV1,λ_=>tV1⟩
 | x::xs,K,c=>by
  obtain⟨f,A,d,g,i⟩:=h.argA c;obtain⟨b,As,d,j,k⟩:=bj.args h d;refine⟨_,_,d,⟨g,j⟩,λe=>?_⟩;cases f with
  | false=>cases e
  | true=>exact⟨i rfl,k e⟩
def bj.argsV(h:bj w0 M S0 N S φ F a w):∀{xs:List Operand}{K:List (Option Nat × List C)->Prop},Ab.argsV F xs K->∃L,K L/\Aq w (oK S φ) (L.map λp=>.val p.1 p.2) (xs.map a.eval)
 | [],K,d=>⟨[],d,tV1⟩
 | x::xs,K,d=>by
  obtain⟨n,i,Y,e,g,j⟩:=h.val (h.ev x) d;obtain⟨L,e,k⟩:=bj.argsV h e;have f:∀b o,Y b o->oK S φ b o:=λb o c=>by
   rcases j b o c with c|c
   ·cases x with
    | tmp t=>exact .inr ⟨t,c⟩
    | _=>exact c.elim
   exact .inr c
  refine⟨_,e,?_,k⟩;cases l:br i with
  | true=>exact(g.bare l).mono (λ_ _ h=>.inl h) (λ_ _ h=>h)
  | false=>exact g.freeze.mono (λb o h=>h.elim .inl (f b o)) (λ_ _ h=>h)
variable{ts:Array TypeId}{f:Nat}{o:Oper}
theorem KV{args:Array Operand}(c:o.op=.call ⟨.value (.func f),args,ts⟩)(d:JY P f) :
  (execOp a.eval o).run P w=.ok (.enter f (args.map a.eval)) w:=by
 obtain⟨e,g,h,i⟩:=d;have b : ¬ e.name = "runtime.NumGoroutine" := by simpa using h
 simp[execOp,c,resolve,Act.eval,Deferred.ofValue,invoke,callFunc,g,b]
 grind
theorem xm{t:Nat}{args:Array Operand}{caps:List Value}(d:o.op=.call ⟨.value (.tmp t),args,ts⟩)(e:JY P f)(g:tvs a t=.func (.func f) #[] caps.toArray) :
  (execOp a.eval o).run P w=.ok (.enter f (args.toList.map a.eval++caps).toArray) w:=by
 obtain⟨h,i,j,l⟩:=e;have b : ¬ h.name = "runtime.NumGoroutine" := by simpa using j
 have c:a.tmps.getD t undef=.func (.func f) #[] caps.toArray:=g;have k:args.map a.eval++caps.toArray=(args.toList.map a.eval++caps).toArray:=ψ
 rw[<-k];simp[execOp,d,resolve,Act.eval,c,Deferred.ofValue,invoke,callFunc,i,b]
 grind
variable{rcs:List C}{vs:List Value}
theorem bj.enterG(h:bj w0 M S0 N S φ F a w){k:Kd}{sh:Bool}(c:(execOp a.eval o).run P w=.ok (.enter f vs.toArray) w){S2:af}(l:sh=true->∀b o,S2 b o->S b o)(n:Calls P f vs.toArray w λe w1=>∃v,e=.returned v/\bu NO w w1/\∃X S1:af,(∀b o,X b o->b<w1.heap.size/\w.heap.size<=b)/\
    (∀b o,S1 b o->(sh=true/\S2 b o)\/(b<w1.heap.size/\w.heap.size<=b))/\(∀b o,X b o->¬S1 b o)/\∃d Y:af,(∀b o,d b o->X b o)/\(∀b o,Y b o->X b o)/\(∀b o,d b o->¬Y b o)/\fZ w1 d k rcs.length v/\cw w1 S1 Y rcs (co w1 k v)):DS P o a w (mR w S F a (.Y k rcs)):=by
 refine DS.enter c ?_;refine n.mono λe w1 ⟨v,p,q,X,S1,r,t,D,d,Y,i,u,j,y,A⟩=>⟨v,p,q,X,λb o=>S b o\/S1 b o,r,λ_ _ h=>.inl h,λb o B=>?_,λb o B g=>?_,?_⟩
 ·grind
 ·rcases g with g|g
  ·have:=(h.sup b o g).1;grind
  grind
 exact⟨d,Y,i,u,j,y,A.mono ψ (λ_ _ h=>h)⟩
def bj.enter(h:bj w0 M S0 N S φ F a w){k:Kd}{sh:Bool}(c:(execOp a.eval o).run P w=.ok (.enter f vs.toArray) w){S2:af}(d:sh=true->∀b o,S2 b o->S b o)(g:Calls P f vs.toArray w λe w1=>∃v,e=.returned v/\bu NO w w1/\∃X S1:af,(∀b o,X b o->b<w1.heap.size/\w.heap.size<=b)/\
    (∀b o,S1 b o->(sh=true/\S2 b o)\/(b<w1.heap.size/\w.heap.size<=b))/\(∀b o,X b o->¬S1 b o)/\fZ w1 NO k rcs.length v/\cw w1 S1 X rcs (co w1 k v)):DS P o a w (mR w S F a (.Y k rcs)):=
 h.enterG c d (g.mono λ_ _ ⟨v,i,j,X,S1,l,n,p,q,r⟩=>⟨v,i,j,X,S1,l,n,p,NO,X,λ_ _ h=>h.elim,λ_ _ h=>h,λ_ _ h=>h.elim,q,r⟩)
def bj.all_lt(h:bj w0 M S0 N S φ F a w):(∀b o,oK S φ b o->b<w.heap.size)/\Tb w (oK S φ):=⟨λb o d=>d.elim (λc=>(h.sup b o c).1) (λ⟨t,c⟩=>(h.ex t b o c).1),h.par.2.keep (Cj NO w) (λ_ _ h=>h.elim) (λ_ _ h=>.inl h)⟩
variable{K:AV->Prop}
theorem bj.call(h:bj w0 M S0 N S φ F a w){args:Array Operand}(l:o.op=.call ⟨.value (.func f),args,ts⟩)(n:P3 P F f args.toList K) :
  ∃av,K av/\DS P o a w (mR w S F a av):=by
 obtain⟨b,A,e,p,q⟩:=h.args n;obtain⟨t,k,rcs,g,i,r⟩:=e.out;have d:args.map a.eval=(args.toList.map a.eval).toArray:=ψ
 have c:=KV (a:=a) (w:=w) l g.1;rw[d]at c;refine⟨_,r,?_⟩;rcases i with rfl|j
 ·exact h.enterG c (S2:=oK S φ) ψ (g.2 w _ _ h.all_lt p)
 exact h.enterG c (S2:=S) (λ_ _ _ h=>h) (g.2 w S _ ⟨λb o j=>(h.sup b o j).1,h.par.2⟩ (q j))
theorem bj.callT(h:bj w0 M S0 N S φ F a w){t:Nat}{args:Array Operand}(n:o.op=.call ⟨.value (.tmp t),args,ts⟩)(c:oc P F t args.toList K) :
  ∃av,K av/\DS P o a w (mR w S F a av):=by
 have d:=h.slot t;unfold oc at c;split at c
 ·rename_i f caps e
  rw[e]at d;obtain⟨b,A,c,g,-⟩:=h.args c;obtain⟨D,i,q⟩:=h.caps c;obtain⟨sh,k,rcs,p,r,j⟩:=i.out;have l:sh=false:=ψ
  subst l;exact⟨_,j,h.enterG (xm n p.1 d) (S2:=oK S φ) ψ (p.2 w _ _ h.all_lt (Aq.append g q))⟩
 ·rename_i Ok e
  rw[e]at d;obtain⟨L,u,g⟩:=h.argsV c;obtain⟨Q,k,rcs,rfl,y,j⟩:=u;obtain⟨S1,w1,B,C,f,caps,E,G,H⟩:=d;exact⟨_,j,h.enter (xm n G E) (S2:=oK S φ) (sh:=false) ψ (H L k rcs y w _ _ (λb o J=>.inl (B b o J)) C h.all_lt g)⟩
 exact c.elim
def FT:List (Option Nat)->Nat->Option (Nat × Option Nat)
 | [],_=>none
 | a::_,0=>some (0,a)
 | a::b,i+1=>(FT b i).map λp=>(a.getD 1+p.1,p.2)
def kP(F:Nat->AV)(x:Operand)(i:Nat)(K:AV->Prop):Prop:=
 match x with
 | .tmp t=>match F t with
  | .Y (.tup sh) b=>match FT sh i with
   | some (s,a)=>bif br (bP b s (a.getD 1)) then K (.Y (kZ a) (bP b s (a.getD 1))) else K (.c5 t s [] a)
   | none=>False
  | _=>False
 | _=>False
def tL(ag:Option Nat)(sh:List (Option Nat)):uN (ag::sh)=ag.getD 1+uN sh:=by cases ag<;>rfl
theorem LY{sh:List (Option Nat)}(h:yd (ag::sh) (v::vs)):v.cells.toList.length=ag.getD 1/\(v=mkv ag λj=>v.cells.toList.getD j undef)/\yd sh vs:=by
 cases ag with
 | none=>
  have a:v.cells = #[v]:=h.1;exact⟨by rw[a];rfl,by rw[a];rfl,h.2⟩
 | some n=>
  obtain⟨⟨arr,rfl,b⟩,c⟩:=h
  grind [pR,Go.Value.cells]
def Tm:∀{sh:List (Option Nat)}{vs:List Value}{i s:Nat}{ag:Option Nat},yd sh vs->FT sh i=some (s,ag)->
  ∃v,vs[i]? = some v/\s+ag.getD 1<=uN sh/\v=mkv ag λj=>(vs.flatMap λv=>v.cells.toList).getD (s+j) undef
 | [],_,i,s,ag,_,a=>by cases a
 | ag0::sh,[],i,s,ag,h,_=>by cases ag0<;>exact h.elim
 | ag0::sh,c::vs,i,s,ag,h,a=>by
  obtain⟨k,d,e⟩:=LY h;cases i with
  | zero=>
   simp only[FT,O1,Prod.mk.injEq]at a;obtain⟨rfl,rfl⟩:=a;refine⟨c,rfl,by rw[tL];omega,d.trans (ko λj l=>?_)⟩;simp only[CD,OD,List.getD];rw[Z8 ω]
  | succ i=>
   simp only[FT]at a;cases b:FT sh i with
   | none=>rw[b]at a;cases a
   | some p=>
    rw[b]at a;simp only[IA,O1,Prod.mk.injEq]at a;obtain⟨rfl,rfl⟩:=a;obtain⟨v,f,n,g⟩:=Tm e (show FT sh i=some (p.1,p.2) from b);refine⟨v,by simpa using f,by rw[tL];omega,g.trans (ko λj _=>?_)⟩;simp only[CD,List.getD];rw[C9 ω]
    congr 2
    omega
theorem bj.extract(h:bj w0 M S0 N S φ F a w){i:Nat}(b:kP F x i K) :
  ∃av v,K av/\(Instr.extract (a.eval x) i).run P w=.ok v w/\cP w S F (tvs a) NO av v:=by
 cases x with
 | tmp t=>
  have o:=h.slot t;show ∃av v,K av/\(Instr.extract (tvs a t) i).run P w=.ok v w/\_
  simp only[kP]at b;cases q:F t with
  | Y k e=>
   rw[q]at b o;cases k with
   | tup f=>
    simp only at b;obtain⟨E,Y,G,H,J,⟨y,r,A,L⟩,B⟩:=o;cases d:FT f i with
    | none=>grind
    | some p=>
     obtain⟨s,g⟩:=p;rw[d]at b;simp only at b;obtain⟨v,C,D,l⟩:=Tm A d;have c:(Instr.extract (tvs a t) i).run P w=.ok v w:=by
      have:y[i]? = some v:=ψ
      simp[r,Instr.extract,this]
     have u:v=mkv g λj=>co w (.tup f) (tvs a t) (s+j):=by rw[l,r];rfl
     cases n:br (bP e s (g.getD 1)) with
     | true=>
      rw[n]at b;refine⟨_,v,b,c,bm.slot ⟨by simp[bP];omega,_,u,?_⟩⟩;exact(B.part s (g.getD 1)).bare n
     | false=>
      rw[n]at b;exact⟨_,v,b,c,.tup f,e,e,s,q,rfl,ω,u⟩
   | _=>exact b.elim
  | _=>grind
 | _=>exact b.elim
inductive Es(x:ByteArray)(K:ByteArray->Prop):Prop
 |mk_ (h:∃z,x=z/\K z)
theorem Es.mk{x z:ByteArray}{K:ByteArray->Prop}(h:x=z)(a:K z):Es x K:=by refine .mk_ ?_;grind
def Es.out{x:ByteArray}{K:ByteArray->Prop}(h:Es x K):∃z,x=z/\K z:=by obtain⟨h⟩:=h;exact h
def HY(TE:Nat->Option TI)(c:BinOp)(T:Nat)(d e:Value)(K:Value->Prop):Prop:=
 match d,e with
 | .bool a,.bool b=>(match TE T with
   | some ⟨_,_,_,.sc .bool⟩=>(match c with
     | .eql=>K (.bool (a == b))
     | .neq=>K (.bool (a != b))
     | _=>False)
   | _=>False)
 | .string a,.string b=>(match c with
   | .eql=>K (.bool (a.toList == b.toList))
   | .neq=>K (.bool (!(a.toList == b.toList)))
   | .add=>Cd (((a.size+b.size:Nat):Int)<=9223372036854775807) (Es (a++b) λz=>K (.string z))
   | _=>False)
 | d,e=>Gv c d e K
variable{y:Operand}{T:Nat}{TE:Nat->Option TI}
theorem RD(e:∀t i,TE t=some i->ix P t i){d:BinOp}{f g:Value}{K:Value->Prop}(c:HY TE d T f g K):∃v,K v/\v.oneCell'=true/\(do eqGuard d T x y f g;binOp d T f g:Sem Value).run P w=.ok v w:=by
 unfold HY at c;split at c
 ·rename_i a b
  split at c
  case h_2=>exact c.elim
  rename_i k;have l:P.underlying T=some .bool:=(e _ _ k).2.2.1;have h:(eqGuard d T x y (.bool a) (.bool b)).run P w=.ok () w:=by
   unfold eqGuard;split<;>rfl
  rw[Sem.run_bind,h];have n:(Op.equal T (.bool a) (.bool b)).run P w=.ok (a == b) w:=by
   unfold Op.equal;rw[show Op.maxDepth=(Op.maxDepth - 1)+1 from rfl,Op.equalIn];rw[Sem.run_bind,run_underlying l]
   rfl
  cases d<;>simp only at c<;>try exact c.elim
  case eql=>exact⟨_,c,rfl,by grind [Go.Result.andThen_ok,Go.Sem.run_bind,Go.Sem.run_pure,Go.binOp]⟩
  case neq=>exact⟨_,c,rfl,by grind [Go.Result.andThen_ok,Go.Sem.run_bind,Go.Sem.run_pure,Go.binOp]⟩
 ·rename_i a b
  have h:(eqGuard d T x y (.string a) (.string b)).run P w=.ok () w:=by
   unfold eqGuard;split<;>rfl
  rw[Sem.run_bind,h];cases d<;>simp only at c<;>try exact c.elim
  case eql=>exact⟨_,c,rfl,by simp[binOp,Op.stringOp]⟩
  case neq=>exact⟨_,c,rfl,by simp[binOp,Op.stringOp]⟩
  case add=>
   obtain⟨o,j⟩:=c.out;obtain⟨z,rfl,j⟩:=j.out;refine⟨_,j,rfl,?_⟩;have:¬((a.size+b.size:Nat):Int) > IntKind.i64.max:=by simp_all
   simp only[Result.andThen_ok,binOp,Op.stringOp];rw[CI this]
   rfl
 exact Uk c
inductive Nn(rows:List (List C))(K:Prop):Prop
 |mk_ (h:rows≠[]/\K)
variable{rows:List (List C)}
def Nn.mk{K:Prop}(h:rows≠[])(a:K):Nn rows K:=by refine .mk_ ?_;exact⟨h,a⟩
theorem Nn.out{K:Prop}(h:Nn rows K):rows≠[]/\K:=by obtain⟨h⟩:=h;exact h
def Wd:Operand->Bool
 | .const (.slice none 0 0)=>true
 | _=>false
def AF(a:BinOp)(y:Operand):Bool:=
 match a with
 | .eql=>Wd y
 | _=>false
def LQ(TE:Nat->Option TI)(F:Nat->AV)(T:Nat)(x:Operand)(K:AV->Prop):Prop:=
 match TE T with
 | some ⟨_,_,_,.sl _⟩=>jj F (oN F x) λa b=>match a,b with
  | none,[.s _ rows]=>Nn rows (K (.Y .one [.v (.bool false)]))
  | none,[.v (.slice A _ _)]=>K (.Y .one [.v (.bool A.isNone)])
  | _,_=>False
 | _=>False
theorem P9{a:BinOp}(h:AF a y=true):a=.eql/\y=.const (.slice none 0 0):=by grind [AF,Wd]
theorem cU.slice_some{w:World}{S F:af}{o:ek}(h:cU w S F (.s o rows) v)(b:rows≠[]):∃ad cap,v=.slice (some ad) rows.length cap:=by
 generalize a:C.s o rows=c at h;cases h with
 | v=>cases a
 | x=>cases a
 | hd=>cases a
 | z=>cases a
 | m=>cases a
 | it=>cases a
 | nil=>grind
 | own=>grind
 | suf=>simp_all
 | R=>simp_all
def cU.val_v{w:World}{S F:af}{y:Value}(h:cU w S F (.v y) v):v=y:=by
 generalize a:C.v y=c at h;cases h with
 | v=>cases a;rfl
 | _=>cases a
theorem bj.nilq(h:bj w0 M S0 N S φ F a w)(g:∀t i,TE t=some i->ix P t i)(e:LQ TE F T x K) :
  ∃b:Bool,K (.Y .one [.v (.bool b)])/\(do eqGuard .eql T x (.const (.slice none 0 0)) (a.eval x) (.slice none 0 0);binOp .eql T (a.eval x) (.slice none 0 0):Sem Value).run P w=.ok (.bool b) w:=by
 unfold LQ at e;split at e
 ·rename_i q
  have r:=(g _ _ q).2.2;have run:∀(A:Option Addr)(n c:Nat),(do eqGuard .eql T x (.const (.slice none 0 0)) (.slice A n c) (.slice none 0 0);binOp .eql T (.slice A n c) (.slice none 0 0):Sem Value).run P w=.ok (.bool A.isNone) w:=λA n c=>by
   have y:(eqGuard .eql T x (.const (.slice none 0 0)) (.slice A n c) (.slice none 0 0)).run P w=.ok () w:=by
    unfold eqGuard;split<;>rfl
   rw[Sem.run_bind,y];have G:(Op.equal T (.slice A n c) (.slice none 0 0)).run P w=.ok A.isNone w:=by
    unfold Op.equal;rw[show Op.maxDepth=(Op.maxDepth - 1)+1 from rfl,Op.equalIn];rw[Sem.run_bind,run_underlying r];cases A<;>rfl
   grind [Go.Result.andThen_ok,Go.Sem.run_bind,Go.Sem.run_pure,Go.binOp]
  obtain⟨B,C,Y,d,⟨H,u,l,f,p,-⟩,-⟩:=h.val (h.ev x) e
  match B,C,d with
  | none,[.s o rows],d=>
   obtain⟨j,d⟩:=d.out;obtain⟨D,k,E⟩:=(p 0 _ rfl).slice_some j;have:a.eval x=.slice (some D) rows.length k:=l.trans E;rw[this];exact(ψ)
  | none,[.v (.slice A n c)],d=>
   have:a.eval x=.slice A n c:=l.trans (p 0 _ rfl).val_v;rw[this];exact(ψ)
 exact e.elim
structure Y5(P:Program)(op:BinOp)(T:Nat)(vs us:List Value)(r:Bool):Prop where
 run:∀(x y:Operand)(w:World),(do eqGuard op T x y (.agg vs.toArray) (.agg us.toArray);binOp op T (.agg vs.toArray) (.agg us.toArray):Sem Value).run P w=.ok (.bool r) w
inductive X4(P:Program)(op:BinOp)(T:Nat)(vs us:List Value)(K:Bool->Prop):Prop
 |mk_ (h:∃r,Y5 P op T vs us r/\K r)
variable{b:List Value}
theorem X4.mk{P:Program}{a:BinOp}{K:Bool->Prop}{r:Bool}(h:Y5 P a T vs b r)(c:K r):X4 P a T vs b K:=by refine .mk_ ?_;grind
def X4.out{P:Program}{a:BinOp}{K:Bool->Prop}(h:X4 P a T vs b K):∃r,Y5 P a T vs b r/\K r:=by obtain⟨h⟩:=h;exact h
def XI:List C->(List Value->Prop)->Prop
 | [],K=>K []
 | .v x::cs,K=>XI cs λl=>K (x::l)
 | _,_=>False
theorem R0:∀(l:List Value){K:List Value->Prop},K l->XI (l.map C.v) K
 | [],_,h=>h
 | x::l,K,h=>R0 l (K:=λl=>K (x::l)) h
theorem rC:∀{cs:List C}{K:List Value->Prop},XI cs K->∃l,K l/\cs=l.map C.v
 | [],K,h=>⟨[],h,rfl⟩
 | .v x::cs,K,h=>by
  obtain⟨l,a,b⟩:=rC (cs:=cs) h
  grind
 | .s _ _::_,_,h=>h.elim
 | .x::_,_,h=>h.elim
 | .z::_,_,h=>h.elim
 | .m _::_,_,h=>h.elim
 | .it _ _::_,_,h=>h.elim
def isAgg(F:Nat->AV)(x:Operand):Bool:=
 match x with
 | .tmp t=>(match F t with|.Y .agg _=>true|_=>false)
 | _=>false
def Mv(P:Program)(F:Nat->AV)(a:BinOp)(T:Nat)(x y:Operand)(K:AV->Prop):Prop:=
 jj F (oN F x) λb c=>jj F (oN F y) λag2 ds=>match b,ag2 with
  | some _,some _=>XI c λd=>XI ds λe=>X4 P a T d e λr=>K (.Y .one [.v (.bool r)])
  | _,_=>False
theorem Uh{S Y:af}{n:Nat}{l:List Value}(h:bm w S Y (some n) (l.map C.v) v):v=.agg l.toArray:=by
 obtain⟨b,u,c,f,d,-⟩:=h;have g:l.length=n:=by simpa using b
 rw[c];show Value.agg ((List.range n).map u).toArray=_
 congr 2
 apply List.ext_getElem?;intro j;rw[Z5];by_cases e:j<n
 ·have a:j<l.length:=ω
  have i:=d j (.v l[j]) ψ;rw[ID e,Z3 a];have key:∀(Z:af)(y z:Value),cU w S Z (.v y) z->z=y:=λZ y z h=>by cases h;rfl
  grind
 grind
def bj.eqs(h:bj w0 M S0 N S φ F a w){b:BinOp}(e:Mv P F b T x y K) :
  ∃r,K (.Y .one [.v (.bool r)])/\(do eqGuard b T x y (a.eval x) (a.eval y);binOp b T (a.eval x) (a.eval y):Sem Value).run P w=.ok (.bool r) w:=by
 unfold Mv at e;obtain⟨i,u,Y,j,f,-⟩:=h.val (h.ev x) e;obtain⟨ag2,ds,A,c,g,-⟩:=h.val (h.ev y) j
 match i,ag2,c with
 | some n,some m,d=>
  obtain⟨B,k,l⟩:=rC d;obtain⟨C,o,p⟩:=rC k;obtain⟨r,q,t⟩:=o.out;rw[l]at f;rw[p]at g;refine⟨r,t,?_⟩;rw[Uh f,Uh g];exact q.run x y w
def N4:List Operand->(List Nat->Prop)->Prop
 | [],K=>K []
 | .tmp t::xs,K=>N4 xs λl=>K (t::l)
 | _,_=>False
theorem KB:∀(l:List Nat){K:List Nat->Prop},K l->N4 (l.map .tmp) K
 | [],_,h=>h
 | t::l,K,h=>KB l (K:=λl=>K (t::l)) h
theorem tt:∀{xs:List Operand}{K:List Nat->Prop},N4 xs K->∃l,K l/\xs=l.map .tmp
 | [],K,h=>⟨[],h,rfl⟩
 | .tmp t::xs,K,h=>by
  obtain⟨l,a,b⟩:=tt (xs:=xs) h
  grind
 | .const _::_,_,h=>h.elim
 | .global _::_,_,h=>h.elim
 | .func _::_,_,h=>h.elim
def dq(P:Program)(TE:Nat->Option TI)(F:Nat->AV)(o:Op)(K:AV->Prop):Prop:=
 match o with
 | .move x=>bN F x K
 | .assign x=>bN F x K
 | .nilCheck x=>(match x with|.tmp t=>(match F t with|.ref ..=>bN F x K|.iref ..=>bN F x K|.Y .box _=>bN F x K|_=>False)|_=>False)
 | .load T x=>xM TE F T x K
 | .fieldAddr T x f=>jf TE F T x f K
 | .indexAddr T x y=>jg TE F T x y K
 | .binOp op T x y _=>bif AF op y then LQ TE F T x K else bif isAgg F x then Mv P F op T x y K else JE F x λa=>JE F y λg=>HY TE op T a g λv=>K (.Y .one [.v v])
 | .unOp op _ x=>JE F x λa=>VS op a λv=>K (.Y .one [.v v])
 | .pick c x y=>Ni F c x y K
 | .alloc T=>Ak TE T K
 | .box _ x=>Vn F x K
 | .extract x i=>kP F x i K
 | .build T ps=>wt TE F T ps.toList K
 | .buildSlice T n ps=>yV TE F T n ps.toList K
 | .makeSlice T x y=>Px TE F T x y K
 | .makeFunc fn fs cs=>(match fn,fs.toList with|.func f,[]=>N4 cs.toList λl=>K (.fn f l)|_,_=>False)
 | .makeMap T r=>vY TE T r K
 | .lookup T x y ok=>AZ TE F T x y ok K
 | .slice T x d e h=>(match h with|none=>qA TE F T x d e K|some m=>(match d,e with|none,some y=>VO TE F T x y m K|_,_=>False))
 | .field T x f=>tn TE F T x f K
 | .index T x y=>Nb TE F T x y K
 | .convert T1 b x=>zw TE F T1 b x K
 | .call c=>match c.callee with
  | .value (.func f)=>P3 P F f c.args.toList K
  | .value (.tmp t)=>oc P F t c.args.toList K
  | .builtin .len=>(match c.args.toList,c.argTypes.toList with|[x],[T]=>ML TE F T x K|_,_=>False)
  | .builtin .append=>(match c.args.toList,c.argTypes.toList with|[x,y],[T,b]=>bif Nat.beq T b then NK TE F T x y K else False|_,_=>False)
  | .builtin .min=>(match c.args.toList with|[x,y]=>XY false F x y K|_=>False)
  | .builtin .max=>(match c.args.toList with|[x,y]=>XY true F x y K|_=>False)
  | _=>False
 | _=>False
theorem bj.pure_(h:bj w0 M S0 N S φ F a w)(A:∀t i,TE t=some i->ix P t i)(d:dq P TE F o.op K):∃av,K av/\DS P o a w (mR w S F a av):=by
 cases p:o.op with
 | move x=>rw[p]at d;obtain⟨av,e,B⟩:=h.move d;exact⟨av,e,.same (by simp[execOp,p]) B⟩
 | assign x=>rw[p]at d;obtain⟨av,e,B⟩:=h.move d;exact⟨av,e,.same (by simp[execOp,p]) B⟩
 | nilCheck x=>
  rw[p]at d;cases x with
  | tmp t=>
   have D:=h.slot t;simp only[dq]at d;have J:bN F (.tmp t) K/\∃O,a.eval (.tmp t)=.pointer (some O):=by
    show _/\∃O,tvs a t=_
    cases Q:F t with
    | Y k R=>
     rw[Q]at d D;cases k with
     | box=>obtain⟨X1,Y,-,-,-,⟨g,b,V,-⟩,-⟩:=D;grind
     | _=>exact d.elim
    | ref=>rw[Q]at d D;obtain⟨k,R,r,j,g,b,-,-,-,V⟩:=D;grind
    | iref=>rw[Q]at d D;obtain⟨g,b,u,V,-⟩:=D;grind
    | _=>grind
   obtain⟨hm,O,U⟩:=J;obtain⟨av,e,B⟩:=h.move hm;exact⟨av,e,.same (v:=a.eval (.tmp t)) (by simp[execOp,p,U]) B⟩
  | _=>exact d.elim
 | load T x=>rw[p]at d;obtain⟨av,v,e,q,B⟩:=h.load A d;exact⟨av,e,.same (by simp[execOp,p,q]) B⟩
 | fieldAddr T x f=>rw[p]at d;obtain⟨av,v,e,q,B⟩:=h.fieldAddr A d;exact⟨av,e,.same (by simp[execOp,p,q]) B⟩
 | indexAddr T x y=>rw[p]at d;obtain⟨av,v,e,q,B⟩:=h.indexAddr A d;exact⟨av,e,.same (by simp[execOp,p,q]) B⟩
 | binOp W T x y yT=>
  rw[p]at d;simp only[dq]at d;cases G:AF W y with
  | true=>
   rw[G]at d;obtain⟨rfl,rfl⟩:=P9 G;obtain⟨b,e,q⟩:=h.nilq A d;refine⟨_,e,.same (v:=.bool b) ?_ (jS rfl)⟩;simp only[execOp,p];rw[Sem.run_bind];have E:a.eval (.const (.slice none 0 0))=.slice none 0 0:=rfl
   simp_all
  | false=>
   rw[G]at d;cases X:isAgg F x with
   | true=>
    rw[X]at d;obtain⟨r,e,q⟩:=h.eqs d;refine⟨_,e,.same (v:=.bool r) ?_ (jS rfl)⟩;simp only[execOp,p];rw[Sem.run_bind,q]
    rfl
   | false=>
   rw[X]at d;obtain⟨H,-⟩:=h.scalar d;obtain⟨hy,-⟩:=h.scalar H;obtain⟨v,e,C,q⟩:=RD (P:=P) (w:=w) A (T:=T) (x:=x) (y:=y) hy;refine⟨_,e,.same (v:=v) ?_ (jS C)⟩;simp only[execOp,p];rw[Sem.run_bind,q]
   rfl
 | unOp W T x=>
  rw[p]at d;obtain⟨H,-⟩:=h.scalar d;obtain⟨v,e,C,q⟩:=UF (P:=P) (w:=w) H;exact⟨_,e,.same (v:=v) (by simp[execOp,p,q]) (jS C)⟩
 | pick c x y=>
  rw[p]at d;obtain⟨av,b,e,G,B⟩:=h.pick d;exact⟨av,e,.same (v:=if b then a.eval x else a.eval y) (by simp[execOp,p,G,asBool]) B⟩
 | alloc T=>rw[p]at d;obtain⟨av,v,w1,e,q,B⟩:=h.alloc A d;exact⟨av,e,.value (by simp[execOp,p,q]) B⟩
 | box T x=>rw[p]at d;obtain⟨av,v,w1,e,q,B⟩:=h.box (P:=P) (T:=T) d;exact⟨av,e,.value (by simp[execOp,p,q]) B⟩
 | extract x i=>rw[p]at d;obtain⟨av,v,e,q,B⟩:=h.extract (P:=P) d;exact⟨av,e,.same (by simp[execOp,p,q]) B⟩
 | build T ps=>rw[p]at d;obtain⟨av,v,e,q,B⟩:=h.build A d;exact⟨av,e,.same (by simp only[execOp,p];simp_all) B⟩
 | buildSlice T n ps=>rw[p]at d;obtain⟨av,v,w1,e,q,B⟩:=h.buildS A d;exact⟨av,e,.value (by simp only[execOp,p];simp_all) B⟩
 | makeMap T r=>rw[p]at d;obtain⟨av,v,w1,e,q,B⟩:=h.makeMap A d;exact⟨av,e,.value (by simp[execOp,p,q]) B⟩
 | lookup T x y ok=>rw[p]at d;obtain⟨v,e,C,q⟩:=h.look A d;exact⟨_,e,.same (v:=v) (by simp[execOp,p,q]) (jS C)⟩
 | makeSlice T x y=>rw[p]at d;obtain⟨av,v,w1,e,q,B⟩:=h.make A d;exact⟨av,e,.value (by simp[execOp,p,q]) B⟩
 | slice T x lo hi mx=>
  rw[p]at d;cases mx with
  | none=>obtain⟨av,v,e,q,B⟩:=h.slice A d;exact⟨av,e,.same (by simp only[execOp,p];simp_all) B⟩
  | some m=>
   cases lo with
   | some _=>exact d.elim
   | none=>
    cases hi with
    | none=>exact d.elim
    | some y=>obtain⟨v,e,q,B⟩:=h.slice0 A d;exact⟨_,e,.same (by simp only[execOp,p];simp_all) B⟩
 | field T x f=>rw[p]at d;obtain⟨av,v,e,q,B⟩:=h.field A d;exact⟨av,e,.same (by simp[execOp,p,q]) B⟩
 | index T x y=>rw[p]at d;obtain⟨v,e,C,q⟩:=h.idx A d;exact⟨_,e,.same (v:=v) (by simp[execOp,p,q]) (jS C)⟩
 | convert T1 Z x=>rw[p]at d;obtain⟨v,e,C,q⟩:=h.conv A d;exact⟨_,e,.same (v:=v) (by simp[execOp,p,q]) (jS C)⟩
 | makeFunc fn fs R=>
  rw[p]at d;simp only[dq]at d;split at d
  ·rename_i f hfs
   obtain⟨l,e,hl⟩:=tt d;have E:fs = #[]:=ψ
   have L:R.map a.eval=(l.map (tvs a)).toArray:=by
    apply Array.ext';rw[Array.toList_map,hl,List.map_map]
    rfl
   subst E;exact⟨_,e,.same (v:=.func (.func f) #[] (l.map (tvs a)).toArray) (by simp[execOp,p,Instr.makeFunc,L]) rfl⟩
  exact d.elim
 | call c=>
  rw[p]at d;obtain⟨callee,args,ts⟩:=c;simp only[dq]at d;split at d
  ·exact h.call p d
  ·exact h.callT p d
  ·split at d
   ·rename_i x T H hT
    obtain⟨v,e,C,q⟩:=h.len (ty:=o.type) A d;have E:args = #[x]:=ψ
    have L:ts = #[T]:=ψ
    subst E L;refine⟨_,e,.same (v:=v) ?_ (jS C)⟩;simp[execOp,p,resolve,invoke,builtin,q]
   exact d.elim
  ·split at d
   ·rename_i x y T Z H hT
    cases G:Nat.beq T Z with
    | false=>grind
    | true=>
     rw[G]at d;have:=O3 G;subst this;obtain⟨av,v,w1,e,q,B⟩:=h.appP (ty:=o.type) A d;have E:args = #[x,y]:=ψ
     have L:ts = #[T,T]:=ψ
     subst E L;exact⟨av,e,.value (by simp[execOp,p,resolve,invoke,builtin,q]) B⟩
   exact d.elim
  ·split at d
   ·rename_i x y H
    obtain⟨v,e,C,q⟩:=h.mm (P:=P) (ts:=ts) (ty:=o.type) d;have E:args = #[x,y]:=ψ
    subst E;refine⟨_,e,.same (v:=v) ?_ (jS C)⟩;simp only[Bool.false_eq_true,if_false]at q;simp[execOp,p,resolve,invoke,builtin,q]
   exact d.elim
  ·split at d
   ·rename_i x y H
    obtain⟨v,e,C,q⟩:=h.mm (P:=P) (ts:=ts) (ty:=o.type) d;have E:args = #[x,y]:=ψ
    subst E;refine⟨_,e,.same (v:=v) ?_ (jS C)⟩;simp only[if_true]at q;simp[execOp,p,resolve,invoke,builtin,q]
   exact d.elim
  exact d.elim
 | _=>rw[p]at d;exact d.elim
end
inductive Lq(bs:List C)(off:Nat)(st:cN)(n:Nat)(K:List C->List C->Prop):Prop
 |mk_ (h:∃r j cs bs',cr bs off st=some (r,j)/\lH bs off st/\j+n<=r.length/\cs=bP r j n/\bs'=gh bs off st (splice r j (List.replicate n .x))/\K cs bs')
variable{r cs a:List C}{rows:List (List C)}{o:ek}{off j:Nat}
theorem Lq.one{b:List C}{i k n:Nat}{K:List C->List C->Prop}(h1:b[off]? = some (.s o rows))(c:o.mine=true)(h2:rows[i]? = some r)(f:r.length=k)(g:j+n<=k)(h:cs=bP r j n)(l:a=b.set off (.s o (rows.set i (splice r j (List.replicate n .x)))))(p:K cs a):Lq b off [(i,k,j)] n K:=by
 have d:o≠.R:=λe=>by subst e;cases c
 refine .mk_ ?_
 grind [cr,lH,gh]
variable{st:cN}
theorem Lq.out{n:Nat}{K:List C->List C->Prop}(h:Lq a off st n K):∃r j,cr a off st=some (r,j)/\lH a off st/\j+n<=r.length/\K (bP r j n) (gh a off st (splice r j (List.replicate n .x))):=by
 obtain⟨h⟩:=h;grind
def U6(t:Nat):AV->AV
 | .c5 t' off (s::st) ag=>bif Nat.beq t' t then .dead else .c5 t' off (s::st) ag
 | .c5 t' off [] ag=>.c5 t' off [] ag
 | .ref t' off (s::st)=>bif Nat.beq t' t then .dead else .ref t' off (s::st)
 | .ref t' off []=>.ref t' off []
 | .Y k cs=>.Y k cs
 | .iref r off=>.iref r off
 | .fn f caps=>.fn f caps
 | .fv Ok=>.fv Ok
 | .dead=>.dead
def updN(F:Nat->AV)(t:Nat)(k:Kd)(cs:List C):Nat->AV:=λs=>bif Nat.beq s t then .Y k cs else U6 t (F s)
theorem xg(F:Nat->AV)(t:Nat)(k:Kd)(cs:List C):updN F t k cs t=.Y k cs:=by simp[updN]
variable{t:Nat}
theorem BC(F:Nat->AV){s:Nat}(k:Kd)(cs:List C)(h:s≠t):updN F t k cs s=U6 t (F s):=by grind [Nat.beq_eq,updN]
def VX(F:Nat->AV)(t:Nat)(k:Kd)(cs:List C):Nat->AV:=match k with
 | .box=>updH F t .box cs
 | .one=>updN F t .one cs
 | .agg=>updN F t .agg cs
 | .tup l=>updN F t (.tup l) cs
variable{F:Nat->AV}
theorem rR{a:Nat}{f:Kd}{cs2:List C}(h:updH F t k cs a=.Y f cs2):updN F t k cs a=.Y f cs2:=by
 by_cases e:a=t
 ·grind [jw,xg]
 rw[ig _ _ _ e]at h;rw[BC _ _ _ e];cases b:F a with
 | Y i cs3=>rw[b]at h;exact h
 | c5 g c d j=>grind [wc]
 | ref g c d=>
  rw[b]at h;cases d with
  | nil=>cases h
  | cons s d=>grind [wc]
 | _=>rw[b]at h;cases h
theorem EA(cs:List C)(off:Nat)(s:Nat × Nat × Nat)(st:cN)(r:List C):(gh cs off (s::st) r).length=cs.length:=by grind [gh]
def gX(F:Nat->AV)(y:Operand)(K:(Nat->AV)->Option Nat->List C->Prop):Prop:=
 match y with
 | .tmp t=>match F t with
  | .Y .one a=>K (updH F t .one (splice a 0 (List.replicate a.length .x))) none a
  | .Y .agg a=>K (updH F t .agg (splice a 0 (List.replicate a.length .x))) (some a.length) a
  | .c5 c b [] ag=>(match F c with
    | .Y k a=>bif Nat.ble (b+ag.getD 1) a.length then K (updN F c k (splice a b (List.replicate (ag.getD 1) .x))) ag (bP a b (ag.getD 1)) else False
    | _=>False)
  | .c5 c b (s::st) ag=>(match F c with
    | .Y k a=>Lq a b (s::st) (ag.getD 1) λxs d=>K (updN F c k d) ag xs
    | _=>False)
  | _=>False
 | _=>False
def bV(N:fF)(F:Nat->AV)(d:Nat)(av:AV)(K:(Nat->AV)->Prop):Prop:=bif N.free d&&!av.uses d then K (put F d av) else False
def fF.al(N:fF)(d:Nat):Bool:=N.mo.any λp=>Nat.beq p.1 (1000000+d)
def lM(N:fF)(F:Nat->AV)(d:Nat)(x:Operand)(K:(Nat->AV)->Prop):Prop:=
 match x with
 | .tmp t=>match F t with
  | .c5 ..=>bif N.al d then bN F x λa=>bV N F d a K else gX F x λc e b=>bV N c d (.Y (kZ e) b) K
  | .Y .one b=>bif br b then bN F x λa=>bV N F d a K else gX F x λc e b=>bV N c d (.Y (kZ e) b) K
  | .Y .agg b=>bif br b then bN F x λa=>bV N F d a K else gX F x λc e b=>bV N c d (.Y (kZ e) b) K
  | _=>bN F x λa=>bV N F d a K
 | x=>bN F x λa=>bV N F d a K
inductive Pu(bs:List C)(off:Nat)(st:cN)(xs:List C)(K:List C->Prop):Prop
 |mk_ (h:∃r j bs',cr bs off st=some (r,j)/\lH bs off st/\j+xs.length<=r.length/\bs'=gh bs off st (splice r j xs)/\K bs')
variable{K:List C->Prop}{xs:List C}
theorem Pu.mk{b:List C}(h1:cr b off st=some (r,j))(h2:lH b off st)(c:j+xs.length<=r.length)(d:a=gh b off st (splice r j xs))(e:K a):Pu b off st xs K:=by
 refine .mk_ ?_;grind
theorem Pu.one{b:List C}{i k:Nat}(h1:b[off]? = some (.s o rows))(c:o.mine=true)(h2:rows[i]? = some r)(g:r.length=k)(h:j+xs.length<=k)(l:a=b.set off (.s o (rows.set i (splice r j xs))))(d:K a):Pu b off [(i,k,j)] xs K:=by
 have f:o≠.R:=λe=>by subst e;cases c
 refine Pu.mk (r:=r) (j:=j) (by grind [cr]) (by grind [lH]) ω (by grind [gh]) d
def CS:type_of% @Pu.one:=@Pu.one
theorem Pu.out(h:Pu a off st xs K):∃r j,cr a off st=some (r,j)/\lH a off st/\j+xs.length<=r.length/\K (gh a off st (splice r j xs)):=by
 obtain⟨h⟩:=h;grind
def tc(F:Nat->AV)(x:Operand)(cs:List C)(K:(Nat->AV)->Prop):Prop:=
 match x with
 | .tmp d=>match F d with
  | .Y .box c=>bif Nat.ble cs.length c.length then fc (splice c 0 cs) λa=>K (updH F d .box a) else False
  | .ref t b []=>(match F t with
    | .Y .box c=>bif Nat.ble (b+cs.length) c.length then fc (splice c b cs) λa=>K (updH F t .box a) else False
    | _=>False)
  | .ref t b (s::st)=>(match F t with
    | .Y k c=>Pu c b (s::st) cs λa=>K (VX F t k a)
    | _=>False)
  | _=>False
 | _=>False
def nO(TE:Nat->Option TI)(F:Nat->AV)(T:Nat)(x y:Operand)(K:(Nat->AV)->Prop):Prop:=
 match TE T with
 | some i=>jj F (oN F y) λ_ a=>bif Nat.beq a.length i.size then(bif br a then tc F x a K else gX F y λb _ a=>bif Nat.beq a.length i.size then tc b x a K else False) else False
 | none=>False
section
variable{P:Program}{w0 w w1:World}{M S0 S:af}{N:fF}{φ:Nat->af}{F:Nat->AV}{a:Act}{TE:Nat->Option TI}
variable{cs:List C}{t:Nat}{φ1:Nat->af}
def bj.toN{S1:af}{k:Kd}{l:List C}{A:World}(h:bj w0 M S0 N S1 φ1 (updH F t k l) a A)(E:bj w0 M S0 N S φ F a w)(G:∀v,co A k v=co w k v)(H:F t=.Y k cs)(L:l.length=cs.length):bj w0 M S0 N S1 φ1 (updN F t k l) a A:=by
 refine⟨λs=>?_,h.dis,h.disS,h.ex,h.sub,h.sup,h.old,h.size,h.defers,h.par⟩;have b:=h.slot s;by_cases e:s=t
 ·subst e;rw[jw]at b;rw[xg];exact b
 rw[ig _ _ _ e]at b;rw[BC _ _ _ e];cases c:F s with
 | dead=>trivial
 | Y O cs3=>rw[c]at b;exact b
 | iref r q=>rw[c]at b;exact b
 | fn f caps=>rw[c]at b;exact b
 | fv Ok=>rw[c]at b;exact b
 | ref y q u=>
  rw[c]at b;cases u with
  | nil=>
   obtain⟨i,cs2,r,j,g,o,d,n⟩:=b;exact⟨i,cs2,r,j,g,o,rR d,n⟩
  | cons J u=>
   simp only[wc]at b;simp only[U6];cases p:Nat.beq y t with
   | true=>trivial
   | false=>
    rw[p]at b;obtain⟨i,cs2,r,j,g,o,d,n⟩:=b;exact⟨i,cs2,r,j,g,o,rR d,n⟩
 | c5 y q u P=>
  rw[c]at b;simp only[wc]at b;cases u with
  | nil=>
   simp only[U6];cases p:Nat.beq y t with
   | true=>
    have:=O3 p;subst this;have d:=E.slot s;rw[c]at d;obtain⟨i,cs2,r,j,B,D,Q,K⟩:=d;rw[H]at B;cases B;simp only[cr,O1,Prod.mk.injEq]at D;obtain⟨rfl,rfl⟩:=D;exact⟨_,_,_,_,xg ..,rfl,ω,by rw[G];exact K⟩
   | false=>
    rw[p]at b;obtain⟨i,cs2,r,j,d,n⟩:=b;exact⟨i,cs2,r,j,rR d,n⟩
  | cons J u=>
   simp only[U6];cases p:Nat.beq y t with
   | true=>trivial
   | false=>
    rw[p]at b;obtain⟨i,cs2,r,j,d,n⟩:=b;exact⟨i,cs2,r,j,rR d,n⟩
def bj.toP{S1:af}{k:Kd}{b:List C}{c:World}(h:bj w0 M S0 N S1 φ1 (updH F t k b) a c)(d:bj w0 M S0 N S φ F a w)(e:F t=.Y k cs)(f:b.length=cs.length):bj w0 M S0 N S1 φ1 (VX F t k b) a c:=by
 cases k with
 | box=>exact h
 | _=>exact h.toN d (λ_=>rfl) e f
theorem bj.taken(h:bj w0 M S0 N S φ F a w){y:Operand}{K:(Nat->AV)->Option Nat->List C->Prop}(e:gX F y K) :
  ∃F' ag cs V φ',K F' ag cs/\bj w0 M S0 N S φ' F' a w/\bm w S V ag cs (a.eval y)/\(∀b o,V b o->(∀t,¬φ' t b o)/\¬S b o/\b<w.heap.size/\(w0.heap.size<=b\/M b o))/\(∀t b o,φ' t b o->φ t b o)/\(∀b o,V b o->∃t,φ t b o):=by
 cases y with
 | tmp t=>
  have A:=h.slot t;simp only[gX]at e;have fin:∀(d c n:Nat)(k:Kd)(cs:List C),F d=.Y k cs->c+n<=cs.length->∀(ag:Option Nat),ag.getD 1=n->(a.eval (.tmp t)=mkv ag λj=>co w k (tvs a d) (c+j))->
    K (updH F d k (splice cs c (List.replicate n .x))) ag (bP cs c n)->
    ∃F' ag cs V φ',K F' ag cs/\bj w0 M S0 N S φ' F' a w/\bm w S V ag cs (a.eval (.tmp t))/\(∀b o,V b o->(∀t,¬φ' t b o)/\¬S b o/\b<w.heap.size/\(w0.heap.size<=b\/M b o))/\(∀t b o,φ' t b o->φ t b o)/\(∀b o,V b o->∃t,φ t b o):=by
   intro d c n k cs p B ag J H D;obtain⟨V,X,f,E,O,u,l⟩:=h.take p B;refine⟨_,ag,_,V,_,D,l,⟨by simp[bP];omega,_,H,u⟩,λb o g=>⟨λq i=>?_,h.disS d b o (f b o g),h.ex d b o (f b o g)⟩,λq b o g=>?_,ψ⟩
   ·by_cases G:q=d
    ·grind
    rw[CI G]at i;exact h.dis q d G b o i (f b o g)
   grind
  have DY:∀(d c n:Nat)(k:Kd)(cs:List C),F d=.Y k cs->c+n<=cs.length->∀(ag:Option Nat),ag.getD 1=n->(a.eval (.tmp t)=mkv ag λj=>co w k (tvs a d) (c+j))->
    K (updN F d k (splice cs c (List.replicate n .x))) ag (bP cs c n)->
    ∃F' ag cs V φ',K F' ag cs/\bj w0 M S0 N S φ' F' a w/\bm w S V ag cs (a.eval (.tmp t))/\(∀b o,V b o->(∀t,¬φ' t b o)/\¬S b o/\b<w.heap.size/\(w0.heap.size<=b\/M b o))/\(∀t b o,φ' t b o->φ t b o)/\(∀b o,V b o->∃t,φ t b o):=by
   intro d c n k cs p B ag J H D;obtain⟨V,X,f,E,O,u,l⟩:=h.take p B;refine⟨_,ag,_,V,_,D,l.toN h (λ_=>rfl) p (by grind [splice]),⟨by simp[bP];omega,_,H,u⟩,λb o g=>⟨λq i=>?_,h.disS d b o (f b o g),h.ex d b o (f b o g)⟩,λq b o g=>?_,ψ⟩
   ·by_cases G:q=d
    ·grind
    rw[CI G]at i;exact h.dis q d G b o i (f b o g)
   grind
  cases p:F t with
  | Y k cs=>
   rw[p]at e A;obtain⟨X1,Y,-,-,-,l,-⟩:=A;cases k with
   | one=>
    have B:cs.length=1:=l;refine fin t 0 cs.length .one cs p ω none (by simp[B]) rfl ?_
    grind [bP]
   | agg=>
    obtain⟨arr,H,P⟩:=l;refine fin t 0 cs.length .agg cs p ω (some cs.length) rfl ?_ ?_
    ·show tvs a t=_
     grind [pR,co,Go.Value.cells]
    grind [bP]
   | _=>exact e.elim
  | c5 d c L ag=>
   rw[p]at e A;cases L with
   | cons s L=>
    simp only at e;obtain⟨k,cs,r,j,f,E,u,l⟩:=A;rw[f]at e;simp only at e;obtain⟨r',j',Q,R,T,D⟩:=Lq.out e;obtain⟨V,φ',U,W,Z,g4,g5⟩:=h.lend f Q R T;exact⟨_,ag,_,V,φ',D,W.toN h (λ_=>rfl) f (EA ..),⟨by simp[bP];omega,_,l,U⟩,Z,g4,ψ⟩
   | nil=>
    simp only at e;obtain⟨k,cs,r,j,f,E,u,l⟩:=A;rw[f]at e;simp only[cr,O1,Prod.mk.injEq]at E;obtain⟨rfl,rfl⟩:=E;simp only at e;cases g:Nat.ble (c+ag.getD 1) cs.length with
    | false=>grind
    | true=>
     rw[g]at e;exact DY d c (ag.getD 1) k cs f u ag rfl (l.trans rfl) e
  | _=>grind
 | _=>exact e.elim
variable{K:(Nat->AV)->Prop}{v:Value}{d:Nat}
theorem bj.putD_new(h:bj w0 M S0 N S φ F a w){av:AV}(b:mR w S F a av v w1)(c:bV N F d av K):∃F',K F'/\St w0 M S0 N F' (a.put (some d) v) w1:=by grind [bj.put_newR,bV]
variable{ag:Option Nat}
theorem bj.putD_taken{φ':Nat->af}{F':Nat->AV}(h:bj w0 M S0 N S φ' F' a w){V:af}(g:bm w S V ag cs v)(i:∀b o,V b o->(∀t,¬φ' t b o)/\¬S b o/\b<w.heap.size/\(w0.heap.size<=b\/M b o))(e:bV N F' d (.Y (kZ ag) cs) K):∃f,K f/\St w0 M S0 N f (a.put (some d) v) w:=by
 unfold bV at e;cases c:(N.free d&&!(AV.Y (kZ ag) cs).uses d) with
 | false=>grind
 | true=>
  rw[c]at e;simp only[I0,Bool.not_eq_true']at c;exact⟨_,e,S,_,h.put_gen (Cj _ _) c.1 g.slot c.2 ψ ψ ψ⟩
variable{x:Operand}
theorem bj.assign(h:bj w0 M S0 N S φ F a w)(b:lM N F d x K):∃F',K F'/\St w0 M S0 N F' (a.put (some d) (a.eval x)) w:=by
 have c:bN F x (λe=>bV N F d e K)->∃F',K F'/\St w0 M S0 N F' (a.put (some d) (a.eval x)) w:=λi=>by
  obtain⟨e,j,k⟩:=h.move i;exact h.putD_new (mR.same k) j
 have o:gX F x (λF' l n=>bV N F' d (.Y (kZ l) n) K)->∃F',K F'/\St w0 M S0 N F' (a.put (some d) (a.eval x)) w:=λi=>by grind [bj.taken,bj.putD_taken]
 cases x with
 | tmp t=>
  grind [lM]
 | const v=>exact c b
 | global g=>exact c b
 | func f=>exact c b
variable{T:Nat}
theorem bj.storeSt(h:bj w0 M S0 N S φ F a w){k:Kd}{p r:List C}{off j:Nat}{st:cN}(U:F t=.Y k p)(D:st≠[])(W:cr p off st=some (r,j))(X:lH p off st)(Q:j+cs.length<=r.length){V:af}{u:Nat->Value}(i:cw w S V cs u)(q:Free w0 M S φ w V)(E:(P.info? T).map (·.size)=some cs.length)(Z:v.cells.toList=(List.range cs.length).map u){g o:Nat}(G:plc w (co w k (tvs a t)) (rp k (tvs a t)) off st=some (g,o)) :
  ∃w1,(Instr.storeAt T (.pointer (some ⟨g,o,none⟩)) v).run P w=.ok () w1/\St w0 M S0 N (updH F t k (gh p off st (splice r j cs))) a w1:=by
 obtain⟨e,b,u',Y,R,e2,e3,e4,y,e6⟩:=h.focus U D W X;rw[e4]at G;simp only[O1,Prod.mk.injEq]at G;obtain⟨rfl,rfl⟩:=G;have H:v.cells.toList.length=cs.length:=by rw[Z];simp
 have J:v.cells.size=cs.length:=by simpa using H
 have hin:∀d,d<cs.length->(∃z,cel w e (b+j+d)=some z)/\fro w e (b+j+d)=NF:=λd hd=>by
  obtain⟨-,-,a3,a4⟩:=y (j+d) ω
  grind
 have l:∀x∈v.cells.toList,x.oneCell'=true:=λx c=>by grind [cw.one]
 have f:=run_storeCells_cells (P:=P) e (b+j) v.cells.toList 0 w ψ
  ψ l
 simp only[Nat.add_zero]at f;have A:bu (λx o=>x=e/\b+j<=o/\o<b+j+cs.length) w (w.setCells e (b+j) v.cells.toList):=eI _ _ _ ω;have hgv:∀d,d<cs.length->v.cells.toList[d]? = some (u d):=ψ
 have n:b8 S w (w.setCells e (b+j) v.cells.toList):=λx o c=>⟨A.cel x o (h.sup x o c).1 (λB=>by
   have:=(y (o - b) ω).1;rw[show b+(o - b)=o by omega,<-B.1]at this;exact h.disS t x o this c),bW _ _ _ _ _ _⟩
 have K:b8 Y w (w.setCells e (b+j) v.cells.toList):=λx o c=>⟨A.cel x o (h.ex t x o (R x o c)).1 (λB=>by
   have:=(y (o - b) ω).2.1
   grind),bW _ _ _ _ _ _⟩
 have L:b8 V w (w.setCells e (b+j) v.cells.toList):=λx o c=>⟨A.cel x o (q x o c).2.2.1 (λB=>by
   have:=(y (o - b) ω).1;rw[show b+(o - b)=o by omega,<-B.1]at this;exact(q x o c).1 t this),bW _ _ _ _ _ _⟩
 refine⟨_,by simp[Instr.storeAt,Instr.sureAddr,storeVar,ll E,J,f],S,_,e6 _ (splice r j cs) (λd=>if j<=d/\d<j+cs.length then u (d - j) else u' d) (λx o=>Y x o\/V x o) _ A ω (λd hd=>⟨?_,by grind [bW]⟩) (db Q) ((e2.keep n K).join (i.keep n L) Q (λx o c O=>(q x o O).1 t (R x o c))) (λx o c=>c.imp id (q x o))⟩
 grind [bx,bi]
theorem bj.putB(h:bj w0 M S0 N S φ F a w){V:af}(L:bm w S V ag cs v)(q:∀b o,V b o->(∀t,¬φ t b o)/\¬S b o/\b<w.heap.size/\(w0.heap.size<=b\/M b o))(e:(P.info? T).map (·.size)=some cs.length)(c:tc F x cs K) :
  ∃F' w1,K F'/\(Instr.storeAt T (a.eval x) v).run P w=.ok () w1/\St w0 M S0 N F' a w1:=by
 obtain⟨u,y,A⟩:=L.cells;cases x with
 | tmp B=>
  have l:=h.slot B;show ∃F' w1,K F'/\(Instr.storeAt T (tvs a B) v).run P w=.ok () w1/\_
  simp only[tc]at c;cases D:F B with
  | Y k O=>
   rw[D]at c l;cases k with
   | box=>
    simp only at c;cases p:Nat.ble cs.length O.length with
    | false=>grind
    | true=>
     rw[p]at c;simp only[cond_true,d9]at c;obtain⟨Z,Y,-,-,-,⟨g,o,E,-⟩,-⟩:=l;obtain⟨w1,d,f⟩:=h.store (P:=P) D (off:=0) (by simp_all) A q e y (g:=g) (o:=o) (by rw[E];rfl)
     grind
   | _=>exact c.elim
  | ref t off H=>
   rw[D]at c l;cases H with
   | cons s H=>
    simp only at c;obtain⟨k,n,r,j,g,o,i,Q,G,J⟩:=l;rw[i]at c;obtain⟨r',j',R,U,W,X⟩:=c.out;obtain⟨w1,d,S1,φ1,f⟩:=h.storeSt (P:=P) i (by simp) R U W A q e y G;exact⟨_,w1,X,by rw[J];exact d,S1,φ1,f.toP h i (EA ..)⟩
   | nil=>
    simp only at c;obtain⟨k,n,r,j,g,o,i,Q,G,J⟩:=l;rw[i]at c;cases k with
    | box=>
     simp only at c;cases p:Nat.ble (off+cs.length) n.length with
     | false=>grind
     | true=>
      rw[p]at c;simp only[cond_true,d9]at c;obtain⟨w1,d,f⟩:=h.store (P:=P) i (C2 p) A q e y G
      grind
    | _=>exact c.elim
  | _=>grind
 | _=>exact c.elim
theorem bj.storeOp(h:bj w0 M S0 N S φ F a w)(d:∀t i,TE t=some i->ix P t i){y:Operand}(b:nO TE F T x y K) :
  ∃F' w1,K F'/\(Instr.storeAt T (a.eval x) (a.eval y)).run P w=.ok () w1/\St w0 M S0 N F' a w1:=by
 unfold nO at b;split at b
 case h_2=>exact b.elim
 rename_i i g;have j:=(d _ _ g).size;obtain⟨n,e,Y,c,k,-⟩:=h.val (h.ev y) b;cases l:Nat.beq e.length i.size with
 | false=>grind
 | true=>
  rw[l]at c;simp only[cond_true]at c;cases f:br e with
  | true=>
   rw[f]at c;exact h.putB (V:=NO) (k.bare f) (λ_ _ h=>h.elim) (by simp_all) c
  | false=>
   grind [bj.taken,bj.putB,O3]
end
def x9(F:Nat->AV)(x:Operand)(K:(Nat->AV)->Option Nat->List C->Prop):Prop:=jj F (oN F x) λb a=>bif br a then K F b a else gX F x K
def fillW(c:Nat->Option (Nat × Nat)):List (Nat × Operand)->List C->((Nat->AV)->List C->Prop)->(Nat->AV)->Prop
 | [],a,K,F=>K F a
 | p::rest,a,K,F=>match c p.1 with
  | some q=>x9 F p.2 λd _ xs=>bif Nat.beq xs.length q.2&&Nat.ble (q.1+q.2) a.length then fc (splice a q.1 xs) λb=>fillW c rest b K d else False
  | none=>False
def lQ(TE:Nat->Option TI)(N:fF)(F:Nat->AV)(d T:Nat)(parts:List (Nat × Operand))(K:(Nat->AV)->Prop):Prop:=
 match TE T with
 | some ⟨_,_,zero,.st flds⟩=>bif HF TE flds then fillW (X9 TE flds) parts zero (λa b=>bV N a d (.Y .agg b) K) F else False
 | _=>False
def gK(TE:Nat->Option TI)(N:fF)(F:Nat->AV)(d T n:Nat)(parts:List (Nat × Operand))(K:(Nat->AV)->Prop):Prop:=
 L9 TE T λ_ b=>bif Nat.ble (n*b.size) 16777216 then(match n,parts with
   | 0,[]=>bV N F d (.Y .one [.z]) K
   | n+1,parts=>fc (rep b.zero (n+1)) λe=>fillW (Yx b.size) parts e (λf c=>XX b.size (n+1) c λa=>bV N f d (.Y .one [.s .own a]) K) F
   | _,_=>False) else False
def TD(N:fF)(F:Nat->AV)(d:Nat)(x:Operand)(K:(Nat->AV)->Prop):Prop:=x9 F x λa _ b=>bV N a d (.Y .box b) K
inductive Ap(flat:Bool)(rows xr:List (List C))(sz by_:Nat)(K:List (List C)->Prop):Prop
 |mk_ (h:(∀r∈rows,r.length=sz)/\(∀r∈xr,r.length=sz)/\(flat=true->∀r∈xr,br r=true)/\rows.length+xr.length<=140737488355328/\(rows.length+xr.length)*by_<=140737488355328/\∃rs,rs=rows++xr/\K rs)
variable{xr:List (List C)}{flat:Bool}
theorem Ap.mk{rs:List (List C)}{sz by_:Nat}{K:List (List C)->Prop}(h1:∀r∈rows,r.length=sz)(h2:∀r∈xr,r.length=sz)(a:flat=true->∀r∈xr,br r=true)(b:rows.length+xr.length<=140737488355328)(c:(rows.length+xr.length)*by_<=140737488355328)(d:rs=rows++xr)(e:K rs):Ap flat rows xr sz by_ K:=by refine .mk_ ?_;grind
def Cb:type_of% @Ap.mk:=@Ap.mk
theorem Ap.out{sz by_:Nat}{K:List (List C)->Prop}(h:Ap flat rows xr sz by_ K) :
  (∀r∈rows,r.length=sz)/\(∀r∈xr,r.length=sz)/\(flat=true->∀r∈xr,br r=true)/\rows.length+xr.length<=140737488355328/\(rows.length+xr.length)*by_<=140737488355328/\K (rows++xr):=by
 obtain⟨h⟩:=h;grind
def Hs(F:Nat->AV)(y:Operand)(K:Bool->(Nat->AV)->List (List C)->Prop):Prop:=
 match oN F y with
 | .Y .one [.s .own _]=>gX F y λc a b=>match a,b with|none,[.s .own rows]=>K false c rows|_,_=>False
 | d=>jj F d λa b=>match a,b with
  | none,[.s _ rows]=>K true F rows
  | none,[.z]=>K true F []
  | _,_=>False
def Ey(F:Nat->AV)(x:Operand)(K:(Nat->AV)->List (List C)->Prop):Prop:=
 jj F (oN F x) λa b=>match a,b with
  | none,[.z]=>K F []
  | none,[.s .own _]=>gX F x λc a b=>match a,b with|none,[.s .own rows]=>K c rows|_,_=>False
  | _,_=>False
def ET(TE:Nat->Option TI)(N:fF)(F:Nat->AV)(d T:Nat)(x y:Operand)(K:(Nat->AV)->Prop):Prop:=
 L9 TE T λ_ b=>Hs F y λfl c e=>Ey c x λF'' a=>Ap fl a e b.size b.bytes λf=>bV N F'' d (.Y .one [.s .own f]) K
section
variable{P:Program}{w0 w w1:World}{M S0 S:af}{N:fF}{φ:Nat->af}{F:Nat->AV}{a:Act}{TE:Nat->Option TI}
variable{x:Operand}
def bj.give(h:bj w0 M S0 N S φ F a w){K:(Nat->AV)->Option Nat->List C->Prop}(e:x9 F x K) :
  ∃F' ag cs V φ',K F' ag cs/\bj w0 M S0 N S φ' F' a w/\bm w S V ag cs (a.eval x)/\Free w0 M S φ' w V/\(∀t b o,φ' t b o->φ t b o)/\(∀b o,V b o->∃t,φ t b o):=by
 obtain⟨ag,cs,Y,c,f,-⟩:=h.val (h.ev x) e;cases d:br cs with
 | true=>rw[d]at c;exact⟨F,ag,cs,NO,φ,c,h,f.bare d,λ_ _ h=>h.elim,λ_ _ _ h=>h,λ_ _ h=>h.elim⟩
 | false=>rw[d]at c;exact h.taken c
theorem bj.fillW{E:Nat->Option (Nat × Nat)} : ∀{parts:List (Nat × Operand)}{cs:List C}{K:(Nat->AV)->List C->Prop}{F:Nat->AV}{φ:Nat->af}{u:Nat->Value}{cells:Array Value}{Y:af},bj w0 M S0 N S φ F a w->Ab.fillW E parts cs K F->cw w S Y cs u->Free w0 M S φ w Y->
  cells.toList=(List.range cs.length).map u->
  ∃F' φ' c g cells' i,K F' c/\bj w0 M S0 N S φ' F' a w/\c.length=cs.length/\cw w S i c g/\Free w0 M S φ' w i/\Instr.fill E cells (parts.map λp=>(p.1,a.eval p.2))=some cells'/\cells'.toList=(List.range c.length).map g
 | [],cs,K,F,φ,u,cells,Y,h,d,j,f,k=>⟨F,φ,cs,u,cells,Y,d,h,rfl,j,f,rfl,k⟩
 | p::rest,cs,K,F,φ,u,cells,Y,h,d,j,f,k=>by
  simp only[Ab.fillW]at d;split at d
  case h_2=>exact d.elim
  rename_i q G;obtain⟨F',T,xs,V,φ',l,H,J,L,O,n⟩:=h.give d;cases e:(Nat.beq xs.length q.2&&Nat.ble (q.1+q.2) cs.length) with
  | false=>grind
  | true=>
   rw[e]at l;simp only[I0]at e;have P:=O3 e.1;have Q:=C2 e.2;simp only[cond_true,d9]at l;obtain⟨U,r,y⟩:=J.cells;obtain⟨cells1,W,A⟩:=F6 (rest:=rest.map λp=>(p.1,a.eval p.2)) G k r P Q;have B:=j.join y (off:=q.1) ω (λb o e D=>by obtain⟨t,R⟩:=n b o D;exact(f b o e).1 t R);obtain⟨X,φ2,c,g,cells',i,Z,e2,e3,e4,e5,e6,e7⟩:=bj.fillW H l B ((f.less O).or L) A
   grind [db]
variable{K:(Nat->AV)->Prop}{d:Nat}
theorem bj.putD_free(h:bj w0 M S0 N S φ F a w){k:Kd}{cs:List C}{v:Value}{X:af}(j:cP w S F (tvs a) X (.Y k cs) v)(f:Free w0 M S φ w X)(g:bV N F d (.Y k cs) K) :
  ∃i,K i/\St w0 M S0 N i (a.put (some d) v) w:=by
 unfold bV at g;cases e:(N.free d&&!(AV.Y k cs).uses d) with
 | false=>grind
 | true=>
  rw[e]at g;simp only[I0,Bool.not_eq_true']at e;exact⟨_,g,S,_,h.put_gen (Cj _ _) e.1 j e.2 (λb o c=>(f b o c).2.2) (λt _ b o c=>(f b o c).1 t) (λb o c=>(f b o c).2.1)⟩
theorem M6{zero:List C}{cells:Array Value}(a:cells.toList=zero.map cval):cells.toList=(List.range zero.length).map (λj=>(zero.map cval).getD j undef):=by
 rw[a];apply List.ext_getElem?
 grind
variable{parts:Array (Nat × Operand)}{T:Nat}
theorem bj.buildW(h:bj w0 M S0 N S φ F a w)(c:∀t i,TE t=some i->ix P t i)(e:lQ TE N F d T parts.toList K) :
  ∃v F',K F'/\(Instr.build T (parts.map λ(i,x)=>(i,a.eval x))).run P w=.ok v w/\St w0 M S0 N F' (a.put (some d) v) w:=by
 unfold lQ at e;split at e
 case h_2=>exact e.elim
 rename_i size bytes zero flds k;cases l:HF TE flds with
 | false=>grind
 | true=>
  rw[l]at e;have g:=(c _ _ k).2.1;obtain⟨F',φ',b,n,cells',o,p,q,D,r,u,E,y⟩:=bj.fillW h e (qG g S) (λ_ _ h=>h.elim) (M6 (cells:=(zero.map cval).toArray) (by simp));have A:cells'.size=b.length:=by have:=I1 List.length y;simpa using this
  have f:bm w S o (some b.length) b (.agg cells'):=⟨rfl,n,by simp only[mkv];congr 1;grind,r⟩
  obtain⟨B,C,j⟩:=q.putD_free f.slot u p;refine⟨.agg cells',B,C,BW c k l λcells G=>?_,j⟩;have:cells=(zero.map cval).toArray:=ψ
  simp_all
theorem bj.buildSW(h:bj w0 M S0 N S φ F a w)(r:∀t i,TE t=some i->ix P t i){n:Nat}(Q:gK TE N F d T n parts.toList K) :
  ∃v w1 F',K F'/\(Instr.buildSlice T n (parts.map λ(i,x)=>(i,a.eval x))).run P w=.ok v w1/\St w0 M S0 N F' (a.put (some d) v) w1:=by
 obtain⟨e,u,q,z,f,he,R,y,U,G,V,W,A,g,Y,Z⟩:=jA r Q;cases c:Nat.ble (n*u.size) 16777216 with
 | false=>grind
 | true=>
  rw[c]at f;have B:=C2 c;simp only[cond_true]at f;split at f
  ·rename_i hparts
   have:parts = #[]:=ψ
   subst this;have C:=h.world (w1:=w.alloc (.cells #[] e)) (cQ w _) (λ_ _ h=>h.elim);obtain⟨H,j,k⟩:=C.putD_free (X:=NO) (v:=.slice (some ⟨w.heap.size,0,none⟩) 0 0) (gH (.z _ _)) (λ_ _ h=>h.elim) f
   grind [yl]
  ·rename_i n
   rw[Nat.succ_eq_add_one]at B;rw[d9]at f;obtain⟨F',φ',D,u',cells',Y',J,l,e3,e4,L,O,e7⟩:=bj.fillW h f (wH y.2.1 S _) (λ_ _ h=>h.elim) (rk A ω (rep u.zero (n+1)).length);rw[rr]at J;have E:D.length=(n+1)*u.size:=by grind [pn]
   have C:=l.world (w1:=w.alloc (.cells cells' e)) (cQ w _) (λ_ _ h=>h.elim);have p:=vC (e:=e) e4 E ω e7 (λb o c=>(l.sup b o c).1) (λb o c=>(L b o c).2.2.1);obtain⟨H,j,k⟩:=C.putD_free (gH p) (λb o c=>by
     rcases c with c|c
     · obtain⟨a1,a2,a3,a4⟩:=L b o c
       grind [mG]
     exact⟨λt y=>by have:=(l.ex t b o y).1;omega,λhS=>by have:=(l.sup b o hS).1;omega,c.2,.inl (S9 l.old.size c.1)⟩) J
   refine⟨_,_,H,j,run_buildSlice w T e (n+1) _ cells' q z R V W (by rw[g];omega) ψ ?_,k⟩;rw[g,Array.toList_map];rw[pn,U]at O;exact O
  exact f.elim
theorem bj.boxW(h:bj w0 M S0 N S φ F a w)(r:TD N F d x K) :
  ∃v w1 F',K F'/\(Instr.box T (a.eval x)).run P w=.ok v w1/\St w0 M S0 N F' (a.put (some d) v) w1:=by
 obtain⟨y,O,cs,V,φ',A,e,B,p,Q,C⟩:=h.give r;obtain⟨u,q,D⟩:=B.cells;have E:(a.eval x).cells.size=cs.length:=by have:=I1 List.length q;simpa using this
 have G:=e.world (w1:=w.alloc (.cells (a.eval x).cells T)) (cQ w _) (λ_ _ h=>h.elim);have g:∀j,j<cs.length->cel (w.alloc (.cells (a.eval x).cells T)) w.heap.size j=some (u j):=λj i=>by
  rw[kL,<-Array.getElem?_toList,q,Z5,ID i];rfl
 have f:∀b o,V b o->b<w.heap.size:=λb o c=>(p b o c).2.2.1
 obtain⟨H,l,n⟩:=G.putD_free (X:=λb o=>V b o\/(b=w.heap.size/\o<cs.length)) (k:=.box) (cs:=cs) (v:=.pointer (some ⟨w.heap.size,0,none⟩)) (F:=y) ⟨λb o=>b=w.heap.size/\o<cs.length,V,λ_ _ h=>.inr h,λ_ _ h=>.inl h,ψ,
   ⟨_,_,rfl,λj i=>⟨⟨rfl,ω⟩,ψ,by grind [iO]⟩⟩,(D.keep (je (cQ w _) λb o c=>(e.sup b o c).1) (je (cQ w _) f)).congr λj i=>by grind [co]⟩ (λb o c=>by
   rcases c with c|c
   · obtain⟨R,U,W,Y⟩:=p b o c
     grind [mG]
   exact⟨λt J=>by have:=(e.ex t b o J).1;omega,λL=>by have:=(e.sup b o L).1;omega,by simp_all,.inl (by rw[c.1];exact e.old.size)⟩) A
 exact⟨_,_,H,l,by simp[Instr.box,newVar,newRow],n⟩
theorem bj.src(h:bj w0 M S0 N S φ F a w){y:Operand}{sz:Nat}{K:Bool->(Nat->AV)->List (List C)->Prop}(k:Hs F y K) :
  ∃fl F' xr φ',K fl F' xr/\bj w0 M S0 N S φ' F' a w/\(∀t b o,φ' t b o->φ t b o)/\((∀r∈xr,r.length=sz)->(fl=true->∀r∈xr,br r=true)->
    ∃b c u2 f2 V,a.eval y=.slice b xr.length c/\qb w b (xr.length*sz) ((List.range (xr.length*sz)).map u2)/\Eu w S V xr sz u2 f2/\Free w0 M S φ' w V/\(∀b o,V b o->∃t,φ t b o)):=by
 unfold Hs at k;split at k
 ·obtain⟨F',p,q,V,φ',i,O,l,P,Q,R⟩:=h.taken k
  match p,q,i with
  | none,[.s .own d],i=>
   refine⟨false,F',d,φ',i,O,Q,λA _=>?_⟩;rcases l.rep1.els (by simp) A with⟨rfl,T,e⟩|⟨g,B,u,f,e,G,H,D,hu,hE⟩
   ·exact⟨T,0,λ_=>undef,λ_=>NO,NO,e,⟨by simp,λ_=>by simp,λJ j u _ n=>by simp at n⟩,⟨ω,ψ,ψ,ψ⟩,λ_ _ h=>h.elim,λ_ _ h=>h.elim⟩
   refine⟨_,B,u,f,_,e,⟨by simp,ψ,λJ j y U n=>?_⟩,hE,λb o E=>P b o E.1,ψ⟩
   grind [iV]
 obtain⟨p,q,Y,i,l,-⟩:=h.val (h.ev y) k
 match p,q,i with
 | none,[.s o d],i=>
  refine⟨true,F,d,φ,i,h,λ_ _ _ h=>h,λA W=>?_⟩;obtain⟨b,c,u,X,Z,e3⟩:=l.rep1.flat (λr L=>⟨A r L,W rfl r L⟩);exact⟨b,c,u,_,NO,X,Z,e3,λ_ _ h=>h.elim,λ_ _ h=>h.elim⟩
 | none,[.z],i=>
  obtain⟨b,E⟩:=xB l.rep1;exact⟨true,F,[],φ,i,h,λ_ _ _ h=>h,λ_ _=>⟨b,0,λ_=>undef,λ_=>NO,NO,E,⟨by simp,λ_=>by simp,λJ j u _ n=>by simp at n⟩,⟨ω,ψ,ψ,ψ⟩,λ_ _ h=>h.elim,λ_ _ h=>h.elim⟩⟩
def bj.base(h:bj w0 M S0 N S φ F a w){K:(Nat->AV)->List (List C)->Prop}(i:Ey F x K) :
  ∃F' rows φ' V,K F' rows/\bj w0 M S0 N S φ' F' a w/\(∀t b o,φ' t b o->φ t b o)/\cU w S V (.s .own rows) (a.eval x)/\Free w0 M S φ' w V/\(∀b o,V b o->∃t,φ t b o):=by
 obtain⟨d,e,Y,c,f,-⟩:=h.val (h.ev x) i
 match d,e,c with
 | none,[.z],c=>
  obtain⟨b,j⟩:=xB f.rep1;exact⟨F,[],φ,NO,c,h,λ_ _ _ h=>h,by rw[j];exact .nil _ _ _ tV1,λ_ _ h=>h.elim,λ_ _ h=>h.elim⟩
 | none,[.s .own _],c=>
  obtain⟨F',d,e,V,φ',c,k,f,l,n,g⟩:=h.taken c
  match d,e,c with
  | none,[.s .own rows],c=>exact⟨F',rows,φ',V,c,k,n,f.rep1,l,g⟩
theorem bj.appW(h:bj w0 M S0 N S φ F a w)(C:∀t i,TE t=some i->ix P t i){ty:Nat}{y:Operand}(hp:ET TE N F d T x y K) :
  ∃v w1 F',K F'/\(Builtin.append_ #[T,T] ty #[a.eval x,a.eval y]).run P w=.ok v w1/\St w0 M S0 N F' (a.put (some d) v) w1:=by
 obtain⟨e,ie,q,z,g,he,hu,n,hl,X,hi,hz,D,p,E,G⟩:=jA C hp;obtain⟨fl,F1,xr,φ1,g,s1,hs1,r⟩:=h.src (sz:=ie.size) g;obtain⟨F2,Y,φ2,V,g,u,H,A,B,J⟩:=s1.base g;obtain⟨h1,h2,h3,h4,h5,g⟩:=g.out;obtain⟨b,c,u2,f2,V2,hy,Z,hE,j,hVt2⟩:=r h2 h3;have L:∀x∈z.cells.toList,x.oneCell'=true:=by rw[D];exact HQ n.2.1
 rw[<-p]at Z hE;obtain⟨v',w',hrun,k,l⟩:=tJ (P:=P) (ty:=ty) (c:=c) hu hi hz G L A (by rw[p];exact h1) hE Z (λb o f O=>by obtain⟨t,n⟩:=J b o f;exact(j b o O).1 t n) (λb o f=>(B b o f).2.1) (λb o f=>(B b o f).2.2.1)
  (λb o f=>(j b o f).2.2.1) (λb o f=>(u.sup b o f).1) h4 (by rw[E];exact h5)
 have s3:=u.world k B;obtain⟨F3,hK3,hst⟩:=s3.putD_free (gH l) (λb o f=>by
   rcases f with f|f|f
   · obtain⟨Q,R,U,W⟩:=B b o f
     exact⟨Q,R,I7 U k.size,W⟩
   · obtain⟨Q,R,U,W⟩:=(j.less H) b o f
     exact⟨Q,R,I7 U k.size,W⟩
   exact⟨λt n=>by have:=(u.ex t b o n).1;omega,λhS=>by have:=(u.sup b o hS).1;omega,f.2,.inl (S9 u.old.size f.1)⟩) g
 grind
end
inductive MA where
 |val (ag:Option Nat) (cs:List C)
 |mut (ag:Option Nat) (cs:List C)
 |ptr (cs:List C)
def rx(w:World)(S V:af):MA->Value->Prop
 | .val ag cs,v=>bm w S NO ag cs v
 | .mut ag cs,v=>bm w S V ag cs v
 | .ptr cs,v=>∃a Y:af,(∀b o,a b o->V b o)/\(∀b o,Y b o->V b o)/\(∀b o,a b o->¬Y b o)/\fZ w a .box cs.length v/\cw w S Y cs (co w .box v)
def P4(w:World)(S:af):(Nat->af)->List MA->List Value->Prop
 | _,[],[]=>True
 | V,m::ms,v::vs=>rx w S (V 0) m v/\P4 w S (λi=>V (i+1)) ms vs
 | _,_,_=>False
def MB(w:World)(S V:af):MA->Value->Prop
 | .val _ _,_=>True
 | m,v=>rx w S V m v
def AY(w:World)(S:af):(Nat->af)->List MA->List Value->Prop
 | _,[],[]=>True
 | V,m::ms,v::vs=>MB w S (V 0) m v/\AY w S (λi=>V (i+1)) ms vs
 | _,_,_=>False
structure aU(P:Program)(f:Nat)(sh:Bool)(A B:List MA)(k:Kd)(rcs:List C):Prop where
 has:JY P f
 run:∀(w:World)(S:af)(V:Nat->af)(vs:List Value),((∀b o,S b o->b<w.heap.size)/\Tb w S)->(∀i b o,V i b o->b<w.heap.size/\¬S b o)->(∀i i',i≠i'->∀b o,V i b o->¬V i' b o)->P4 w S V A vs->
  Calls P f vs.toArray w λe w1=>∃v,e=.returned v/\bu (λb o=>∃i,V i b o) w w1/\∃(X:af)(V':Nat->af)(S1:af),
   (∀b o,X b o->(∃i,V i b o)\/(b<w1.heap.size/\w.heap.size<=b))/\(∀i b o,V' i b o->(∃i,V i b o)\/(b<w1.heap.size/\w.heap.size<=b))/\
   (∀b o,S1 b o->(sh=true/\S b o)\/(∃i,V i b o)\/(b<w1.heap.size/\w.heap.size<=b))/\
   (∀i i',i≠i'->∀b o,V' i b o->¬V' i' b o)/\(∀i b o,X b o->¬V' i b o)/\(∀b o,X b o->¬S1 b o)/\(∀i b o,V' i b o->¬S1 b o)/\
   fZ w1 NO k rcs.length v/\cw w1 S1 X rcs (co w1 k v)/\AY w1 (λb o=>S b o\/S1 b o) V' B vs
inductive tE where
 |no
 |at_ (t off:Nat) (st:cN)
 |box (t:Nat)
def lendAt(F:Nat->AV)(t off:Nat)(st:cN)(n:Nat)(K:(Nat->AV)->List C->Prop):Prop:=
 match F t with
 | .Y k b=>(match st with
   | []=>bif Nat.ble (off+n) b.length then fc (bP b off n) λc=>fc (splice b off (List.replicate n .x)) λa=>K (updH F t k a) c else False
   | s::st=>Lq b off (s::st) n λc a=>K (updH F t k a) c)
 | _=>False
def lendP:List (Operand × Nat)->((Nat->AV)->List (MA × tE)->Prop)->(Nat->AV)->Prop
 | [],K,F=>K F []
 | (_,0)::xs,K,F=>lendP xs (λa l=>K a ((.val none [],.no)::l)) F
 | (x,1)::xs,K,F=>(match x with
   | .tmp s=>(match F s with
     | .Y .one _=>lendAt F s 0 [] 1 λc b=>lendP xs (λa l=>K a ((.mut none b,.at_ s 0 [])::l)) c
     | .Y .agg cs0=>lendAt F s 0 [] cs0.length λc b=>lendP xs (λa l=>K a ((.mut (some cs0.length) b,.at_ s 0 [])::l)) c
     | .c5 t off st ag=>lendAt F t off st (ag.getD 1) λc b=>lendP xs (λa l=>K a ((.mut ag b,.at_ t off st)::l)) c
     | _=>False)
   | _=>False)
 | (x,_+2)::xs,K,F=>(match x with
   | .tmp s=>(match F s with
     | .ref t 0 []=>(match F t with|.Y .box b=>lendP xs (λa l=>K a ((.ptr b,.box t)::l)) (kill F t)|_=>False)
     | .Y .box b=>lendP xs (λa l=>K a ((.ptr b,.box s)::l)) (kill F s)
     | _=>False)
   | _=>False)
def YF:C->C
 | .s (.tag _) rows=>.s .own rows
 | .s (.tagS _) rows=>.s .suf rows
 | c=>c
def X6:List C->List C
 | []=>[]
 | c::cs=>YF c::X6 cs
def Zh:MA->MA
 | .mut ag a=>.mut ag (X6 a)
 | m=>m
def YN:C->C->C
 | .s (.tag z) _,.s .own rows=>.s (.tag z) rows
 | .s (.tagS z) _,.s .suf rows=>.s (.tagS z) rows
 | _,o=>o
def U9:List C->List C->List C
 | c::cs,o::a=>YN c o::U9 cs a
 | _,a=>a
def Ze:MA->List C
 | .val _ cs=>cs
 | .mut _ cs=>cs
 | .ptr cs=>cs
theorem GM:∀(cs:List C),X6 cs=cs.map YF
 | []=>rfl
 | c::cs=>by simp[X6,GM cs]
theorem vn:∀(cs os:List C),(U9 cs os).length=os.length
 | [],os=>by cases os<;>rfl
 | c::cs,[]=>rfl
 | c::cs,o::os=>by simp[U9,vn cs os]
theorem P6:∀{cs os:List C}{j:Nat}{a:C},(U9 cs os)[j]? = some a->∃o,os[j]? = some o/\(a=o\/(∃z r rows,cs[j]? = some (.s (.tag z) r)/\o=.s .own rows/\a=.s (.tag z) rows)\/∃z r rows,cs[j]? = some (.s (.tagS z) r)/\o=.s .suf rows/\a=.s (.tagS z) rows)
 | [],os,j,a,h=>by
  have:U9 [] os=os:=by cases os<;>rfl
  grind
 | c::cs,[],j,a,h=>by simp[U9]at h
 | c::cs,o::os,0,a,h=>by
  simp only[U9,List.getElem?_cons_zero,O1]at h;refine⟨o,rfl,?_⟩;unfold YN at h
  grind
 | c::cs,o::os,j+1,a,h=>by
  simp only[U9,List.getElem?_cons_succ]at h |-;exact P6 h
variable{v:Value}{S:af}{w:World}
theorem cU.ut{Y:af}{c:C}(h:cU w S Y c v):cU w S Y (YF c) v:=by
 cases c with
 | s o b=>
  cases o with
  | tag z=>
   cases h with
   | nil _ o a i=>exact .nil _ _ _ tV1
   | own _ o g k n e b u f i p q d j r t y A B=>exact .own _ _ g k n e b u f tV1 p q d j r t y A B
   | suf _ o g l k n e b u f i p q d r t y A B=>exact i.elim
  | tagS z=>
   cases h with
   | nil _ o a i=>exact .nil _ _ _ tV1
   | own _ o g k n e b u f i=>exact i.elim
   | suf _ o g l k n e b u f i p q d r t y A B=>exact .suf _ _ g l k n e b u f tV1 p q d r t y A B
  | _=>exact h
 | _=>exact h
variable{z:Value}
theorem cU.tagOf{Y:af}(h:cU w S Y (.s (.tag z) rows) v):z=v:=by
 cases h with
 | nil _ o a b=>exact b
 | own _ o g k n d rows u f b i j c e l p q r t=>exact b
 | suf _ o g y k n d rows u f b i j c l p q r t=>exact b.elim
theorem cU.rt{Y:af}(h:cU w S Y (.s .own rows) v)(i:z=v):cU w S Y (.s (.tag z) rows) v:=by
 cases h with
 | nil _ o a e=>exact .nil _ _ _ i
 | own _ o g k n c rows u f e j l b d p q r t y=>exact .own _ _ g k n c rows u f i j l b d p q r t y
 | suf _ o g A k n c rows u f e j l b p q r t y=>exact e.elim
theorem cU.tagOfS{Y:af}(h:cU w S Y (.s (.tagS z) rows) v):z=v:=by
 cases h with
 | nil _ o a b=>exact b
 | own _ o g k n c rows u f b=>exact b.elim
 | suf _ o g d k n c rows u f b=>exact b
theorem cU.rtS{Y:af}(h:cU w S Y (.s .suf rows) v)(i:z=v):cU w S Y (.s (.tagS z) rows) v:=by
 cases h with
 | nil _ o a d=>exact .nil _ _ _ i
 | own _ o g k n b rows u f d=>exact d.elim
 | suf _ o g e k n b rows u f d j l c p q r t y=>exact .suf _ _ g e k n b rows u f i j l c p q r t y
variable{u:Nat->Value}
theorem cw.ut{Y:af}(h:cw w S Y cs u):cw w S Y (X6 cs) u:=by
 obtain⟨f,a,b,d⟩:=h;rw[GM];refine⟨f,λj c e=>?_,ψ,ψ⟩
 grind [cU.ut]
theorem cw.rt{w1:World}{S' Y i:af}{os:List C}{b:Nat->Value}(h:cw w S Y cs u)(h':cw w1 S' i os b)(p:∀d,d<os.length->b d=u d):cw w1 S' i (U9 cs os) b:=by
 obtain⟨f,q,r,t⟩:=h;obtain⟨k,l,e,g⟩:=h';refine⟨k,λj c a=>?_,λj a=>e j (by rwa [vn]at a),λj n a o=>g j n (by rwa [vn]at a) (by grind [vn])⟩
 grind [P6,cU.rt,cU.tagOf,cU.rtS,cU.tagOfS]
def valsP(F:Nat->AV):List (MA × tE)->List Operand->(Bool->List MA->Prop)->Prop
 | [],[],K=>K true []
 | (_,.no)::l,x::xs,K=>jj F (oN F x) λc a=>valsP F l xs λb A=>bif br a then K b (.val c a::A) else K false (.val c (dw a)::A)
 | (m,.at_ _ _ _)::l,_::xs,K=>valsP F l xs λb A=>K b (Zh m::A)
 | (m,.box _)::l,_::xs,K=>valsP F l xs λb A=>K b (m::A)
 | _,_,_=>False
def setH(F:Nat->AV)(t:Nat)(av:AV):Nat->AV:=λs=>bif Nat.beq s t then av else F s
def tE.slot:tE->List Nat
 | .no=>[]
 | .at_ t _ _=>[t]
 | .box t=>[t]
def xA:List (MA × tE)->Bool
 | []=>true
 | q::l=>(q.2.slot.all λt=>l.all λa=>!a.2.slot.any (Nat.beq t))&&xA l
def iK:List (MA × tE)->List MA->((Nat->AV)->Prop)->(Nat->AV)->Prop
 | [],[],K,F=>K F
 | (_,.no)::l,_::B,K,F=>iK l B K F
 | (m,.at_ t a c)::l,.mut _ out::B,K,F=>(match F t with
   | .Y k d=>(match c with
     | []=>bif Nat.ble (a+out.length) d.length then fc (splice d a (U9 (Ze m) out)) λb=>iK l B K (updH F t k b) else False
     | s::c=>Pu d a (s::c) out λb=>iK l B K (updH F t k b))
   | _=>False)
 | (_,.box t)::l,.ptr out::B,K,F=>(match F t with
   | .dead=>iK l B K (setH F t (.Y .box out))
   | _=>False)
 | _,_,_,_=>False
def Lx:List MA->Prop
 | []=>True
 | .val _ _::B=>Lx B
 | .mut _ cs::B=>fy cs/\Lx B
 | .ptr cs::B=>fy cs/\Lx B
inductive cy(P:Program)(f:Nat)(b:Bool)(A:List MA)(K:Kd->List C->List MA->Prop):Prop
 |mk_ (h:∃sh B k rcs,aU P f sh A B k rcs/\(b=true\/(sh=false/\Lx B))/\K k rcs B)
theorem cy.mk{sh:Bool}{A B:List MA}{K:Kd->List C->List MA->Prop}(h:aU P f sh A B k rcs)(a:b=true\/(sh=false/\Lx B))(c:K k rcs B):cy P f b A K:=by refine .mk_ ?_;grind
theorem CN:type_of% @cy.mk:=@cy.mk
theorem cy.out{A:List MA}{K:Kd->List C->List MA->Prop}(h:cy P f b A K):∃sh B k rcs,aU P f sh A B k rcs/\(b=true\/(sh=false/\Lx B))/\K k rcs B:=by obtain⟨h⟩:=h;exact h
def mB(P:Program)(N:fF)(F:Nat->AV)(d:Option Nat)(f:Nat)(args:List Operand)(modes:List Nat)(K:(Nat->AV)->Prop):Prop:=
 lendP (args.zip modes) (λa l=>bif xA l&&Nat.beq args.length modes.length then valsP a l args λb A=>cy P f b A λk rcs B=>iK l B (λF''=>match d with|some d=>bV N F'' d (.Y k rcs) K|none=>K F'') a else False) F
def D8(F:Nat->AV)(x:Operand)(K:Nat->Nat->Prop):Prop:=
 match x with
 | .tmp s=>(match F s with
   | .ref t off []=>K t off
   | _=>False)
 | _=>False
def BB(N:fF)(F:Nat->AV)(d:Option Nat)(t:Nat)(cs:List C)(c e f g:Nat)(K:(Nat->AV)->Prop)(k:Kd)(rcs:List C):List MA->Prop
 | [.ptr a,.ptr c1']=>bif Nat.beq a.length e&&Nat.beq c1'.length g then fc (splice (splice cs c a) f c1') λb=>(match d with|some d=>bV N (setH (kill F t) t (.Y .box b)) d (.Y k rcs) K|none=>K (setH (kill F t) t (.Y .box b))) else False
 | _=>False
def lF(P:Program)(N:fF)(F:Nat->AV)(d:Option Nat)(f:Nat)(args:List Operand)(c e:Nat)(K:(Nat->AV)->Prop):Prop:=
 match args with
 | [x0,h]=>D8 F x0 λt g=>D8 F h λi a=>(match F t with
   | .Y .box b=>bif Nat.beq i t&&Nat.ble (g+c) a&&Nat.ble (a+e) b.length then fc (bP b g c) λj=>fc (bP b a e) λl=>cy P f true [.ptr j,.ptr l] λk rcs B=>BB N F d t b g c a e K k rcs B else False
   | _=>False)
 | _=>False
def XN:List Nat->Option (Nat × Nat)
 | []=>none
 | m::l=>bif Nat.beq m 3 then(match l with
   | []=>none
   | a::l=>(match l with
     | []=>none
     | b::_=>some (a,b))) else none
def l9(P:Program)(N:fF)(F:Nat->AV)(d:Option Nat)(f:Nat)(args:List Operand)(modes:List Nat)(K:(Nat->AV)->Prop):Prop:=
 match XN modes with
 | some p=>lF P N F d f args p.1 p.2 K
 | none=>mB P N F d f args modes K
section
variable{P:Program}{w0 w w1:World}{M S0 S:af}{N:fF}{φ:Nat->af}{F:Nat->AV}{a:Act}{TE:Nat->Option TI}
variable{V S':af}
def bj.addS(h:bj w0 M S0 N S φ F a w)(g:Free w0 M S φ w V)(d:∀b o,S b o->S' b o)(e:∀b o,S' b o->S b o\/V b o):bj w0 M S0 N S' φ F a w:=by
 refine⟨λt=>(h.slot t).keep (φ:=φ) (λt _ _ _=>h.slot t) (λt _=>⟨λ_ _ h=>h,rfl,λ_ _ _=>⟨rfl,rfl⟩⟩) (λ_ _ _=>⟨rfl,rfl⟩) (λ_ _ _=>⟨rfl,rfl⟩) (λ_ _ h=>h) d,h.dis,λt b o c f=>?_,h.ex,λb o c=>d b o (h.sub b o c),λb o c=>?_,h.old,h.size,h.defers,h.par.1,h.par.2.keep (Cj NO w) (λ_ _ h=>h.elim) d⟩
 ·rcases e b o f with f|f
  ·exact h.disS t b o c f
  exact(g b o f).1 t c
 rcases e b o c with c|c
 ·exact h.sup b o c
 exact⟨(g b o c).2.2.1,.inr (g b o c).2.2.2⟩
theorem rP(F:Nat->AV)(t:Nat)(av:AV):setH F t av t=av:=by simp[setH]
variable{t:Nat}
theorem ge(F:Nat->AV){s:Nat}(av:AV)(h:s≠t):setH F t av s=F s:=by grind [Nat.beq_eq,setH]
variable{cs:List C}
theorem bj.revive(h:bj w0 M S0 N S φ F a w)(L:F t=.dead){k:Kd}{X:af}(y:Free w0 M S φ w X)(G:cP w S F (tvs a) X (.Y k cs) (tvs a t)) :
  bj w0 M S0 N S (λs=>if s=t then X else φ s) (setH F t (.Y k cs)) a w:=by
 have D:∀s,(F s).uses t=true->cP w S (setH F t (.Y k cs)) (tvs a) (φ s) (F s) (tvs a s):=λs n=>by
  have c:=h.slot s;cases d:F s with
  | dead=>rw[d]at n;cases n
  | Y=>rw[d]at n;cases n
  | iref=>rw[d]at n;cases n
  | ref q E H=>
   rw[d]at n c;have:q=t:=by simpa[AV.uses] using n
   subst this;obtain⟨k,cs,r,j,g,o,J,-⟩:=c
   grind
  | c5 q E H O=>
   rw[d]at n c;have:q=t:=by simpa[AV.uses] using n
   subst this;obtain⟨k,cs,r,j,J,-⟩:=c
   grind
  | fn f caps=>rw[d]at c;exact c
  | fv Ok=>rw[d]at c;exact c
 refine⟨λs=>?_,λs A u b o i l=>?_,λs b o i=>?_,λs b o i=>?_,h.sub,h.sup,h.old,h.size,h.defers,h.par⟩
 ·by_cases p:s=t
  ·subst p
   rw[rP,CJ rfl];exact G
  rw[ge _ _ p,CI p];cases n:(F s).uses t with
  | true=>exact D s n
  | false=>
   refine(h.slot s).keep (φ:=φ) (λt _ _ _=>h.slot t) (λq K=>?_) (λ_ _ _=>⟨rfl,rfl⟩) (λ_ _ _=>⟨rfl,rfl⟩) (λ_ _ h=>h) (λ_ _ h=>h);have u:q≠t:=ψ
   exact⟨λk cs P=>by grind [ge],rfl,λ_ _ _=>⟨rfl,rfl⟩⟩
 ·by_cases e:s=t
  ·rw[CJ e]at i
   by_cases B:A=t
   ·omega
   rw[CI B]at l;exact(y b o i).1 A l
  rw[CI e]at i;by_cases B:A=t
  ·rw[CJ B]at l;exact(y b o l).1 s i
  rw[CI B]at l;exact h.dis s A u b o i l
 ·split at i
  ·exact(y b o i).2.1
  exact h.disS s b o i
 split at i
 ·exact(y b o i).2.2
 exact h.ex s b o i
def f7(F F':Nat->AV):Prop:=∀s k a,F' s=.Y k a->∃cs0,F s=.Y k cs0
def f7.trans{F F' F'':Nat->AV}(h:f7 F F')(h':f7 F' F''):f7 F F'':=λs k a e=>by obtain⟨b,c⟩:=h' s k a e;exact h s k b c
theorem sE{k:Kd}{f b:List C}(i:F t=.Y k f):f7 F (updH F t k b):=λs j l e=>by
 by_cases h:s=t
 ·grind [jw]
 rw[ig _ _ _ h]at e;cases a:F s with
 | Y n cs3=>grind [wc]
 | dead=>rw[a]at e;cases e
 | iref=>rw[a]at e;cases e
 | fn=>rw[a]at e;cases e
 | fv=>rw[a]at e;cases e
 | c5 g c d o=>grind [wc]
 | ref g c d=>
  rw[a]at e;cases d with
  | nil=>cases e
  | cons s d=>grind [wc]
theorem DB(t:Nat):f7 F (kill F t):=λs g i e=>by
 by_cases h:s=t
 ·grind [rW]
 rw[my _ h]at e;cases b:F s with
 | Y k c=>rw[b]at e;cases e;exact⟨_,rfl⟩
 | ref d a f=>grind [U7]
 | c5 d a f j=>grind [U7]
 | _=>rw[b]at e;cases e
variable{off n:Nat}
def bj.lendAt(h:bj w0 M S0 N S φ F a w){st:cN}{K:(Nat->AV)->List C->Prop}(c:Ab.lendAt F t off st n K) :
  ∃k f V φ' F' cs,F t=.Y k f/\K F' cs/\cs.length=n/\cw w S V cs (λd=>cellv w (co w k (tvs a t)) off st d)/\bj w0 M S0 N S φ' F' a w/\Free w0 M S φ' w V/\(∀s b o,φ' s b o->φ s b o)/\(∀b o,V b o->φ t b o)/\f7 F F':=by
 unfold Ab.lendAt at c;split at c
 case h_2=>exact c.elim
 rename_i k f e;split at c
 ·cases g:Nat.ble (off+n) f.length with
  | false=>rw[g]at c;exact c.elim
  | true=>
   rw[g]at c;simp only[cond_true,d9]at c;have i:=C2 g;obtain⟨V,φ',l,p,q,u,y⟩:=h.lend (st:=[]) (off:=off) (j:=off) (n:=n) e rfl tV1 i;exact⟨k,f,V,φ',_,_,e,c,by simp[bP];omega,l,p,q,u,y,sE e⟩
 obtain⟨r,j,A,B,D,E⟩:=c.out;obtain⟨V,φ',l,p,q,u,y⟩:=h.lend e A B D;exact⟨k,f,V,φ',_,_,e,E,by simp[bP];omega,l,p,q,u,y,sE e⟩
def HZ(w:World)(S:af)(a:Act)(e:Nat->AV)(V:af)(m:MA)(p:tE)(v:Value):Prop:=
 match p with
 | .no=>∀b o,¬V b o
 | .at_ t off st=>∃d c,m=.mut d c/\bm w S V d c v/\∃k cs0,e t=.Y k cs0/\v=mkv d (cellv w (co w k (tvs a t)) off st)
 | .box t=>∃c,m=.ptr c/\rx w S V m v/\v=tvs a t
def sO(w:World)(S:af)(a:Act)(b:Nat->AV):(Nat->af)->List (MA × tE)->List Value->Prop
 | _,[],[]=>True
 | V,q::l,v::vs=>HZ w S a b (V 0) q.1 q.2 v/\sO w S a b (λi=>V (i+1)) l vs
 | _,_,_=>False
variable{v:Value}{m:MA}{F1:Nat->AV}
def HZ.back{F:Nat->AV}{p:tE}(h:HZ w S a F1 V m p v)(b:f7 F F1):HZ w S a F V m p v:=by
 cases p with
 | no=>exact h
 | at_ t c o=>obtain⟨d,e,f,g,k,cs0,i,j⟩:=h;obtain⟨l,n⟩:=b t k cs0 i;exact⟨d,e,f,g,k,l,n,j⟩
 | box t=>exact h
def sO.back{F:Nat->AV}(b:f7 F F1):∀{l:List (MA × tE)}{V:Nat->af}{vs:List Value},sO w S a F1 V l vs->sO w S a F V l vs
 | [],_,[],_=>trivial
 | _::_,_,_::_,h=>⟨h.1.back b,h.2.back b⟩
 | [],_,_::_,h=>h.elim
 | _::_,_,[],h=>h.elim
def Rj(a:af)(V:Nat->af):Nat->af
 | 0=>a
 | i+1=>V i
theorem bj.lendP:∀{xs:List (Operand × Nat)}{K:(Nat->AV)->List (MA × tE)->Prop}{F:Nat->AV}{φ:Nat->af},bj w0 M S0 N S φ F a w->Ab.lendP xs K F->
  ∃F' l φ' V,K F' l/\bj w0 M S0 N S φ' F' a w/\(∀s b o,φ' s b o->φ s b o)/\(∀i,Free w0 M S φ' w (V i))/\(∀i b o,V i b o->∃t,φ t b o)/\(∀i d,i≠d->∀b o,V i b o->¬V d b o)/\f7 F F'/\sO w S a F V l (xs.map λx=>a.eval x.1)
 | [],K,F,φ,h,c=>⟨F,[],φ,λ_=>NO,c,h,λ_ _ _ h=>h,λ_ _ _ h=>h.elim,λ_ _ _ h=>h.elim,λ_ _ _ _ _ h=>h.elim,λs k f e=>⟨f,e⟩,tV1⟩
 | (x,m)::xs,K,F,φ,h,c=>by
  have fin:∀(D:Nat->AV)(φ1:Nat->af)(H:af)(q:MA × tE),HZ w S a F H q.1 q.2 (a.eval x)->bj w0 M S0 N S φ1 D a w->(∀s b o,φ1 s b o->φ s b o)->Free w0 M S φ1 w H->(∀b o,H b o->∃t,φ t b o)->f7 F D->Ab.lendP xs (λF' l=>K F' (q::l)) D->
    ∃F' l φ' V,K F' l/\bj w0 M S0 N S φ' F' a w/\(∀s b o,φ' s b o->φ s b o)/\(∀i,Free w0 M S φ' w (V i))/\(∀i b o,V i b o->∃t,φ t b o)/\(∀i d,i≠d->∀b o,V i b o->¬V d b o)/\f7 F F'/\sO w S a F V l (((x,m)::xs).map λx=>a.eval x.1):=by
   intro D φ1 H q hq B hle J X y c;obtain⟨F',l,φ',V,e1,e2,e3,e4,Z,e6,e7,e8⟩:=bj.lendP B c;refine⟨F',q::l,φ',Rj H V,e1,e2,ψ,λi=>?_,λi b o W=>?_,λi d L b o W O=>?_,y.trans e7,hq,e8.back y⟩
   ·cases i with
    | zero=>exact J.less e3
    | succ i=>exact e4 i
   ·cases i with
    | zero=>exact X b o W
    | succ i=>obtain⟨t,P⟩:=Z i b o W;grind
   cases i with
   | zero=>
    cases d with
    | zero=>exact L rfl
    | succ d=>obtain⟨t,P⟩:=Z d b o O;exact(J b o W).1 t P
   | succ i=>
    cases d with
    | zero=>obtain⟨t,P⟩:=Z i b o W;exact(J b o O).1 t P
    | succ d=>exact e6 i d ω b o W O
  have box:∀t f,F t=.Y .box f->a.eval x=tvs a t->Ab.lendP xs (λF' l=>K F' ((.ptr f,.box t)::l)) (kill F t)->
    ∃F' l φ' V,K F' l/\bj w0 M S0 N S φ' F' a w/\(∀s b o,φ' s b o->φ s b o)/\(∀i,Free w0 M S φ' w (V i))/\(∀i b o,V i b o->∃t,φ t b o)/\(∀i d,i≠d->∀b o,V i b o->¬V d b o)/\f7 F F'/\sO w S a F V l (((x,m)::xs).map λx=>a.eval x.1):=by
   intro t f A Q c;have p:=h.slot t;rw[A]at p;obtain⟨X1,Y,B,h2,h3,h4,h5⟩:=p;refine fin _ _ (φ t) (.ptr f,.box t) ⟨f,rfl,⟨X1,Y,B,h2,h3,by rw[Q];exact h4,by rw[Q];exact h5⟩,Q⟩ (h.forget t) (λs b o y=>?_) (λb o y=>⟨λs p=>?_,h.disS t b o y,h.ex t b o y⟩) ψ (DB t) c
   ·replace y:(if s=t then NO else φ s) b o:=y
    split at y
    ·exact y.elim
    exact y
   replace p:(if s=t then NO else φ s) b o:=p;split at p
   ·exact p.elim
   rename_i L;exact h.dis s t L b o p y
  have at_:∀t u R E n (K':(Nat->AV)->List C->Prop),n=E.getD 1->(∀k T,F t=.Y k T->a.eval x=mkv E (cellv w (co w k (tvs a t)) u R))->Ab.lendAt F t u R n (λD f=>Ab.lendP xs (λF' l=>K F' ((.mut E f,.at_ t u R)::l)) D)->
    ∃F' l φ' V,K F' l/\bj w0 M S0 N S φ' F' a w/\(∀s b o,φ' s b o->φ s b o)/\(∀i,Free w0 M S φ' w (V i))/\(∀i b o,V i b o->∃t,φ t b o)/\(∀i d,i≠d->∀b o,V i b o->¬V d b o)/\f7 F F'/\sO w S a F V l (((x,m)::xs).map λx=>a.eval x.1):=by
   intro t u R E n K' hn Q c;obtain⟨k,T,H,φ1,D,f,e1,e2,e3,e4,Z,e6,e7,e8,e9⟩:=h.lendAt c;have hvx:=Q k T e1;exact fin D φ1 H (.mut E f,.at_ t u R) ⟨E,f,rfl,⟨by rw[e3,hn],_,hvx,e4⟩,k,T,e1,hvx⟩ Z e7 e6 ψ e9 e2
  match m,c with
  | 0,c=>exact fin F φ NO (.val none [],.no) (λ_ _ h=>h) h (λ_ _ _ h=>h) (λ_ _ h=>h.elim) (λ_ _ h=>h.elim) (λs k f e=>⟨f,e⟩) c
  | 1,c=>
   simp only[Ab.lendP]at c;split at c
   case h_2=>exact c.elim
   rename_i s _;have p:=h.slot s;split at c
   ·rename_i cs0 A
    exact at_ s 0 [] none 1 (λ_ _=>True) rfl (λk T G=>by rw[A]at G;cases G;rfl) c
   ·rename_i cs0 A
    rw[A]at p;obtain⟨X1,Y,-,-,-,⟨arr,Q,hsz⟩,-⟩:=p;refine at_ s 0 [] (some cs0.length) cs0.length (λ_ _=>True) rfl (λk T G=>?_) c;rw[A]at G;cases G;show tvs a s=_
    grind [pR,ko,cellv,co,Go.Value.cells]
   ·rename_i t u R E A
    rw[A]at p;obtain⟨k,f,r,j,B,h2,h3,h4⟩:=p;refine at_ t u R E _ (λ_ _=>True) rfl (λk' T G=>?_) c;rw[B]at G;cases G;exact h4
   exact c.elim
  | n+2,c=>
   simp only[Ab.lendP]at c;split at c
   case h_2=>exact c.elim
   rename_i s _;have p:=h.slot s;split at c
   ·rename_i t A
    rw[A]at p;obtain⟨k,f,r,j,g,o,B,h2,h3,h4⟩:=p;split at c
    ·rename_i cs2 U
     rw[U]at B;simp only[AV.Y.injEq]at B;obtain⟨rfl,rfl⟩:=B;have P:=h.slot t;rw[U]at P;obtain⟨X1,Y,-,-,-,⟨g',o',Q,-⟩,-⟩:=P;refine box t _ U ?_ c;show tvs a s=tvs a t
     grind [plc,rp]
    exact c.elim
   ·rename_i cs2 A
    exact box s cs2 A rfl c
   exact c.elim
def rx.mono{S:af}(h:rx w S V m v)(a:∀b o,S b o->S' b o):rx w S' V m v:=by
 cases m with
 | val d c=>exact bm.mono h a (λ_ _ h=>h)
 | «mut» d c=>exact bm.mono h a (λ_ _ h=>h)
 | ptr c=>obtain⟨e,Y,f,g,i,j,k⟩:=h;exact⟨e,Y,f,g,i,j,k.mono a (λ_ _ h=>h)⟩
theorem bj.valsP(h:bj w0 M S0 N S φ F a w){r:Nat->AV} : ∀{l:List (MA × tE)}{xs:List Operand}{K:Bool->List MA->Prop}{V:Nat->af},sO w S a r V l (xs.map a.eval)->Ab.valsP F l xs K->
  ∃b A,K b A/\P4 w (oK S φ) V A (xs.map a.eval)/\(b=true->P4 w S V A (xs.map a.eval))
 | [],[],K,V,_,f=>⟨true,[],f,tV1,λ_=>tV1⟩
 | (m,.no)::l,x::xs,K,V,g,f=>by
  obtain⟨q,k,Y,d,e,y⟩:=h.val (h.ev x) f;obtain⟨b,A,d,i,j⟩:=bj.valsP h g.2 d;have p:∀b o,Y b o->oK S φ b o:=λb o c=>by
   rcases y b o c with c|c
   ·cases x with
    | tmp t=>exact .inr ⟨t,c⟩
    | _=>exact c.elim
   exact .inr c
  cases n:br k with
  | true=>rw[n]at d;exact⟨b,_,d,⟨(e.bare n).mono (λ_ _ h=>.inl h) (λ_ _ h=>h),i⟩,λc=>⟨e.bare n,j c⟩⟩
  | false=>rw[n]at d;exact⟨false,_,d,⟨e.freeze.mono (λb o h=>h.elim .inl (p b o)) (λ_ _ h=>h),i⟩,ψ⟩
 | (m,.at_ t off st)::l,x::xs,K,V,g,f=>by
  obtain⟨b,A,d,i,j⟩:=bj.valsP h g.2 f;obtain⟨q,k,rfl,⟨D,u,B,C⟩,-⟩:=g.1;have e:bm w S (V 0) q (X6 k) (a.eval x):=⟨by grind [GM],u,B,C.ut⟩
  exact⟨b,_,d,⟨e.mono (λ_ _ h=>.inl h) (λ_ _ h=>h),i⟩,λc=>⟨e,j c⟩⟩
 | (m,.box t)::l,x::xs,K,V,g,f=>by
  obtain⟨b,A,d,i,j⟩:=bj.valsP h g.2 f;obtain⟨k,rfl,e,-⟩:=g.1;exact⟨b,_,d,⟨e.mono (λ_ _ h=>.inl h),i⟩,λc=>⟨e,j c⟩⟩
theorem V7{ag:Option Nat}{u b:Nat->Value}(h:mkv ag u=mkv ag b):∀d,d<ag.getD 1->u d=b d:=by
 cases ag with
 | none=>
  intro d a;simp only[Option.getD_none]at a;have:d=0:=ω
  subst this;exact h
 | some n=>
  intro d a;simp only[Option.getD_some]at a;simp only[mkv,Value.agg.injEq]at h
  simp_all
theorem Uu{v:AV}{k:Kd}(h:wc t v=.Y k cs):v=.Y k cs:=by
 cases v with
 | Y=>exact h
 | dead=>cases h
 | iref=>cases h
 | fn=>cases h
 | fv=>cases h
 | c5 c a b d=>grind [wc]
 | ref c a b=>
  cases b with
  | nil=>cases h
  | cons s b=>grind [wc]
theorem bj.rest{φ':Nat->af}{F' F0:Nat->AV}{S':af}{Vall:af}(hw:bj w0 M S0 N S φ' F' a w)(hk:bu Vall w w1)(u:Free w0 M S φ' w Vall)(hb:f7 F0 F') :
  ∀{l:List (MA × tE)}{B:List MA}{vs:List Value}{V V':Nat->af}{K:(Nat->AV)->Prop}{F:Nat->AV}{φ:Nat->af},bj w0 M S0 N S' φ F a w1->sO w S a F0 V l vs->AY w1 S' V' B vs->(∀q,q∈l->∀t,t∈q.2.slot->∀k cs,F t=.Y k cs->F' t=.Y k cs)->
   (∀i,Free w0 M S' φ w1 (V' i))->(∀i i',i≠i'->∀b o,V' i b o->¬V' i' b o)->xA l=true->iK l B K F->∃A φ2,K A/\bj w0 M S0 N S' φ2 A a w1/\∀s b o,φ2 s b o->φ s b o\/∃i,V' i b o
 | [],B,vs,V,V',K,F,φ,h,L,O,g,P,hd,n,c=>by
  cases B with
  | nil=>exact⟨F,φ,c,h,ψ⟩
  | cons _ _=>exact c.elim
 | (m,p)::l,B,vs,V,V',K,F,φ,h,L,O,g,P,hd,n,c=>by
  cases vs with
  | nil=>exact L.elim
  | cons v vs=>
   cases B with
   | nil=>exact O.elim
   | cons m' B=>
    simp only[xA,I0]at n;have next:∀(Z:Nat->AV)(φ1:Nat->af),bj w0 M S0 N S' φ1 Z a w1->(∀s b o,φ1 s b o->φ s b o\/V' 0 b o)->(∀q,q∈l->∀t,t∈q.2.slot->∀k cs,Z t=.Y k cs->F' t=.Y k cs)->iK l B K Z->
      ∃A φ2,K A/\bj w0 M S0 N S' φ2 A a w1/\∀s b o,φ2 s b o->φ s b o\/∃i,V' i b o:=by
     intro Z φ1 H hle hkeep1 hp1;obtain⟨A,φ2,e1,e2,e3⟩:=bj.rest hw hk u hb (V':=λi=>V' (i+1)) H L.2 O.2 hkeep1 (λi b o hi=>⟨λt ht=>(hle t b o ht).elim ((P (i+1) b o hi).1 t) ψ,(P (i+1) b o hi).2⟩) ψ n.2 hp1
     grind
    have hne:∀t,t∈p.slot->∀q,q∈l->∀Q,Q∈q.2.slot->Q≠t:=λt ht q hq Q R e=>by grind [Nat.beq_refl]
    cases p with
    | no=>exact next F φ h ψ (λq hq=>g q ψ) (by cases m'<;>exact c)
    | at_ t f C=>
     obtain⟨ag,cs,rfl,hv,T,cs0,hF0,y⟩:=L.1;cases m' with
     | val=>exact c.elim
     | ptr=>exact c.elim
     | «mut» ag' out=>
      simp only[iK]at c;obtain⟨u',hu',E⟩:=bm.cells (show bm w1 S' (V' 0) ag' out v from O.1);have U:ag=none->(cellv w (co w T (tvs a t)) f C 0).oneCell'=true:=λe=>by
       subst e;obtain⟨hl1,u1,hv1,hr1⟩:=hv;have:cellv w (co w T (tvs a t)) f C 0=u1 0:=y.symm.trans hv1;rw[this];exact hr1.one (by simp at hl1;omega)
      have W:=rV U;rw[<-y,hu']at W;have hlen:out.length=ag.getD 1:=by have:=I1 List.length W;simpa using this
      have heq:∀d,d<out.length->u' d=cellv w (co w T (tvs a t)) f C d:=by simp_all
      cases J:F t with
      | Y k G=>
       rw[J]at c;have X:=g (.mut ag cs,.at_ t f C) ψ t (by simp[tE.slot]) k G J;have hkk:T=k:=by
        obtain⟨c1,e1⟩:=hb t k G X
        grind
       subst hkk;have fin:∀out',out'.length=out.length->cw w1 S' (V' 0) out' u'->∀r j,cr G f C=some (r,j)->lH G f C->j+out.length<=r.length->iK l B K (updH F t T (gh G f C (splice r j out')))->∃A φ2,K A/\bj w0 M S0 N S' φ2 A a w1/\∀s b o,φ2 s b o->φ s b o\/∃i,V' i b o:=by
        intro out' hol E r j H h2 h3 c;have hsame:=hw.cellv_same X H hk u;obtain⟨φ1,e1,e2⟩:=h.back J H h2 (by rw[hol];exact h3) (P 0) (E.congr ψ);refine next _ φ1 e1 e2 (λq hq Q R k cs hc=>?_) c
        grind [ig,Uu,tE.slot]
       cases C with
       | nil=>
        simp only at c;cases D:Nat.ble (f+out.length) G.length with
        | false=>grind
        | true=>
         rw[D]at c;simp only[cond_true,d9]at c;obtain⟨-,u0,hv0,hr0⟩:=hv;have hu0:∀d,d<out.length->u' d=u0 d:=λd hd=>by grind [V7]
         exact fin _ (vn _ _) (hr0.rt E hu0) G f rfl tV1 (C2 D) c
       | cons s C=>
        grind [Pu.out]
      | _=>grind
    | box t=>
     obtain⟨cs,rfl,hv,y⟩:=L.1;cases m' with
     | val=>exact c.elim
     | «mut»=>exact c.elim
     | ptr out=>
      simp only[iK]at c;cases J:F t with
      | dead=>
       rw[J]at c;obtain⟨X1,Y,H,h2,h3,h4,h5⟩:=O.1;refine next _ _ (h.revive J (P 0) ⟨X1,Y,H,h2,h3,by rw[<-y];exact h4,by rw[<-y];exact h5⟩) ψ (λq hq Q R k cs hc=>?_) c
       all_goals grind [ge,tE.slot]
      | _=>grind
def MB.fresh{S:af}(h:MB w S V m v)(d:match m with|.val _ _=>True|.mut _ cs=>fy cs|.ptr cs=>fy cs):MB w NO V m v:=by
 cases m with
 | val=>trivial
 | «mut» ag cs=>obtain⟨a,u,b,c⟩:=h;exact⟨a,u,b,c.fresh d⟩
 | ptr cs=>obtain⟨e,Y,a,b,c,f,g⟩:=h;exact⟨e,Y,a,b,c,f,g.fresh d⟩
def MB.mono{S:af}(h:MB w S V m v)(c:∀b o,S b o->S' b o):MB w S' V m v:=by
 cases m with
 | val=>trivial
 | «mut» ag a=>exact rx.mono (m:=.mut ag a) h c
 | ptr a=>exact rx.mono (m:=.ptr a) h c
theorem AY.mono{S S':af}(a:∀b o,S b o->S' b o):∀{V:Nat->af}{B:List MA}{vs:List Value},AY w S V B vs->AY w S' V B vs
 | _,[],[],_=>trivial
 | _,_::_,_::_,h=>⟨h.1.mono a,AY.mono a h.2⟩
 | _,[],_::_,h=>h.elim
 | _,_::_,[],h=>h.elim
def AY.fresh{S:af} : ∀{V:Nat->af}{B:List MA}{vs:List Value},AY w S V B vs->Lx B->AY w NO V B vs
 | _,[],[],_,_=>trivial
 | _,.val _ _::_,_::_,h,a=>⟨tV1,AY.fresh h.2 a⟩
 | _,.mut _ _::_,_::_,h,a=>⟨h.1.fresh a.1,AY.fresh h.2 a.2⟩
 | _,.ptr _::_,_::_,h,a=>⟨h.1.fresh a.1,AY.fresh h.2 a.2⟩
 | _,[],_::_,h,_=>h.elim
 | _,_::_,[],h,_=>h.elim
variable{xs:List Operand}
def VR{b:List Nat}(h:xs.length=b.length):(xs.zip b).map (λx=>a.eval x.1)=xs.map a.eval:=by
 rw[show(λx:Operand × Nat=>a.eval x.1)=a.eval ∘ Prod.fst from rfl,<-List.map_map,List.map_fst_zip ω]
variable{Q:Exit->Act->World->Prop}{Kc:Act->World->Prop}{K:(Nat->AV)->Prop}{modes:List Nat}{f:Nat}{o:Oper}
theorem bj.callO(h:bj w0 M S0 N S φ F a w)(L:JY P f->(execOp a.eval o).run P w=.ok (.enter f (xs.map a.eval).toArray) w)(hp:mB P N F o.dst f xs modes K)(hkc:∀F' v w',K F'->St w0 M S0 N F' (a.put o.dst v) w'->Kc (a.put o.dst v) w'):o.wp P a w Kc Q:=by
 obtain⟨F',l,φ',V,u,g,hle,y,hVt,O,C,R⟩:=h.lendP hp;cases n:(xA l&&Nat.beq xs.length modes.length) with
 | false=>grind
 | true=>
  rw[n]at u;simp only[I0]at n;rw[VR (O3 n.2)]at R;obtain⟨b,A,u,T,U⟩:=g.valsP R u;obtain⟨sh,B,k,rcs,hc,W,u⟩:=u.out;have c:Free w0 M S φ' w (λb o=>∃i,V i b o):=λb o ⟨i,p⟩=>y i b o p
  have D:=L hc.1;have fin:∀S2:af,(∀b o,S2 b o->b<w.heap.size)/\Tb w S2->(∀i b o,V i b o->¬S2 b o)->P4 w S2 V A (xs.map a.eval)->((∀b o,S2 b o->S b o)\/(sh=false/\Lx B))->o.wp P a w Kc Q:=by
   intro S2 Y hVS hA r;have hy:DS P o a w λv w1=>∃H,K H/\St w0 M S0 N H (a.put o.dst v) w1:=by
    refine DS.enter D ?_;refine(hc.2 w S2 V _ Y (λi b o p=>⟨(y i b o p).2.2.1,hVS i b o p⟩) O hA).mono λe w1 ⟨v,he,hk,X,V',S1,hX,hV',hS1,E,hXV,hXS,hVS1,hh,hr,hm⟩=>⟨v,he,?_⟩
    have h1:=g.world hk c;have reg:∀Z:af,(∀b o,Z b o->(∃i,V i b o)\/(b<w1.heap.size/\w.heap.size<=b))->Free w0 M S φ' w1 Z:=λZ hZ b o j=>by
     rcases hZ b o j with j|j
     ·obtain⟨a1,a2,a3,a4⟩:=c b o j
      grind [I7,bu.size]
     exact⟨λt G=>by have:=(g.ex t b o G).1;omega,λhS=>by have:=(g.sup b o hS).1;omega,j.1,.inl (S9 g.old.size j.2)⟩
    have h2:bj w0 M S0 N (λb o=>S b o\/S1 b o) φ' F' a w1:=by
     refine h1.addS (V:=λb o=>S1 b o/\((∃i,V i b o)\/(b<w1.heap.size/\w.heap.size<=b))) ψ ψ (λb o j=>?_)
     grind
    have frees:∀Z:af,(∀b o,Z b o->(∃i,V i b o)\/(b<w1.heap.size/\w.heap.size<=b))->(∀b o,Z b o->¬S1 b o)->Free w0 M (λb o=>S b o\/S1 b o) φ' w1 Z:=λZ hZ hn b o j=>by
     obtain⟨a1,a2,a3⟩:=reg Z hZ b o j
     grind
    have hm2:AY w1 (λb o=>S b o\/S1 b o) V' B (xs.map a.eval):=by
     rcases r with q|⟨-,q⟩
     ·grind [AY.mono]
     exact(hm.fresh q).mono λ_ _ h=>h.elim
    obtain⟨H,φ2,J,e2,e3⟩:=bj.rest g hk c C h2 R hm2 ψ ψ E n.1 u;cases hd:o.dst with
    | none=>
     rw[hd]at J;exact⟨H,J,_,φ2,e2⟩
    | some d=>
     rw[hd]at J;have hXf:Free w0 M (λb o=>S b o\/S1 b o) φ2 w1 X:=λb o j=>by
      obtain⟨a1,a2,a3⟩:=frees X hX hXS b o j
      grind
     exact e2.putD_free (X:=X) ⟨NO,X,λ_ _ h=>h.elim,λ_ _ h=>h,λ_ _ h=>h.elim,hh,hr.mono ψ (λ_ _ h=>h)⟩ hXf J
   exact hy Kc Q ψ
  rcases W with hbt|hfr
  ·exact fin S ⟨λb o C=>(g.sup b o C).1,g.par.2⟩ (λi b o p=>(y i b o p).2.1) (U hbt) ψ
  exact fin (oK S φ') ⟨λb o C=>C.elim (λhs=>(g.sup b o hs).1) (λ⟨t,G⟩=>(g.ex t b o G).1),g.par.2.keep (Cj NO w) (λ_ _ h=>h.elim) (λ_ _ h=>.inl h)⟩ (λi b o p hs=>hs.elim (y i b o p).2.1 (λ⟨t,G⟩=>(y i b o p).1 t G)) T (.inr hfr)
theorem vK{F:Nat->AV}{x:Operand}{K:Nat->Nat->Prop}(h:D8 F x K):∃s t off,x=.tmp s/\F s=.ref t off []/\K t off:=by
 unfold D8 at h
 grind
theorem bj.refBox(h:bj w0 M S0 N S φ F a w){s:Nat}(c:F s=.ref t off [])(e:F t=.Y .box cs){g o:Nat}(f:tvs a t=.pointer (some ⟨g,o,none⟩)):tvs a s=.pointer (some ⟨g,o+off,none⟩):=by
 have b:=h.slot s;rw[c]at b;obtain⟨k,d,r,j,i,l,n,-,p,q⟩:=b
 grind [plc,rp]
theorem BY(w:World)(g o j d:Nat):co w .box (.pointer (some ⟨g,o+j,none⟩)) d=co w .box (.pointer (some ⟨g,o,none⟩)) (j+d):=by grind [co]
theorem QE{j:Nat}{c:C}(h:(bP cs off n)[j]? = some c):j<n/\cs[off+j]? = some c:=by grind [bP]
def piece(g o:Nat)(f:Nat->af)(lo a:Nat):af:=λb x=>(b=g/\o+lo<=x/\x<o+a)\/∃j,lo<=j/\j<a/\f j b x
theorem wK{w:World}{S e Y:af}{f:Nat->af}{g o lo:Nat}(y:lo+n<=cs.length)(i:∀j,j<cs.length->e g (o+j)/\(∃z,cel w g (o+j)=some z)/\fro w g (o+j)=NF)(h1:∀j c,cs[j]? = some c->cU w S (f j) c (co w .box (.pointer (some ⟨g,o,none⟩)) j))(h2:∀j,j<cs.length->∀b x,f j b x->Y b x)(A:∀j a,j<cs.length->a<cs.length->j≠a->∀b x,f j b x->¬f a b x)(k:∀b x,e b x->¬Y b x) :
  rx w S (piece g o f lo (lo+n)) (.ptr (bP cs lo n)) (.pointer (some ⟨g,o+lo,none⟩)):=by
 have l:(bP cs lo n).length=n:=by simp[bP];omega
 refine⟨λb x=>b=g/\o+lo<=x/\x<o+(lo+n),λb x=>∃j,lo<=j/\j<lo+n/\f j b x,λb x h=>.inl h,λb x h=>.inr h,λb x p ⟨j,q,r,d⟩=>?_,⟨g,o+lo,rfl,λj d=>?_⟩,λj=>f (lo+j),λj c d=>?_,ψ,ψ⟩
 ·obtain⟨rfl,t,u⟩:=p
  have:=(i (x - o) ω).1
  grind
 ·rw[l]at d
  have:=i (lo+j) ω
  grind
 grind [QE,BY]
theorem bj.callP(h:bj w0 M S0 N S φ F a w)(hxs:JY P f->(execOp a.eval o).run P w=.ok (.enter f (xs.map a.eval).toArray) w){n0 n1:Nat}(hp:lF P N F o.dst f xs n0 n1 K)(hkc:∀F' v w',K F'->St w0 M S0 N F' (a.put o.dst v) w'->Kc (a.put o.dst v) w'):o.wp P a w Kc Q:=by
 unfold lF at hp;split at hp
 case h_2=>exact hp.elim
 rename_i x0 x1;obtain⟨s0,t,u,rfl,hs0,hp⟩:=vK hp;obtain⟨s1,A,r,rfl,hs1,hp⟩:=vK hp;split at hp
 case h_2=>exact hp.elim
 rename_i cs hF;cases hb:(Nat.beq A t&&Nat.ble (u+n0) r&&Nat.ble (r+n1) cs.length) with
 | false=>grind
 | true=>
 rw[hb]at hp;simp only[cond_true,d9]at hp;simp only[I0]at hb;obtain⟨⟨hb1,hb2⟩,hb3⟩:=hb;have hb1:=O3 hb1;have hb2:=C2 hb2;have hb3:=C2 hb3;subst hb1;obtain⟨sh,B,k,rcs,hc,-,hK⟩:=hp.out;have hst:=h.slot A;rw[hF]at hst;obtain⟨X1,Y,hX1,hY,hXY,⟨g,q,hv,C⟩,ff,hf1,hf2,hf3⟩:=hst;rw[hv]at hf1;have e0:=h.refBox hs0 hF hv;have e1:=h.refBox hs1 hF hv
 let V:Nat->af:=λi=>if i=0 then piece g q ff u (u+n0) else if i=1 then piece g q ff r (r+n1) else NO
 have hpφ:∀lo U,U<=cs.length->∀b x,piece g q ff lo U b x->φ A b x:=λlo U hhi b x l=>by
  rcases l with⟨rfl,h1,h2⟩|⟨j,-,h2,G⟩
  ·have:=(C (x - q) ω).1
   grind
  grind
 have hVφ:∀i b x,V i b x->φ A b x:=λi b x l=>by
  simp only[V]at l;split at l
  ·grind
  split at l
  ·grind
  exact l.elim
 have hcX:∀x,q<=x->x<q+cs.length->X1 g x:=λx h1 h2=>by
  have:=(C (x - q) ω).1
  grind
 have hpd:∀lo U lo' hi',U<=lo'->hi'<=cs.length->∀b x,piece g q ff lo U b x->¬piece g q ff lo' hi' b x:=λlo U lo' hi' h1 h2 b x l p=>by
  rcases l with⟨rfl,G,h4⟩|⟨j,G,h4,h5⟩
  ·rcases p with⟨-,h6,h7⟩|⟨H,h6,h7,h8⟩
   all_goals grind
  rcases p with⟨rfl,h6,h7⟩|⟨H,h6,h7,h8⟩
  all_goals grind
 have hVd:∀i i',i≠i'->∀b x,V i b x->¬V i' b x:=λi i' hne b x l p=>by
  simp only[V]at l p;by_cases i0:i=0
  ·rw[CJ i0]at l
   by_cases i1:i'=0
   ·omega
   rw[CI i1]at p;split at p
   ·grind
   exact p
  rw[CI i0]at l;by_cases i2:i=1
  ·rw[CJ i2]at l
   by_cases i1:i'=0
   ·grind
   rw[CI i1,CI ω]at p;exact p
  rw[CI i2]at l;exact l
 have h':=h.forget A;have hφ'le:∀s b x,(if s=A then NO else φ s) b x->s≠A/\φ s b x:=λs b x l=>by
  split at l
  ·exact l.elim
  grind
 have hfree:∀b x,φ A b x->(∀s,¬(if s=A then NO else φ s) b x)/\¬S b x/\b<w.heap.size/\(w0.heap.size<=b\/M b x):=λb x l=>⟨λs J=>by
   obtain⟨h1,h2⟩:=hφ'le s b x J;exact h.dis s A h1 b x h2 l,h.disS A b x l,h.ex A b x l⟩
 have hVall:Free w0 M S (λs=>if s=A then NO else φ s) w (λb x=>∃i,V i b x):=λb x ⟨i,U⟩=>hfree b x (hVφ i b x U)
 have hA:P4 w S V [.ptr (bP cs u n0),.ptr (bP cs r n1)] ([Operand.tmp s0,.tmp s1].map a.eval):=by
  refine⟨?_,?_,tV1⟩
  ·show rx w S (V 0) _ (tvs a s0)
   rw[e0];exact wK ω C hf1 hf2 hf3 hXY
  show rx w S (V 1) _ (tvs a s1);rw[e1];exact wK ω C hf1 hf2 hf3 hXY
 have hrun:=hxs hc.1;have hy:DS P o a w λv w1=>∃F2,K F2/\St w0 M S0 N F2 (a.put o.dst v) w1:=by
  refine DS.enter hrun ?_;refine(hc.2 w S V _ ⟨λb x hb=>(h'.sup b x hb).1,h'.par.2⟩ ψ hVd hA).mono λe w1 ⟨v,he,hk,X,V',S1,hX,hV',hS1,hVd',hXV,hXS,hVS1,hh,hr,hm⟩=>⟨v,he,?_⟩
  have h1:=h'.world hk hVall;have reg:∀Z:af,(∀b o,Z b o->(∃i,V i b o)\/(b<w1.heap.size/\w.heap.size<=b))->Free w0 M S (λs=>if s=A then NO else φ s) w1 Z:=λZ hZ b o y=>by
   rcases hZ b o y with y|y
   ·grind [I7,bu.size]
   exact⟨λt ht=>by have:=(h'.ex t b o ht).1;omega,λhS=>by have:=(h'.sup b o hS).1;omega,y.1,.inl (S9 h'.old.size y.2)⟩
  have h2:bj w0 M S0 N (λb o=>S b o\/S1 b o) (λs=>if s=A then NO else φ s) (kill F A) a w1:=by
   refine h1.addS (V:=λb o=>S1 b o/\((∃i,V i b o)\/(b<w1.heap.size/\w.heap.size<=b))) (reg _ λb o y=>y.2) ψ (λb o y=>?_);rcases y with y|y
   ·exact .inl y
   rcases hS1 b o y with⟨q1,q2⟩|q
   ·exact .inl q2
   exact .inr ⟨y,q⟩
  have frees:∀Z:af,(∀b o,Z b o->(∃i,V i b o)\/(b<w1.heap.size/\w.heap.size<=b))->(∀b o,Z b o->¬S1 b o)->Free w0 M (λb o=>S b o\/S1 b o) (λs=>if s=A then NO else φ s) w1 Z:=λZ hZ hn b o y=>by
   obtain⟨a1,a2,a3⟩:=reg Z hZ b o y
   grind
  have hm2:=hm.mono (S':=λb o=>S b o\/S1 b o) λb o y=>y
  unfold BB at hK;split at hK
  case h_2=>exact hK.elim
  rename_i c0 c1 _;cases hl:(Nat.beq c0.length n0&&Nat.beq c1.length n1) with
  | false=>grind
  | true=>
  rw[hl]at hK;simp only[cond_true,d9]at hK;simp only[I0]at hl;have l0:=O3 hl.1;have l1:=O3 hl.2;have hm0:rx w1 (λb o=>S b o\/S1 b o) (V' 0) (.ptr c0) (tvs a s0):=hm2.1;have hm1:rx w1 (λb o=>S b o\/S1 b o) (V' 1) (.ptr c1) (tvs a s1):=hm2.2.1;rw[e0]at hm0;rw[e1]at hm1;obtain⟨Xa,Ya,ha1,ha2,ha3,⟨ga,oa,hea,ha4⟩,fa,ha5,ha6,ha7⟩:=hm0;obtain⟨Xb,Yb,hb1,hb2',hb3',⟨gb,ob,heb,hb4⟩,fb,hb5,hb6,hb7⟩:=hm1;obtain⟨rfl,rfl⟩ : g=ga/\q+u=oa:=by simpa using hea
  obtain⟨rfl,rfl⟩ : g=gb/\q+r=ob:=by simpa using heb
  let R:af:=λb x=>φ A b x/\¬∃i,V i b x
  let IR:Nat->Prop:=λj=>¬(u<=j/\j<u+n0)/\¬(r<=j/\j<r+n1)
  have hIRc:∀j,j<cs.length->IR j->R g (q+j):=λj D U=>⟨hX1 _ _ (C j D).1,λ⟨i,l⟩=>by
    simp only[V]at l;split at l
    · rcases l with⟨-,G,h4⟩|⟨H,G,h4,h5⟩
      · omega
      grind
    split at l
    · rcases l with⟨-,G,h4⟩|⟨H,G,h4,h5⟩
      · omega
      grind
    exact l⟩
  have E:∀j,j<cs.length->IR j->∀b x,ff j b x->R b x:=λj D U b x l=>⟨hY _ _ (hf2 j D b x l),λ⟨i,W⟩=>by
    have gen:∀lo n,lo+n<=cs.length->¬(lo<=j/\j<lo+n)->¬piece g q ff lo (lo+n) b x:=λlo n hn hno hp=>by
      rcases hp with⟨rfl,G,h4⟩|⟨H,G,h4,h5⟩
      · exact hXY _ _ (hcX x ω ω) (hf2 j D _ _ l)
      grind
    simp only[V]at W;split at W
    · exact gen _ _ ω U.1 W
    split at W
    · exact gen _ _ ω U.2 W
    exact W⟩
  have hRold:∀b x,R b x->b<w.heap.size:=ψ
  have hRsame:b8 R w w1:=λb x l=>⟨hk.cel b x (hRold b x l) l.2,hk.fro b x (hRold b x l) l.2⟩
  have L:∀i b x,R b x->¬V' i b x:=λi b x l W=>by
   rcases hV' i b x W with G|G
   ·exact l.2 G
   grind
  have hRS1:∀b x,R b x->¬S1 b x:=λb x l J=>by
   rcases hS1 b x J with⟨-,G⟩|G|G
   ·grind
   ·exact l.2 G
   grind
  have hSsame:b8 S w w1:=λb x hb=>⟨hk.cel b x (h.sup b x hb).1 (λ⟨i,U⟩=>h.disS A b x (hVφ i b x U) hb),hk.fro b x (h.sup b x hb).1 (λ⟨i,U⟩=>h.disS A b x (hVφ i b x U) hb)⟩
  let Z:af:=λb x=>V' 0 b x\/V' 1 b x\/R b x
  have hZ:Free w0 M (λb o=>S b o\/S1 b o) (λs=>if s=A then NO else φ s) w1 Z:=λb x y=>by
   rcases y with y|y|y
   ·exact frees (V' 0) (hV' 0) (hVS1 0) b x y
   ·exact frees (V' 1) (hV' 1) (hVS1 1) b x y
   obtain⟨a1,a2,a3,a4⟩:=hfree b x y.1;exact⟨a1,λhh=>hh.elim a2 (hRS1 b x y),I7 a3 hk.size,a4⟩
  have hget:∀j,(splice (splice cs u c0) r c1)[j]? = if r<=j/\j<r+n1 then c1[j - r]? else if u<=j/\j<u+n0 then c0[j - u]? else cs[j]?:=λj=>by
   rw[kw (by rw[db ω];omega),kw ω,l0,l1]
  have hlen:(splice (splice cs u c0) r c1).length=cs.length:=by rw[db (by rw[db ω];omega),db ω]
  have hsl:cP w1 (λb o=>S b o\/S1 b o) (kill F A) (tvs a) Z (.Y .box (splice (splice cs u c0) r c1)) (tvs a A):=by
   refine⟨λb x=>(R b x/\∃j,j<cs.length/\IR j/\b=g/\x=q+j)\/Xa b x\/Xb b x,λb x=>(∃j,j<cs.length/\IR j/\ff j b x)\/Ya b x\/Yb b x,λb x l=>?_,λb x l=>?_,λb x l hy=>?_,⟨g,q,hv,λj D=>?_⟩,λj=>if r<=j/\j<r+n1 then fb (j - r) else if u<=j/\j<u+n0 then fa (j - u) else ff j,λj c D=>?_,λj D b x l=>?_,λj H D hj' hne b x l p=>?_⟩
   ·grind
   ·rcases l with⟨j,G,h4,h5⟩|l|l
    ·exact .inr (.inr (E j G h4 b x h5))
    ·grind
    grind
   ·rcases l with⟨l,j,G,h4,rfl,rfl⟩|l|l
    ·grind
    ·rcases hy with⟨H,h5,h6,h7⟩|hy|hy
     ·exact L 0 _ _ (E H h5 h6 b x h7) (ha1 _ _ l)
     ·exact ha3 _ _ l hy
     grind
    rcases hy with⟨H,h5,h6,h7⟩|hy|hy
    ·exact L 1 _ _ (E H h5 h6 b x h7) (hb1 _ _ l)
    ·grind
    grind
   ·rw[hlen]at D
    by_cases O:r<=j/\j<r+n1
    ·have:=hb4 (j - r) ω
     rw[show q+r+(j - r)=q+j by omega]at this;exact⟨.inr (.inr this.1),this.2⟩
    by_cases T:u<=j/\j<u+n0
    ·have:=ha4 (j - u) ω
     rw[show q+u+(j - u)=q+j by omega]at this;exact⟨.inr (.inl this.1),this.2⟩
    have hR:=hIRc j D ⟨T,O⟩;have J:=hRsame _ _ hR;refine⟨.inl ⟨hR,j,D,⟨T,O⟩,rfl,rfl⟩,?_,?_⟩
    ·rw[J.1];exact(C j D).2.1
    grind
   ·rw[hget]at D
    rw[hv];dsimp only;by_cases O:r<=j/\j<r+n1
    ·rw[CJ O]at D |-
     have:=hb5 _ _ D
     rwa [BY,show r+(j - r)=j by omega]at this
    rw[CI O]at D |-;by_cases T:u<=j/\j<u+n0
    ·rw[CJ T]at D |-
     have:=ha5 _ _ D
     rwa [BY,show u+(j - u)=j by omega]at this
    rw[CI T]at D |-;have hjl:=(C4.1 D).1;have G:=(hf1 j c D).keep hSsame (λb x l=>hRsame b x (E j hjl ⟨T,O⟩ b x l));have hce:=(hRsame _ _ (hIRc j hjl ⟨T,O⟩)).1;have:co w1 .box (.pointer (some ⟨g,q,none⟩)) j=co w .box (.pointer (some ⟨g,q,none⟩)) j:=by grind [co]
    rw[this];exact G.mono (λ_ _ h=>.inl h) (λ_ _ h=>h)
   ·rw[hlen]at D
    split at l
    ·grind
    rename_i O;split at l
    ·grind
    rename_i T;exact .inl ⟨j,D,⟨T,O⟩,l⟩
   rw[hlen]at D hj';have fbV:∀i,i<n1->∀b x,fb i b x->V' 1 b x:=ψ
   have faV:∀i,i<n0->∀b x,fa i b x->V' 0 b x:=ψ
   by_cases c1:r<=j/\j<r+n1
   ·rw[CJ c1]at l
    by_cases d1:r<=H/\H<r+n1
    ·rw[CJ d1]at p
     exact hb7 _ _ ω ω ω b x l p
    rw[CI d1]at p;by_cases d0:u<=H/\H<u+n0
    ·rw[CJ d0]at p
     exact hVd' 0 1 ω b x (faV _ ω b x p) (fbV _ ω b x l)
    rw[CI d0]at p;exact L 1 b x (E H hj' ⟨d0,d1⟩ b x p) (fbV _ ω b x l)
   rw[CI c1]at l;by_cases c0':u<=j/\j<u+n0
   ·rw[CJ c0']at l
    by_cases d1:r<=H/\H<r+n1
    ·rw[CJ d1]at p
     exact hVd' 0 1 ω b x (faV _ ω b x l) (fbV _ ω b x p)
    rw[CI d1]at p;by_cases d0:u<=H/\H<u+n0
    ·rw[CJ d0]at p
     exact ha7 _ _ ω ω ω b x l p
    rw[CI d0]at p;exact L 0 b x (E H hj' ⟨d0,d1⟩ b x p) (faV _ ω b x l)
   rw[CI c0']at l;by_cases d1:r<=H/\H<r+n1
   ·rw[CJ d1]at p
    exact L 1 b x (E j D ⟨c0',c1⟩ b x l) (fbV _ ω b x p)
   rw[CI d1]at p;by_cases d0:u<=H/\H<u+n0
   ·rw[CJ d0]at p
    exact L 0 b x (E j D ⟨c0',c1⟩ b x l) (faV _ ω b x p)
   rw[CI d0]at p
   grind
  have G:=h2.revive (rW F A) hZ hsl;cases hd:o.dst with
  | none=>
   rw[hd]at hK;exact⟨_,hK,_,_,G⟩
  | some d=>
   rw[hd]at hK;have hXf:Free w0 M (λb o=>S b o\/S1 b o) (λs=>if s=A then Z else if s=A then NO else φ s) w1 X:=λb o y=>by
    obtain⟨a1,a2,a3⟩:=frees X hX hXS b o y;refine⟨λs J=>?_,a2,a3⟩;replace J:(if s=A then Z else if s=A then NO else φ s) b o:=J;split at J
    ·rcases J with J|J|J
     ·exact hXV 0 b o y J
     ·exact hXV 1 b o y J
     rcases hX b o y with h4|h4
     ·exact J.2 h4
     have:=hRold b o J;omega
    rename_i hne;exact a1 s (by dsimp only;rw[CI hne];first|exact J|(rw[CI hne]at J;exact J))
   exact G.putD_free (X:=X) ⟨NO,X,λ_ _ h=>h.elim,λ_ _ h=>h,λ_ _ h=>h.elim,hh,hr.mono (λ_ _ h=>.inr h) (λ_ _ h=>h)⟩ hXf hK
 exact hy Kc Q ψ
theorem bj.callM(h:bj w0 M S0 N S φ F a w)(c:JY P f->(execOp a.eval o).run P w=.ok (.enter f (xs.map a.eval).toArray) w)(e:l9 P N F o.dst f xs modes K)(d:∀F' v b,K F'->St w0 M S0 N F' (a.put o.dst v) b->Kc (a.put o.dst v) b):o.wp P a w Kc Q:=by grind [bj.callP,bj.callO,l9]
end
open Go.ChangeMaps (setBlock)
def rF(TE:Nat->Option TI)(N:fF)(F:Nat->AV)(d T:Nat)(x:Operand)(K:(Nat->AV)->Prop):Prop:=
 match TE T with
 | some ⟨_,_,_,.mp _ _ _⟩=>gX F x λa b c=>match b,c with
  | none,[.m es]=>bV N a d (.Y .one [.it none (es.map (·.1))]) K
  | _,_=>False
 | _=>False
inductive Nt(left:List Int)(K:Option (Int × List Int)->Prop):Prop
 |mk_ (h:(left=[]->K none)/\∀l1 k l2,left=l1++k::l2->K (some (k,l1++l2)))
variable{left:List Int}
theorem Nt.mk{K:Option (Int × List Int)->Prop}(c:left=[]->K none)(h1:∀a k b,left=a++k::b->K (some (k,a++b))):Nt left K:=.mk_ ⟨c,h1⟩
theorem Nt.out{K:Option (Int × List Int)->Prop}(h:Nt left K):(left=[]->K none)/\∀a k b,left=a++k::b->K (some (k,a++b)):=by
 obtain⟨h⟩:=h;exact h
def xo(N:fF)(F:Nat->AV)(d:Nat)(x:Operand)(K:(Nat->AV)->Prop):Prop:=
 match x with
 | .tmp s=>(match F s with
   | .Y .one [.it _ left]=>Nt left λr=>match r with
     | none=>bV N F d (.Y (.tup [none]) [.v (.bool false)]) K
     | some p=>bV N (updH F s .one [.it (some p.1) p.2]) d (.Y (.tup [none,none,none]) [.v (.bool true),.v (.int .i64 p.1),.x]) K
   | _=>False)
 | _=>False
def sw(N:fF)(F:Nat->AV)(d:Nat)(x:Operand)(K:(Nat->AV)->Prop):Prop:=
 match x with
 | .tmp s=>(match F s with
   | .Y .one [.it (some k) _]=>bV N F d (.Y (.tup [none,none]) [.v (.int .i64 k),.x]) K
   | _=>False)
 | _=>False
def jT(N:fF)(F:Nat->AV)(d:Nat)(x:Operand)(K:(Nat->AV)->Prop):Prop:=
 match x with
 | .tmp t=>(match F t with
   | .Y (.tup sh) b=>bif br b then bV N F d (.Y (.tup sh) b) K else bV N (updH F t (.tup sh) (splice b 0 (List.replicate b.length .x))) d (.Y (.tup sh) b) K
   | .Y .one _=>bN F (.tmp t) λa=>bV N F d a K
   | .Y .agg _=>bN F (.tmp t) λa=>bV N F d a K
   | .Y .box _=>bN F (.tmp t) λa=>bV N F d a K
   | .ref ..=>bN F (.tmp t) λa=>bV N F d a K
   | .c5 ..=>bN F (.tmp t) λa=>bV N F d a K
   | .iref ..=>bN F (.tmp t) λa=>bV N F d a K
   | .fn ..=>bN F (.tmp t) λa=>bV N F d a K
   | .fv _=>bN F (.tmp t) λa=>bV N F d a K
   | .dead=>bN F (.tmp t) λa=>bV N F d a K)
 | x=>bN F x λa=>bV N F d a K
section
variable{P:Program}{w0 w w1:World}{M S0 S:af}{N:fF}{φ:Nat->af}{F:Nat->AV}{a:Act}{TE:Nat->Option TI}
variable{v:Value}
theorem T3{Y:af}{cur:Option Int}{left:List Int}(h:cU w S Y (.it cur left) v):∃(r b since f d:Nat)(seen:Array Nat)(a:Array MapEntry),v=.pointer (some ⟨r,0,none⟩)/\(∀o,Y r o/\Y b o)/\mp w r=some (.mapIter (some b) since seen f)/\mp w b=some (.map a d)/\
  ((a.toList.map (·.born)).Nodup/\∀x∈a.toList,x.born<since)/\(since<=f/\since<=d)/\(∀x∈a.toList,x.val.oneCell'=true)/\(leftOf a seen).toList.map (·.key)=left.map (Value.int .i64)/\(∀k,cur=some k->f=d/\∃e∈a.toList,∃i:Array Nat,seen=i.push e.born/\e.key=.int .i64 k):=by
 generalize j:C.it cur left=c at h;cases h with
 | it _ r b since f d seen a cur' left' p q t l n u y g=>grind
 | _=>cases j
theorem Wx{b:Nat}{o:Obj}(h:mp w b=some o):b<w.heap.size:=by grind [mp]
theorem Gu{b:Nat}{o:Obj}(h:b<w.heap.size):mp (w.alloc o) b=mp w b:=by grind [Go.heap_alloc_old,mp]
theorem PD{a:Array MapEntry}{b:List (Int × Value)}(d:a.toList.map (λe=>(e.key,e.val))=b.map (λp=>(Value.int .i64 p.1,p.2)))(c:∀p∈b,p.2.oneCell'=true):∀x∈a.toList,x.val.oneCell'=true:=by
 intro y f;have:(y.key,y.val)∈a.toList.map (λe=>(e.key,e.val)):=ψ
 grind
variable{K:(Nat->AV)->Prop}{x:Operand}{d:Nat}
theorem bj.rangeW(h:bj w0 M S0 N S φ F a w)(n:∀t i,TE t=some i->ix P t i){T:Nat}(k:rF TE N F d T x K) :
  ∃v w1 F',K F'/\(Instr.range T (a.eval x)).run P w=.ok v w1/\St w0 M S0 N F' (a.put (some d) v) w1:=by
 unfold rF at k;split at k
 case h_2=>exact k.elim
 rename_i C;obtain⟨R,-,-,-⟩:=(n _ _ C).2.2;obtain⟨F',D,E,V,φ',p,l,G,U,W,H⟩:=h.taken k
 match D,E,p with
 | none,[.m es],p=>
  obtain⟨b,c,e,Y,A,f,B,q,r⟩:=R8 G.rep1;have u:=Wx f
  let o:Obj:=.mapIter (some b) c #[] c
  have J:=l.world (w1:=w.alloc o) (cQ w _) (λ_ _ h=>h.elim);have g:leftOf e #[]=e:=by unfold leftOf;simp
  obtain⟨L,y,j⟩:=J.putD_free (X:=λb o=>V b o\/b=w.heap.size) (v:=.pointer (some ⟨w.heap.size,0,none⟩)) (F:=F')
   (gH (.it _ w.heap.size b c c c #[] e none (es.map (·.1)) ψ (by grind [Go.heap_alloc_new,mp]) ((Gu u).trans f) r ω (PD B q)
     (by
       rw[g];have:=I1 (List.map Prod.fst) B
       grind [OB]) ψ)) (λb o f=>by
   rcases f with f|f
   · grind [mG]
   exact⟨λt O=>by have:=(l.ex t b o O).1;omega,λQ=>by have:=(l.sup b o Q).1;omega,by simp_all,.inl (by rw[f];exact l.old.size)⟩) p
  exact⟨_,_,L,y,by grind [Go.run_range_map,rO],j⟩
def wv(a:v.oneCell'=true):v.cells = #[v]:=by
 cases v<;>first|rfl|(cases a)
theorem P8{a:Array MapEntry}{seen:Array Nat}{e:MapEntry}(i:(a.toList.map (·.born)).Nodup)(g:e∈(leftOf a seen).toList):∃b c,(leftOf a seen).toList=b++e::c/\(leftOf a (seen.push e.born)).toList=b++c:=by
 obtain⟨b,c,d⟩:=List.append_of_mem g;refine⟨b,c,d,?_⟩;have h:(leftOf a (seen.push e.born)).toList=(leftOf a seen).toList.filter λy=>!(y.born == e.born):=by
  unfold leftOf;rw[Array.toList_filter,Array.toList_filter,List.filter_filter]
  grind
 have f:((leftOf a seen).toList.map (·.born)).Nodup:=by grind [Go.leftOf]
 rw[d]at f;rw[h,d,List.filter_append,List.filter_cons]
 grind [List.filter_eq_self]
variable{tv:Nat->Value}
def tup3{w:World}{S:af}{F:Nat->AV}{k:Int}(b:v.oneCell'=true):cP w S F tv NO (.Y (.tup [none,none,none]) [.v (.bool true),.v (.int .i64 k),.x]) (.tuple #[.bool true,.int .i64 k,v]):=by
 have d:v.cells = #[v]:=wv b;refine⟨NO,NO,λ_ _ h=>h,λ_ _ h=>h,λ_ _ h=>h.elim,⟨_,rfl,⟨rfl,rfl,d,tV1⟩,rfl⟩,λ_=>NO,λj c a=>?_,λ_ _ _ _ h=>h,λ_ _ _ _ _ _ _ h=>h.elim⟩;have e:j8 (.tuple #[.bool true,.int .i64 k,v])=[.bool true,.int .i64 k,v]:=by
  show #[Value.bool true].toList++(#[Value.int .i64 k].toList++(v.cells.toList++[]))=_;rw[d];rfl
 simp only[co,e]
 match j,a with
 | 0,a=>simp at a;subst a;exact .v _ _ rfl
 | 1,a=>simp at a;subst a;exact .v _ _ rfl
 | 2,a=>simp at a;subst a;exact .x _ _ b
 | j+3,a=>simp at a
def tup2{w:World}{S:af}{F:Nat->AV}{k:Int}(b:v.oneCell'=true):cP w S F tv NO (.Y (.tup [none,none]) [.v (.int .i64 k),.x]) (.tuple #[.int .i64 k,v]):=by
 have d:v.cells = #[v]:=wv b;refine⟨NO,NO,λ_ _ h=>h,λ_ _ h=>h,λ_ _ h=>h.elim,⟨_,rfl,⟨rfl,d,tV1⟩,rfl⟩,λ_=>NO,λj c a=>?_,λ_ _ _ _ h=>h,λ_ _ _ _ _ _ _ h=>h.elim⟩;have e:j8 (.tuple #[.int .i64 k,v])=[.int .i64 k,v]:=by
  show #[Value.int .i64 k].toList++(v.cells.toList++[])=_;rw[d];rfl
 simp only[co,e]
 match j,a with
 | 0,a=>simp at a;subst a;exact .v _ _ rfl
 | 1,a=>simp at a;subst a;exact .x _ _ b
 | j+2,a=>simp at a
theorem tup1{w:World}{S:af}{F:Nat->AV}(b:v.oneCell'=true):cP w S F tv NO (.Y (.tup [none]) [.v v]) (.tuple #[v]):=by
 have d:v.cells = #[v]:=wv b;refine⟨NO,NO,λ_ _ h=>h,λ_ _ h=>h,λ_ _ h=>h.elim,⟨_,rfl,⟨d,tV1⟩,rfl⟩,λ_=>NO,λj c a=>?_,λ_ _ _ _ h=>h,ψ⟩;have e:j8 (.tuple #[v])=[v]:=by
  show v.cells.toList++[]=_;rw[d];rfl
 simp only[co,e]
 match j,a with
 | 0,a=>simp at a;subst a;exact .v _ _ b
 | j+1,a=>simp at a
theorem bj.entryW(h:bj w0 M S0 N S φ F a w)(c:sw N F d x K) :
  ∃v F',K F'/\(Instr.entry (a.eval x)).run P w=.ok v w/\St w0 M S0 N F' (a.put (some d) v) w:=by
 cases x with
 | tmp s=>
  simp only[sw]at c;have n:=h.slot s;split at c
  case h_2=>exact c.elim
  rename_i k left t;rw[t]at n;obtain⟨D,Y,E,G,H,J,f,u,L,O⟩:=n;obtain⟨r,b,since,Q,j,seen,o,p,q,R,T,y,A,l,U,g⟩:=T3 (u 0 _ rfl);obtain⟨rfl,e,B,V,rfl,W⟩:=g k rfl;have p:tvs a s=.pointer (some ⟨r,0,none⟩):=p;obtain⟨F',C,i⟩:=h.putD_new (v:=.tuple #[.int .i64 k,e.val]) (.same (tup2 (l e B))) c;refine⟨_,F',C,?_,i⟩;show(Instr.entry (tvs a s)).run P w=_
  grind [Go.run_entry_at,Gy,rO]
 | _=>exact c.elim
theorem bj.nextW(h:bj w0 M S0 N S φ F a w){ty:Nat}(y:xo N F d x K) :
  ∃v w1 F',K F'/\(Instr.next (a.eval x) false ty).run P w=.ok v w1/\St w0 M S0 N F' (a.put (some d) v) w1:=by
 cases x with
 | tmp s=>
  simp only[xo]at y;have hs:=h.slot s;split at y
  case h_2=>exact y.elim
  rename_i cur left hF;rw[hF]at hs;obtain⟨X1,Y,e1,e2,e3,e4,f,f1,f2,f3⟩:=hs;obtain⟨r,b,since,c0,g,seen,n,O,C,hr,hb,A,B,D,hl,hcur⟩:=T3 (f1 0 _ rfl);have O:tvs a s=.pointer (some ⟨r,0,none⟩):=O;obtain⟨p0,p1⟩:=y.out;show ∃v w1 F',K F'/\(Instr.next (tvs a s) false ty).run P w=.ok v w1/\St w0 M S0 N F' (a.put (some d) v) w1
  rw[O];rcases run_next_at (P:=P) w ty r b since c0 seen n g (Gy hr) (rO hb) A.2 B.1 with⟨hsz,E⟩|⟨e,he,l,G,E⟩
  ·have Q:left=[]:=by simp_all
   obtain⟨F',hK,H⟩:=h.putD_new (v:=.tuple #[.bool false]) (.same (tup1 rfl)) (p0 Q)
   grind
  obtain⟨l1,l2,q1,q2⟩:=P8 A.1 he;have R:=(mem_left he).1;rw[q1,IB,SB]at hl;obtain⟨T,J,hm,hm1,q⟩:=List.map_eq_append_iff.1 hl.symm;cases J with
  | nil=>simp at q
  | cons k J=>
   simp only[SB,List.cons.injEq]at q;obtain⟨hk,q⟩:=q;have y:=p1 T k J hm;have h2:bj w0 M S0 N S φ F a l:=by
    rcases G with rfl|rfl
    ·exact h
    exact h.more (w1:={w with drawn:=w.drawn+1}) (λ_ _ h=>h) ψ ⟨rfl,rfl,rfl,O5 _,λ_ _ _=>rfl,λ_ _ _ _=>rfl,λ_ _ _ _=>rfl⟩
   have U:l.heap=w.heap:=by rcases G with rfl|rfl<;>rfl
   have V:mp l r=some (.mapIter (some b) since seen c0):=by grind [mp]
   have hb2:mp l b=some (.map n g):=by grind [mp]
   have W:r<l.heap.size:=Wx V;have Z:b≠r:=ψ
   let o':Obj:=.mapIter (some b) since (seen.push e.born) g
   let p:World:=setBlock l r o'
   have hh:∀i,p.heap[i]? = if i=r then some o' else l.heap[i]?:=λi=>ux (w:=l) (b:=r) (o:=o') W i
   have hother:∀i,i≠r->∀o,cel p i o=cel l i o/\fro p i o=fro l i o:=λi hne o=>by grind [Go.World.cell?,Go.World.frozen?,mp]
   have hcelr:∀o,cel p r o=cel l r o:=λo=>by grind [Gy,Go.World.cell?]
   have hYr:∀o,φ s r o:=by simp_all
   have hk1:bu (φ s) l p:=by
    refine⟨rfl,rfl,rfl,by simp[p,setBlock],λi L hn=>(hh i).trans (CI λe=>?_),ψ,ψ⟩
    ·simp_all
    all_goals grind
   have hsame:∀X:af,(∀i o,X i o->i≠r)->b8 X l p:=λX hX i o L=>hother i (hX i o L) o
   have h3:bj w0 M S0 N S (λt=>if t=s then φ s else φ t) (updH F s .one [.it (some k) (T++J)]) a p:=by
    refine h2.upd (X:=φ s) hk1 hF ψ ⟨NO,Y,λ_ _ h=>h.elim,e2,λ_ _ h=>h.elim,rfl,f,λj c u=>?_,λj u=>f2 j u,ω⟩
    match j,u with
    | 0,u=>
     simp at u;subst u;show cU p S (f 0) _ (tvs a s);rw[O];refine .it _ r b since g g (seen.push e.born) n (some k) (T++J) C (by grind [mp]) (by
       have:mp p b=mp l b:=I1 Prod.snd (hother b Z 0).2
       grind) A ⟨B.2,B.2⟩ D ψ ψ
    | j+1,u=>simp at u
   obtain⟨F',hK,H⟩:=h3.putD_new (v:=.tuple #[.bool true,.int .i64 k,e.val]) (.same (tup3 (D e R))) y
   grind
 | _=>exact y.elim
theorem bj.moveW(h:bj w0 M S0 N S φ F a w)(c:jT N F d x K) :
  ∃F',K F'/\St w0 M S0 N F' (a.put (some d) (a.eval x)) w:=by
 have std:bN F x (λy=>bV N F d y K)->∃F',K F'/\St w0 M S0 N F' (a.put (some d) (a.eval x)) w:=λc=>by
  obtain⟨y,C,l⟩:=h.move c;exact h.putD_new (.same l) C
 cases x with
 | tmp t=>
  simp only[jT]at c;split at c
  ·rename_i D k A
   cases E:br k with
   | true=>
    grind [bN]
   | false=>
    rw[E]at c;simp only[cond_false]at c;have l:=h.slot t;rw[A]at l;obtain⟨O,P,-,-,-,G,-⟩:=l;obtain⟨V,X,p,Q,R,B,H⟩:=h.take (off:=0) (n:=k.length) A ω;have J:bP k 0 k.length=k:=by simp[bP]
    rw[J]at B;have i:Free w0 M S (λs=>if s=t then X else φ s) w V:=λb o q=>⟨λs j=>by
      simp only at j;by_cases e:s=t
      · grind
      rw[CI e]at j;exact h.dis s t e b o j (p b o q),h.disS t b o (p b o q),h.ex t b o (p b o q)⟩
    obtain⟨L,r,u⟩:=H.putD_free (X:=V) (v:=tvs a t) ⟨NO,V,λ_ _ h=>h.elim,λ_ _ h=>h,λ_ _ h=>h.elim,(show fZ w NO (.tup D) k.length (tvs a t) from G),B.congr ψ⟩ i c;exact⟨L,r,u⟩
  all_goals exact std c
 | const v=>exact std c
 | global g=>exact std c
 | func f=>exact std c
end
def oP(rows:List (List C)):C:=match rows with|[]=>.s .R []|_=>.s .own rows
def XB(h:rows≠[]):oP rows=.s .own rows:=by cases rows with|nil=>exact absurd rfl h|cons=>rfl
def X8(N:fF)(d:Nat):Bool:=N.mo.any λp=>Nat.beq p.1 (7000000+d)
def Kt(TE:Nat->Option TI)(N:fF)(F:Nat->AV)(d T:Nat)(x b:Operand)(K:(Nat->AV)->Prop):Prop:=
 L9 TE T λ_ c=>Dd F b λn=>gX F x λe f g=>match f,g with
  | none,[.s .own rows]=>Sl rows c.size none (some n) λa=>bV N e d (.Y .one [oP a]) K
  | _,_=>False
def HU(TE:Nat->Option TI)(N:fF)(F:Nat->AV)(d T:Nat)(x lo:Operand)(K:(Nat->AV)->Prop):Prop:=
 L9 TE T λ_ b=>Dd F lo λn=>gX F x λc e f=>match e,f with
  | none,[.s .own rows]=>Sl rows b.size (some n) none λa=>bV N c d (.Y .one [.s .suf a]) K
  | _,_=>False
section
variable{P:Program}{w0 w w1:World}{M S0 S:af}{N:fF}{φ:Nat->af}{F:Nat->AV}{a:Act}{TE:Nat->Option TI}
variable{u:Nat->Value}{rows:List (List C)}
def cU.prefix{V:af}{g k n cap:Nat}{m:Nat}{f:Nat->af}(A:m<=n)(M:rows.length=n)(B:∀r∈rows,r.length=k)(t:n<=cap)(D:∀q,q<cap*k->V g q/\(∃z,cel w g q=some z/\z.oneCell'=true)/\fro w g q=NF)(E:∀q,q<n*k->cel w g q=some (u q))(F:∀q,q<n*k->∀b o,f q b o->V b o/\¬(b=g/\o<cap*k))(G:∀q h,q<n*k->h<n*k->q≠h->∀b o,f q b o->¬f h b o)(H:∀i j r c,rows[i]? = some r->r[j]? = some c->cU w S (f (i*k+j)) c (u (i*k+j))):cU w S V (oP (rows.take m)) (.slice (some ⟨g,0,none⟩) m cap):=by
 have J:m*k<=n*k:=CE k A;have a:(rows.take m).length=m:=by rw[Z2];omega
 by_cases K:m=0
 ·subst K
  rw[List.take_zero];exact .R _ g 0 k 0 cap [] u rfl (λr l=>by cases l) (C1 _) (λq p=>ω) (λi j r c d y=>by simp at d)
 rw[XB λe=>by rw[e]at a;simp at a;omega];refine .own _ .own g k m cap _ u f tV1 a (λr l=>B r (List.mem_of_mem_take l)) ω ω D (λq p=>E q ω) (λq p=>F q ω) (λq h p L=>G q h ω ω) (λi j r c d y=>?_);rw[List.getElem?_take]at d;split at d
 ·exact H i j r c d y
 cases d
variable{K:(Nat->AV)->Prop}
theorem bj.slW(h:bj w0 M S0 N S φ F a w)(G:∀t i,TE t=some i->ix P t i){d T:Nat}{x r:Operand}(Z:Kt TE N F d T x r K) :
  ∃F' v,K F'/\(Instr.sliceAt T (a.eval x) none (some (a.eval r)) none).run P w=.ok v w/\St w0 M S0 N F' (a.put (some d) v) w:=by
 obtain⟨e,D,q,z,j,he,hu,ht,-⟩:=jA G Z;obtain⟨ki,y,e1,j⟩:=h.int j;obtain⟨F',ag,cs,V,φ',j,h2,hv,hV,hφ,-⟩:=h.taken j
 match ag,cs,j with
 | none,[.s .own rows],j=>
  obtain⟨m,n,g1,g2,g3,g4,g5,A⟩:=j.out;have hm:m=0:=ψ
  subst hm;have hy:y=(n:Nat):=ψ
  subst hy;rw[List.drop_zero]at A;have H:((some r:Option Operand)=none/\(some ((n:Nat):Int))=none)\/∃o k l,some r=some o/\a.eval o=.int k l/\(some ((n:Nat):Int))=some l:=.inr ψ
  have J:((none:Option Operand)=none/\(none:Option Int)=none)\/∃o k l,(none:Option Operand)=some o/\a.eval o=.int k l/\(none:Option Int)=some l:=.inl ⟨rfl,rfl⟩
  have fin:∀(len cap:Nat)(ad:Option Addr),a.eval x=.slice ad len cap->len=rows.length->len<=cap->cU w S V (oP (rows.take n)) (sliced ad 0 n cap D.size)->
    ∃F' v,K F'/\(Instr.sliceAt T (a.eval x) none (some (a.eval r)) none).run P w=.ok v w/\St w0 M S0 N F' (a.put (some d) v) w:=λlen cap ad hx hl c E=>by
   have W:=ou (w:=w) (a:=a) (P:=P) (ad:=ad) (cap:=cap) (len:=len) hu ht.size J H (x:=0) (y:=n) ω (.inr rfl) (C1 _) ω c;have B:bm w S V none [oP (rows.take n)] (sliced ad 0 n cap D.size):=⟨rfl,λ_=>sliced ad 0 n cap D.size,rfl,λ_=>V,ψ,λ_ _ _ _ h=>h,ψ⟩
   obtain⟨F2,hK2,hst⟩:=h2.putD_taken B hV A
   grind
  have E:=hv.rep1;generalize b:C.s .own rows=c0 at E;generalize hvx:a.eval x=vx at E fin;cases E with
  | v=>cases b
  | x=>cases b
  | hd=>cases b
  | z=>cases b
  | m=>cases b
  | it=>cases b
  | R=>cases b
  | suf _ X g off k l cap p u f L=>cases b;exact L.elim
  | nil _ X ad L=>
   cases b;have O:n=0:=by simp at g4;omega
   subst O;exact fin 0 0 ad rfl rfl (O5 0) (.nil _ .R _ tV1)
  | own _ X g k l cap p u f L hn Q c Y hF R hf hd hc=>
   cases b;have U:sliced (some ⟨g,0,none⟩) 0 n cap D.size=.slice (some ⟨g,0,none⟩) n cap:=by grind [iV,Go.sliced]
   refine fin l cap _ rfl ω c ?_;rw[U];exact cU.prefix ω hn Q c hF R hf hd hc
 | none,[],j=>exact j.elim
 | none,[.v _],j=>exact j.elim
def cU.suffix{V:af}{g k n cap:Nat}{m:Nat}{f:Nat->af}(E:m<=n)(T:rows.length=n)(F:∀r∈rows,r.length=k)(a:n<=cap)(A:∀q,q<cap*k->V g q/\(∃z,cel w g q=some z/\z.oneCell'=true)/\fro w g q=NF)(G:∀q,q<n*k->cel w g q=some (u q))(H:∀q,q<n*k->∀b o,f q b o->V b o/\¬(b=g/\o<cap*k))(J:∀q l,q<n*k->l<n*k->q≠l->∀b o,f q b o->¬f l b o)(K:∀i j r c,rows[i]? = some r->r[j]? = some c->cU w S (f (i*k+j)) c (u (i*k+j))):cU w S V (.s .suf (rows.drop m)) (.slice (some ⟨g,m*k,none⟩) (n - m) (cap - m)):=by
 have L:m*k<=n*k:=CE k E;have M:n*k<=cap*k:=CE k a;have e:(n - m)*k=n*k - m*k:=Nat.sub_mul ..;refine .suf _ .suf g (m*k) k (n - m) (cap - m) _ (λq=>u (m*k+q)) (λq=>f (m*k+q)) tV1 (by rw[I6];omega) (λr N=>F r (List.mem_of_mem_drop N)) ω (λq p=>?_) (λq p=>?_) (λq p b o O=>?_) (λq l p P Q=>J _ _ ω ω ω) (λi j r c B R=>?_)
 ·obtain⟨t,-,y⟩:=A (m*k+q) ω
  exact⟨t,y⟩
 ·obtain⟨-,⟨z,d,y⟩,-⟩:=A (m*k+q) ω
  have D:=G (m*k+q) ω;rw[D]at d;exact⟨D,by simp only[O1]at d;rw[d];exact y⟩
 ·obtain⟨t,d⟩:=H (m*k+q) ω b o O
  exact⟨t,λh=>d ⟨h.1,ω⟩⟩
 rw[List.getElem?_drop]at B;have:=K _ _ _ _ B R
 rwa [show(m+i)*k+j=m*k+(i*k+j) by rw[Nat.add_mul,Nat.add_assoc]]at this
theorem bj.suW(h:bj w0 M S0 N S φ F a w)(H:∀t i,TE t=some i->ix P t i){d T:Nat}{x lo:Operand}(hp:HU TE N F d T x lo K) :
  ∃F' v,K F'/\(Instr.sliceAt T (a.eval x) (some (a.eval lo)) none none).run P w=.ok v w/\St w0 M S0 N F' (a.put (some d) v) w:=by
 obtain⟨e,D,q,z,j,E,hu,ht,-⟩:=jA H hp;obtain⟨ki,y,Y,j⟩:=h.int j;obtain⟨F',ag,cs,V,φ',j,h2,hv,hV,hφ,-⟩:=h.taken j
 match ag,cs,j with
 | none,[.s .own rows],j=>
  obtain⟨m,n,g1,g2,g3,g4,g5,r⟩:=j.out;have J:n=rows.length:=ψ
  subst J;have hy:y=(m:Nat):=ψ
  subst hy;rw[CA]at r;have L:((some lo:Option Operand)=none/\(some ((m:Nat):Int))=none)\/∃o k l,some lo=some o/\a.eval o=.int k l/\(some ((m:Nat):Int))=some l:=.inr ψ
  have O:((none:Option Operand)=none/\(none:Option Int)=none)\/∃o k l,(none:Option Operand)=some o/\a.eval o=.int k l/\(none:Option Int)=some l:=.inl ⟨rfl,rfl⟩
  have fin:∀(len cap:Nat)(ad:Option Addr),a.eval x=.slice ad len cap->len=rows.length->len<=cap->cU w S V (.s .suf (rows.drop m)) (sliced ad m len cap D.size)->
    ∃F' v,K F'/\(Instr.sliceAt T (a.eval x) (some (a.eval lo)) none none).run P w=.ok v w/\St w0 M S0 N F' (a.put (some d) v) w:=λlen cap ad hx hl c G=>by
   have Z:=ou (w:=w) (a:=a) (P:=P) (ad:=ad) (cap:=cap) (len:=len) hu ht.size L O (x:=m) (y:=len) (.inr rfl) (.inl ⟨rfl,rfl⟩) ω (O5 _) c;have A:bm w S V none [.s .suf (rows.drop m)] (sliced ad m len cap D.size):=⟨rfl,λ_=>sliced ad m len cap D.size,rfl,λ_=>V,ψ,λ_ _ _ _ h=>h,ψ⟩
   obtain⟨F2,hK2,hst⟩:=h2.putD_taken A hV r
   grind
  have G:=hv.rep1;generalize b:C.s .own rows=c0 at G;generalize hvx:a.eval x=vx at G fin;cases G with
  | v=>cases b
  | x=>cases b
  | hd=>cases b
  | z=>cases b
  | m=>cases b
  | it=>cases b
  | R=>cases b
  | suf _ o' g off k l cap p u f Q=>cases b;exact Q.elim
  | nil _ o' ad Q=>
   cases b;have R:m=0:=by simp at g3;omega
   subst R;exact fin 0 0 ad rfl rfl (O5 0) (.nil _ .suf _ tV1)
  | own _ o' g k l cap p u f Q U B c hpos hF W hf hd hc=>
   cases b;have X:k=D.size:=by
    have h0:rows[0]? = some rows[0]:=ψ
    rw[<-B _ (I3 h0),g5 _ (I3 h0)]
   refine fin l cap _ rfl U.symm c ?_;by_cases E:cap=m
   ·have Y:l=m:=ω
    subst Y;rw[show rows.drop l=[] by rw[<-U];exact List.drop_length ..];unfold sliced;rw[CJ E,E,Nat.sub_self];exact .nil _ .suf _ tV1
   unfold sliced;rw[CI E];simp only[IA,iV,OD];rw[<-X];exact cU.suffix ω U B c hF W hf hd hc
 | none,[],j=>exact j.elim
 | none,[.v _],j=>exact j.elim
end
def Jg(F:Nat->AV)(d:Nat)(b:Bool):Nat->AV:=λt=>bif Nat.beq t d then .Y .one [.v (.bool b)] else F t
def gi(F:Nat->AV)(ops:Array Oper)(g:Option (Nat × Bool))(K1 a:(Nat->AV)->Prop):Prop:=
 match g with
 | none=>K1 F
 | some (j,want)=>match(ops[j]?).bind (·.dst) with
  | some d=>(match F d with
    | .Y .one [.v (.bool b)]=>Bf b (bif want then K1 (Jg F d true) else a (Jg F d true)) (bif want then a (Jg F d false) else K1 (Jg F d false))
    | .Y (.tup _) _=>a F
    | _=>False)
  | none=>False
def sP(c:Call):Option (Nat × Operand × Operand):=
 match c.callee with
 | .builtin .append=>(match c.args.toList,c.argTypes.toList with|[x,y],[T,a]=>bif Nat.beq T a then some (T,x,y) else none|_,_=>none)
 | _=>none
def Ky(N:fF)(F:Nat->AV)(d:Nat)(x:Operand):Option (Nat × List C):=
 match x with
 | .tmp t=>(match F t with
   | .Y .box a=>bif N.mo.any λp=>Nat.beq p.1 (3000000+d) then some (t,a) else none
   | _=>none)
 | _=>none
def Ta(N:fF)(d:Nat)(x:Operand):Bool:=
 match x with
 | .const (.slice none 0 0)=>N.mo.any λp=>Nat.beq p.1 (6000000+d)
 | _=>false
def Pq(N:fF)(F:Nat->AV)(d:Nat)(x:Operand)(K:(Nat->AV)->Prop):Prop:=
 match Ky N F d x with
 | some p=>bV N (kill F p.1) d (.Y .box p.2) K
 | none=>lM N F d x K
def H5(N:fF)(F:Nat->AV)(d:Nat)(x:Operand)(K:(Nat->AV)->Prop):Prop:=bif Ta N d x then bV N F d (.Y .one [.v (.slice none 0 0)]) K else Pq N F d x K
variable{x:Operand}{N:fF}
theorem Vz{d:Nat}(h:Ta N d x=true):x=.const (.slice none 0 0):=by grind [Ta]
theorem EM{d:Nat}{p:Nat × List C}(h:Ky N F d x=some p):x=.tmp p.1/\F p.1=.Y .box p.2:=by
 unfold Ky at h
 grind
def jG(P:Program)(TE:Nat->Option TI)(N:fF)(d:Nat)(b:Op)(K:(Nat->AV)->Prop)(F:Nat->AV):Prop:=
 match b with
 | .assign x=>H5 N F d x K
 | .box _ x=>TD N F d x K
 | .build T ps=>lQ TE N F d T ps.toList K
 | .buildSlice T n ps=>gK TE N F d T n ps.toList K
 | .range T x=>rF TE N F d T x K
 | .move x=>jT N F d x K
 | .next x str=>bif str then False else xo N F d x K
 | .entry x=>sw N F d x K
 | .call c=>(match sP c with
   | some p=>ET TE N F d p.1 p.2.1 p.2.2 K
   | none=>dq P TE F (.call c) λa=>bV N F d a K)
 | .slice T x none (some e) none=>bif X8 N d then Kt TE N F d T x e K else dq P TE F (.slice T x none (some e) none) λa=>bV N F d a K
 | .slice T x (some f) none none=>bif X8 N d then HU TE N F d T x f K else dq P TE F (.slice T x (some f) none none) λa=>bV N F d a K
 | b=>dq P TE F b λa=>bV N F d a K
def Nw:List (Nat × List Nat)->Nat->Option (List Nat)
 | [],_=>none
 | p::l,f=>bif Nat.beq f p.1 then some p.2 else Nw l f
def D6(N:fF)(F:Nat->AV)(b:Op):Option (Nat × List Operand × List Nat):=
 match b with
 | .call c=>(match c.callee with
   | .value (.func f)=>(match Nw N.mo f with|some a=>some (f,c.args.toList,a)|none=>none)
   | .value (.tmp t)=>(match F t with
     | .fn f caps=>(match Nw N.mo f with|some a=>some (f,c.args.toList++caps.map .tmp,a)|none=>none)
     | _=>none)
   | _=>none)
 | _=>none
def R7(N:fF)(a:Op):Bool:=
 match a with
 | .call c=>(match c.args.toList with
   | .tmp t::_=>N.mo.any λp=>Nat.beq p.1 (4000000+t)
   | _=>false)
 | _=>false
inductive Ch(A B:Prop):Prop
 |pl (h:A)
 |lt (h:B)
def lB(P:Program)(TE:Nat->Option TI)(N:fF)(o:Oper)(K:(Nat->AV)->Prop)(F:Nat->AV):Prop:=
 match o.dst with
 | none=>(match o.op with|.store T x y=>nO TE F T x y K|.mapUpdate T m x y=>pZ TE F T m x y K|_=>False)
 | some d=>jG P TE N d o.op K F
def Yq:List (Nat × List Nat)->List Nat
 | []=>[]
 | p::l=>bif Nat.ble 5000000 p.1&&Nat.ble p.1 5999999 then(p.1 - 5000000)::Yq l else Yq l
def dne:Option Nat->Nat->Bool
 | none,_=>true
 | some d,s=>!Nat.beq d s
def rv1(F:Nat->AV)(d:Option Nat)(s:Nat)(a:Nat->AV):Nat->AV:=
 match F s with
 | .ref t off []=>bif dne d s&&dne d t then(match a t with|.Y .box _=>(match a s with|.dead=>setH a s (.ref t off [])|_=>a)|_=>a) else a
 | _=>a
def rvE(F:Nat->AV)(d:Option Nat):List Nat->(Nat->AV)->Nat->AV
 | [],a=>a
 | s::l,a=>rvE F d l (rv1 F d s a)
def rvs(F:Nat->AV)(d:Option Nat):List Nat->((Nat->AV)->Prop)->(Nat->AV)->Prop
 | [],K,a=>K a
 | s::l,K,a=>match F s with
  | .ref t off []=>bif dne d s&&dne d t then(match a t with|.Y .box _=>(match a s with|.dead=>rvs F d l K (setH a s (.ref t off []))|_=>rvs F d l K a)|_=>rvs F d l K a) else rvs F d l K a
  | _=>rvs F d l K a
theorem pJ{F:Nat->AV}{d:Option Nat}{K:(Nat->AV)->Prop} : ∀{l:List Nat}{a:Nat->AV},rvs F d l K a=K (rvE F d l a)
 | [],a=>rfl
 | s::l,a=>by
  simp only[rvs,rvE];unfold rv1;split
  ·cases b:(dne d s&&dne d _) with
   | false=>exact pJ
   | true=>
    simp only[cond_true];split
    ·split
     ·exact pJ
     exact pJ
    exact pJ
  exact pJ
def vh(P:Program)(N:fF)(F:Nat->AV)(d:Option Nat)(f:Nat)(args:List Operand)(modes:List Nat)(K:(Nat->AV)->Prop):Prop:=
 l9 P N F d f args modes (rvs F d (Yq N.mo) K)
def jD(P:Program)(TE:Nat->Option TI)(N:fF)(ops:Array Oper)(o:Oper)(K:(Nat->AV)->Prop)(F:Nat->AV):Prop:=
 gi F ops o.guard (λF=>match D6 N F o.op with
   | some p=>bif R7 N o.op then Ch (lB P TE N o K F) (vh P N F o.dst p.1 p.2.1 p.2.2 K) else vh P N F o.dst p.1 p.2.1 p.2.2 K
   | none=>match o.dst with
     | none=>(match o.op with|.store T x y=>nO TE F T x y K|.mapUpdate T m x y=>pZ TE F T m x y K|_=>False)
     | some d=>jG P TE N d o.op K F)
  (λF=>match o.dst with|none=>K F|some d=>bV N F d (.Y (.tup []) []) K)
def PS(P:Program)(TE:Nat->Option TI)(N:fF)(ops:Array Oper):List Oper->((Nat->AV)->Prop)->(Nat->AV)->Prop
 | [],K,F=>K F
 | o::rest,K,F=>jD P TE N ops o (PS P TE N ops rest K) F
section
variable{P:Program}{w0 w w1:World}{M S0 S:af}{N:fF}{φ:Nat->af}{F:Nat->AV}{a:Act}{TE:Nat->Option TI}
variable{K:(Nat->AV)->Prop}
theorem bj.asg(h:bj w0 M S0 N S φ F a w){d:Nat}{x:Operand}(f:H5 N F d x K):∃F',K F'/\St w0 M S0 N F' (a.put (some d) (a.eval x)) w:=by
 unfold H5 at f;cases g:Ta N d x with
 | true=>
  rw[g]at f;obtain rfl:=Vz g;exact h.putD_new (mR.same (jS rfl)) f
 | false=>
 rw[g]at f;simp only[cond_false]at f;unfold Pq at f;cases k:Ky N F d x with
 | none=>grind [bj.assign]
 | some p=>
  rw[k]at f;obtain⟨rfl,l⟩:=EM k;have c:=h.slot p.1;rw[l]at c;have i:Free w0 M S (λs=>if s=p.1 then NO else φ s) w (φ p.1):=λb o j=>by
   refine⟨λs c=>?_,h.disS p.1 b o j,h.ex p.1 b o j⟩;replace c:(if s=p.1 then NO else φ s) b o:=c;by_cases e:s=p.1
   ·rw[CJ e]at c;exact c
   rw[CI e]at c;exact h.dis s p.1 e b o c j
  have n:cP w S (kill F p.1) (tvs a) (φ p.1) (.Y .box p.2) (tvs a p.1):=c;exact(h.forget p.1).putD_free n i f
variable{o:Oper}{ops:Array Oper}
theorem BF(h:bj w0 M S0 N S φ F a w){K1 r:(Nat->AV)->Prop}(c:gi F ops o.guard K1 r) :
  (Region.wanted o (yielded ops a.tmps)=true/\K1 F)\/(Region.wanted o (yielded ops a.tmps)=false/\r F):=by
 unfold gi at c;unfold Region.wanted;cases A:o.guard with
 | none=>grind
 | some p=>
  obtain⟨j,want⟩:=p;rw[A]at c;simp only at c |-;cases k:(ops[j]?).bind (·.dst) with
  | none=>grind
  | some d=>
   rw[k]at c;simp only at c;split at c
   case h_3=>exact c.elim
   case h_2=>
    rename_i E G l;have i:=h.slot d;rw[l]at i;obtain⟨B,Y,-,-,-,⟨q,g,-,-⟩,-⟩:=i;have e:yielded ops a.tmps j=none:=by
     unfold yielded;rw[k];simp only[Option.bind_some];cases n:a.tmps[d]? with
     | none=>rfl
     | some x=>
      have:tvs a d=x:=by simp[tvs,ZC,n]
      grind
    rw[e];exact .inr ⟨rfl,c⟩
   rename_i b l;have i:=h.slot d;rw[l]at i;obtain⟨B,Y,-,-,-,-,f,C,-⟩:=i;have t:=C 0 _ rfl;have g:tvs a d=.bool b:=by
    generalize D:co w Kd.one (tvs a d) 0=y at t;cases t;exact D
   have e:yielded ops a.tmps j=some b:=by
    unfold yielded;rw[k];simp only[Option.bind_some];cases n:a.tmps[d]? with
    | none=>
     have:tvs a d=undef:=by grind [tvs]
     rw[this]at g;cases g
    | some x=>
     have:tvs a d=x:=by simp[tvs,ZC,n]
     grind
   have u:Jg F d b=F:=by grind [O3,Jg]
   grind [Bf.out]
theorem T5{w:World}{S:af}{F:Nat->AV}{tv:Nat->Value} : cP w S F tv NO (.Y (.tup []) []) undef:=
 ⟨NO,NO,λ_ _ h=>h,λ_ _ h=>h,λ_ _ h=>h.elim,⟨#[],rfl,tV1,rfl⟩,λ_=>NO,ψ,ψ,ψ⟩
theorem zH{c:Call}{p:Nat × Operand × Operand}(h:sP c=some p):c = ⟨.builtin .append,#[p.2.1,p.2.2],#[p.1,p.1]⟩:=by
 obtain⟨callee,args,b⟩:=c;unfold sP at h;simp only at h;split at h
 ·split at h
  ·rename_i x y T d g i
   cases a:Nat.beq T d with
   | false=>grind
   | true=>
    rw[a]at h;simp only[cond_true,O1]at h;have:=O3 a;subst this h;have e:args = #[x,y]:=ψ
    have f:b = #[T,T]:=ψ
    rw[e,f]
  cases h
 cases h
variable{Q:Exit->Act->World->Prop}{Kc:Act->World->Prop}
theorem bj.dst(h:bj w0 M S0 N S φ F a w)(l:∀t i,TE t=some i->ix P t i){d:Nat}(B:o.dst=some d)(f:jG P TE N d o.op K F)(C:∀F' D r,K F'->St w0 M S0 N F' D r->Kc D r):o.wp P a w Kc Q:=by
 have pure1:dq P TE F o.op (λE=>bV N F d E K)->o.wp P a w Kc Q:=λf=>by
  obtain⟨E,j,L⟩:=h.pure_ l f;refine L Kc Q λv r O=>?_
  obtain⟨F',u,b⟩:=h.putD_new O j;rw[B];exact C F' _ r u b
 have val:∀{v:Value}{w1:World}{F':Nat->AV},(execOp a.eval o).run P w=.ok (.value v) w1->K F'->St w0 M S0 N F' (a.put (some d) v) w1->o.wp P a w Kc Q:=fun {v w1 F'} k j b=>by
  have:=DS.value (P:=P) (o:=o) (a:=a) (w:=w) (w1:=w1) (v:=v) (R:=λG r=>G=v/\r=w1) k ⟨rfl,rfl⟩;refine this Kc Q λG r ⟨U,e⟩=>?_
  rw[e,U,B];exact C F' _ w1 j b
 cases g:o.op with
 | assign x=>
  rw[g]at f;obtain⟨F',j,b⟩:=h.asg f;exact val (by simp[execOp,g]) j b
 | box T x=>
  rw[g]at f;obtain⟨v,w1,F',j,k,b⟩:=h.boxW (P:=P) (T:=T) f;exact val (by simp[execOp,g,k]) j b
 | build T V=>
  rw[g]at f;obtain⟨v,F',j,k,b⟩:=h.buildW l f;exact val (by simp only[execOp,g];rw[Sem.run_bind,k];rfl) j b
 | buildSlice T n V=>
  rw[g]at f;obtain⟨v,w1,F',j,k,b⟩:=h.buildSW l f;exact val (by simp only[execOp,g];rw[Sem.run_bind,k];rfl) j b
 | move x=>
  rw[g]at f;obtain⟨F',j,b⟩:=h.moveW f;exact val (by simp[execOp,g]) j b
 | range T x=>
  rw[g]at f;obtain⟨v,w1,F',j,k,b⟩:=h.rangeW l f;exact val (by simp[execOp,g,k]) j b
 | next x str=>
  rw[g]at f;cases str with
  | true=>exact f.elim
  | false=>
   obtain⟨v,w1,F',j,k,b⟩:=h.nextW (P:=P) (ty:=o.type) f;exact val (by simp[execOp,g,k]) j b
 | entry x=>
  rw[g]at f;obtain⟨v,F',j,k,b⟩:=h.entryW (P:=P) f;exact val (by simp[execOp,g,k]) j b
 | call c=>
  rw[g]at f;simp only[jG]at f;cases y:sP c with
  | none=>rw[y]at f;exact pure1 (by rw[g];exact f)
  | some p=>
   rw[y]at f;obtain⟨v,w1,F',j,k,b⟩:=h.appW (ty:=o.type) l f;have:=zH y;subst this;exact val (by simp[execOp,g,resolve,invoke,builtin,k]) j b
 | slice T x H A J=>
  rw[g]at f;cases H with
  | some H=>
   cases A with
   | some _=>exact pure1 (by rw[g];exact f)
   | none=>
    cases J with
    | some _=>exact pure1 (by rw[g];exact f)
    | none=>
     simp only[jG]at f;cases q:X8 N d with
     | false=>rw[q]at f;exact pure1 (by rw[g];exact f)
     | true=>
      rw[q]at f;obtain⟨F',v,j,k,b⟩:=h.suW l f;exact val (by simp[execOp,g,k]) j b
  | none=>
   cases A with
   | none=>exact pure1 (by rw[g];exact f)
   | some A=>
    cases J with
    | some _=>exact pure1 (by rw[g];exact f)
    | none=>
     simp only[jG]at f;cases q:X8 N d with
     | false=>rw[q]at f;exact pure1 (by rw[g];exact f)
     | true=>
      rw[q]at f;obtain⟨F',v,j,k,b⟩:=h.slW l f;exact val (by simp[execOp,g,k]) j b
 | _=>rw[g]at f;exact pure1 (by rw[g];exact f)
variable{p:Nat × List Operand × List Nat}
theorem TA(h:bj w0 M S0 N S φ F a w)(b:D6 N F o.op=some p):JY P p.1->(execOp a.eval o).run P w=.ok (.enter p.1 (p.2.1.map a.eval).toArray) w:=by
 intro e;unfold D6 at b;split at b
 case h_2=>cases b
 rename_i c g;obtain⟨callee,args,k⟩:=c;simp only at b;split at b
 ·rename_i f
  split at b
  ·cases b
   have:=KV (a:=a) (w:=w) g e;rw[this]
   congr 2
   grind
  cases b
 ·rename_i t
  have i:=h.slot t;split at b
  ·rename_i f caps j
   rw[j]at i;split at b
   ·cases b
    have d:=xm (a:=a) (w:=w) (caps:=caps.map (tvs a)) g e i;rw[d]
    congr 2
    rw[IB,List.map_map]
    rfl
   cases b
  cases b
 cases b
theorem uk{v:Value}{d:Option Nat}{s:Nat}(h:dne d s=true):tvs (a.put d v) s=tvs a s:=by
 cases d with
 | none=>rfl
 | some d=>
  have b:d≠s:=λe=>by subst e;simp[dne]at h
  simp only[tvs,Act.put,ZC,Array.getElem?_setIfInBounds];rw[CI b]
theorem ND{a:World}{u:Nat->Value}{top:Option (Nat × Nat)}{off:Nat} : plc a u top off []=top.map λp=>(p.1,p.2+off):=by
 cases top with
 | none=>rfl
 | some p=>rfl
theorem bj.rv1(h:bj w0 M S0 N S φ F a w){d:Option Nat}{v:Value}{A:World}{B:Nat->AV}(h2:St w0 M S0 N B (a.put d v) A)(s:Nat):St w0 M S0 N (rv1 F d s B) (a.put d v) A:=by
 unfold Ab.rv1;split
 case h_2=>exact h2
 rename_i t i E;cases c:(dne d s&&dne d t) with
 | false=>exact h2
 | true=>
  rw[I0]at c;simp only[cond_true];split
  case h_2=>exact h2
  rename_i l n;split
  case h_2=>exact h2
  rename_i G;obtain⟨S2,φ2,h2⟩:=h2;have H:t≠s:=ψ
  have C:=h.slot s;rw[E]at C;obtain⟨k,cs0,r,j,g,o,L,O,P,Q⟩:=C;have f:=h2.slot t;rw[n]at f;obtain⟨R,Y,-,-,-,⟨T,U,p,-⟩,-⟩:=f;rw[uk c.2]at p;have J:k=.box:=by
   cases k with
   | box=>rfl
   | _=>grind [ND,rp]
  subst J;refine⟨S2,λq=>if q=s then NO else φ2 q,λq=>?_,λq D u b o c e=>?_,λq b o c=>?_,λq b o c=>?_,h2.sub,h2.sup,h2.old,h2.size,h2.defers,h2.par⟩
  ·by_cases y:q=s
   ·subst y
    rw[rP];refine⟨.box,l,l,i,g,o,by grind [ge],rfl,?_,by grind [uk]⟩
    grind [ND,uk]
   rw[ge _ _ y,CI y];refine(h2.slot q).keep (φ:=φ2) (λt _ _ _=>h2.slot t) (λD K=>⟨λk l V=>?_,rfl,λ_ _ _=>⟨rfl,rfl⟩⟩) (λ_ _ _=>⟨rfl,rfl⟩) (λ_ _ _=>⟨rfl,rfl⟩) (λ_ _ h=>h) (λ_ _ h=>h)
   grind [ge]
  ·split at c
   ·exact c.elim
   split at e
   ·exact e.elim
   exact h2.dis q D u b o c e
  ·split at c
   ·exact c.elim
   exact h2.disS q b o c
  split at c
  ·exact c.elim
  exact h2.ex q b o c
def bj.rvE(h:bj w0 M S0 N S φ F a w){d:Option Nat}{v:Value}{c:World} : ∀{l:List Nat}{e:Nat->AV},St w0 M S0 N e (a.put d v) c->St w0 M S0 N (rvE F d l e) (a.put d v) c
 | [],_,b=>b
 | s::l,_,b=>h.rvE (l:=l) (h.rv1 b s)
theorem bj.lent(h:bj w0 M S0 N S φ F a w)(f:D6 N F o.op=some p)(g:vh P N F o.dst p.1 p.2.1 p.2.2 K)(i:∀F' d b,K F'->St w0 M S0 N F' d b->Kc d b):o.wp P a w Kc Q:=
 h.callM (TA h f) g λF' v b e c=>by
  rw[pJ]at e;exact i _ _ b e (h.rvE c)
theorem bj.plain(h:bj w0 M S0 N S φ F a w)(j:∀t i,TE t=some i->ix P t i)(f:lB P TE N o K F)(p:∀F' q c,K F'->St w0 M S0 N F' q c->Kc q c):o.wp P a w Kc Q:=by
 unfold lB at f;cases k:o.dst with
 | none=>
  rw[k]at f;simp only at f;split at f
  ·rename_i T x y l
   obtain⟨F',w1,n,b,g⟩:=h.storeOp j f;have:=DS.skip (P:=P) (o:=o) (a:=a) (w:=w) (w1:=w1) (R:=λv c=>v=undef/\c=w1) (by simp[execOp,l,b]) ⟨rfl,rfl⟩;refine this Kc Q λv c ⟨_,e⟩=>?_
   rw[e,k];exact p F' a w1 n g
  ·rename_i T m x y l
   obtain⟨F',w1,n,b,g⟩:=h.mapUpd j f;have:=DS.skip (P:=P) (o:=o) (a:=a) (w:=w) (w1:=w1) (R:=λv c=>v=undef/\c=w1) (by simp[execOp,l,b]) ⟨rfl,rfl⟩;refine this Kc Q λv c ⟨_,e⟩=>?_
   rw[e,k];exact p F' a w1 n g
  exact f.elim
 | some d=>
  grind [bj.dst]
theorem bj.one(h:bj w0 M S0 N S φ F a w)(c:∀t i,TE t=some i->ix P t i)(b:jD P TE N ops o K F)(f:∀F' g j,K F'->St w0 M S0 N F' g j->Kc g j) :
  if Region.wanted o (yielded ops a.tmps) then o.wp P a w Kc Q else Kc (a.put o.dst undef) w:=by
 unfold jD at b;rcases BF h b with⟨e,b⟩|⟨e,b⟩
 ·rw[e,CJ rfl]
  cases k:D6 N F o.op with
  | some p=>
   rw[k]at b;simp only at b;cases n:R7 N o.op with
   | false=>grind [bj.lent]
   | true=>
    rw[n]at b;rcases b with b|b
    all_goals grind [bj.plain,bj.lent]
  | none=>
  rw[k]at b;exact h.plain c b f
 rw[e,CI (by simp)];cases l:o.dst with
 | none=>rw[l]at b;exact f F a w b ⟨S,φ,h⟩
 | some d=>
  rw[l]at b;obtain⟨F',r,q⟩:=h.putD_new (v:=undef) (mR.same (av:=.Y (.tup []) []) T5) b
  grind
theorem HT(b:∀t i,TE t=some i->ix P t i){ops:Array Oper}{K:(Nat->AV)->Prop}{Q:Exit->Act->World->Prop}(g:∀F' c d,K F'->St w0 M S0 N F' c d->Q .normal c d) :
  ∀(l:List Oper)(F:Nat->AV)(a:Act)(w:World),PS P TE N ops l K F->St w0 M S0 N F a w->wpList P ops Q l a w
 | [],F,a,w,e,f=>g F a w e f
 | o::l,F,a,w,e,⟨S,φ,h⟩=>by
  have:=h.one b e (Kc:=wpList P ops Q l) (Q:=Q) λF' c d j f=>HT b g l F' c d j f
  grind [Go.wpList]
end
def tm:Operand->List Nat
 | .tmp t=>[t]
 | _=>[]
def iL(F F':Nat->AV)(ts:List Nat):Prop:=∀t,t∈ts->F' t=F t/\∀a,(F t).uses a=true->∀k b,F a=.Y k b->F' a=.Y k b
variable{F':Nat->AV}
theorem iL.mono{ts a:List Nat}(h:iL F F' ts)(b:∀t,t∈a->t∈ts):iL F F' a:=λt c=>h t (b t c)
theorem iL.ev(h:iL F F' (tm x)):oN F' x=oN F x:=by
 cases x with
 | tmp t=>exact(h t (by simp[tm])).1
 | _=>rfl
def eG(F:Nat->AV)(ts:List Nat)(av:AV):Prop:=∀d,av.uses d=true->d∈ts\/∃t,t∈ts/\(F t).uses d=true
def eG.Y(F:Nat->AV)(ts:List Nat)(k:Kd)(cs:List C):eG F ts (.Y k cs):=λd h=>by cases h
theorem CZ:type_of% @eG.Y:=@eG.Y
def eG.iref(F:Nat->AV)(ts:List Nat)(r:List C)(o:Nat):eG F ts (.iref r o):=λd h=>by cases h
def pM(p:(Nat->AV)->(AV->Prop)->Prop)(F:Nat->AV)(ts:List Nat)(K:AV->Prop):Prop:=∃a,K a/\eG F ts a/\∀b,iL F b ts->∀c:AV->Prop,c a->p b c
section
variable{F:Nat->AV}{K:AV->Prop}{TE:Nat->Option TI}{P:Program}
variable{st:cN}{t off:Nat}
theorem Bv{k:List C->Nat->Prop}(h:yI F t off st k):∃r j,k r j/\∀F':Nat->AV,(∀k cs,F t=.Y k cs->F' t=.Y k cs)->∀a:List C->Nat->Prop,a r j->yI F' t off st a:=by grind [rQ,Rw.mk,yI]
theorem nj(v:Value)(d:Nat):(nS v).uses d=false:=by
 cases v with
 | agg arr=>
  simp only[nS];cases arr.all (·.oneCell')<;>rfl
 | pointer p=>cases p<;>rfl
 | _=>rfl
variable{x:Operand}
theorem cD{k:Option Nat->List C->Prop}(h:jj F (oN F x) k):∃ag cs,k ag cs/\∀F':Nat->AV,iL F F' (tm x)->∀d:Option Nat->List C->Prop,d ag cs->jj F' (oN F' x) d:=by
 cases a:oN F x with
 | Y l cs=>
  rw[a]at h;cases l with
  | one=>exact⟨_,_,h,λF' b d e=>by rw[b.ev,a];exact e⟩
  | agg=>exact⟨_,_,h,λF' b d e=>by rw[b.ev,a];exact e⟩
  | _=>exact h.elim
 | c5 t i n ag=>
  rw[a]at h;replace h:yI F t i n λr j=>k ag (bP r j (ag.getD 1)):=h
  obtain⟨r,j,e,u⟩:=Bv h;refine⟨_,_,e,λF' b d o=>?_⟩;rw[b.ev,a];refine u F' (λl cs w=>?_) (λr j=>d ag (bP r j (ag.getD 1))) o;cases x with
  | tmp q=>
   have p:F q=.c5 t i n ag:=a;exact(b q (by simp[tm])).2 t (by rw[p];simp[AV.uses]) l cs w
  | const v=>
   have:=nj v t;rw[show nS v=.c5 t i n ag from a]at this;simp[AV.uses]at this
  | global g=>cases a
  | func f=>cases a
 | dead=>rw[a]at h;exact h.elim
 | ref=>rw[a]at h;exact h.elim
 | iref=>rw[a]at h;exact h.elim
 | fn f caps=>
  rw[a]at h;cases caps with
  | cons c cs=>exact h.elim
  | nil=>exact⟨_,_,h,λF' b d e=>by rw[b.ev,a];exact e⟩
 | fv=>rw[a]at h;exact h.elim
def iI{k:Value->Prop}(h:JE F x k):∃z,k z/\∀F':Nat->AV,iL F F' (tm x)->∀a:Value->Prop,a z->JE F' x a:=by
 obtain⟨d,e,b,f⟩:=cD h
 match d,e,b with
 | none,[.v z],b=>exact⟨z,b,λF' g a c=>f F' g _ c⟩
theorem QJ{F':Nat->AV}(h:F' t=F t):bN F' (.tmp t) K=bN F (.tmp t) K:=by grind [bN]
theorem kO(h:bN F x K):pM (λF K=>bN F x K) F (tm x) K:=by
 cases x with
 | tmp t=>
  have l:t∈tm (.tmp t):=by simp[tm]
  have fin:∀j,K j->eG F (tm (.tmp t)) j->(∀a:AV->Prop,a j->bN F (.tmp t) a)->pM (λF K=>bN F (.tmp t) K) F (tm (.tmp t)) K:=λj w y A=>
   ⟨j,w,y,λn B a i=>by
     show bN n (.tmp t) _;rw[QJ (B t l).1];exact A a i⟩
  have loc:∀d,d=t->d∈tm (.tmp t):=ψ
  cases o:F t with
  | Y k p=>
   cases k with
   | box=>
    have e:∀a,bN F (.tmp t) a=a (.ref t 0 []):=λa=>by grind [bN]
    rw[e]at h;exact fin _ h (λd b=>.inl (loc d (by simp[AV.uses]at b;exact b.symm))) ψ
   | one=>
    cases C:br p with
    | true=>
     grind [CZ,bN]
    | false=>
     have e:∀a,bN F (.tmp t) a=a (.c5 t 0 [] none):=λa=>by grind [bN]
     rw[e]at h;exact fin _ h (λd b=>.inl (loc d (by simp[AV.uses]at b;exact b.symm))) ψ
   | agg=>
    cases C:br p with
    | true=>
     grind [CZ,bN]
    | false=>
     have e:∀a,bN F (.tmp t) a=a (.c5 t 0 [] (some p.length)):=λa=>by grind [bN]
     rw[e]at h;exact fin _ h (λd b=>.inl (loc d (by simp[AV.uses]at b;exact b.symm))) ψ
   | tup E=>
    grind [CZ,bN]
  | dead=>
   have e:∀a,bN F (.tmp t) a=a .dead:=λa=>by grind [bN]
   rw[e]at h;exact fin _ h (λd b=>by cases b) ψ
  | ref q c u=>
   have e:∀a,bN F (.tmp t) a=a (.ref q c u):=λa=>by grind [bN]
   rw[e]at h;exact fin _ h (λd b=>.inr ⟨t,l,by rw[o];exact b⟩) ψ
  | c5 q c u D=>
   have e:∀a,bN F (.tmp t) a=a (.c5 q c u D):=λa=>by grind [bN]
   rw[e]at h;exact fin _ h (λd b=>.inr ⟨t,l,by rw[o];exact b⟩) ψ
  | iref r c=>
   have e:∀a,bN F (.tmp t) a=a (.iref r c):=λa=>by grind [bN]
   rw[e]at h;exact fin _ h (λd b=>by cases b) ψ
  | fn f caps=>
   have e:∀a,bN F (.tmp t) a=a (.fn f caps):=λa=>by grind [bN]
   rw[e]at h;exact fin _ h (λd b=>.inr ⟨t,l,by rw[o];exact b⟩) ψ
  | fv Ok=>
   have e:∀a,bN F (.tmp t) a=a (.fv Ok):=λa=>by grind [bN]
   rw[e]at h;exact fin _ h (λd b=>by cases b) ψ
 | const v=>
  refine⟨_,h,λd b=>?_,λn _ a i=>i⟩
  grind [nj]
 | global g=>exact⟨_,h,(λd b=>by cases b),λn _ a i=>i⟩
 | func f=>exact⟨_,h,(λd b=>by cases b),λn _ a i=>i⟩
variable{ts:List Nat}
theorem NT{i:TI}(p:t∈ts\/∃l,l∈ts/\(F l).uses t=true)(h:W9 F i t off st K) :
  ∃av,K av/\eG F ts av/\∀F':Nat->AV,(∀k cs,F t=.Y k cs->F' t=.Y k cs)->∀b:AV->Prop,b av->W9 F' i t off st b:=by
 obtain⟨r,j,a,n⟩:=Bv h;cases e:Nat.beq (bP r j i.size).length i.size with
 | false=>grind
 | true=>
  rw[e]at a;simp only[cond_true]at a;cases c:br (bP r j i.size) with
  | true=>rw[c]at a;exact⟨_,a,CZ _ _ _ _,λF' f b g=>n F' f _ (by rw[e,c];exact g)⟩
  | false=>rw[c]at a;exact⟨_,a,λd o=>by simp[AV.uses]at o;subst o;exact p,λF' f b g=>n F' f _ (by rw[e,c];exact g)⟩
variable{T:Nat}
theorem T7(h:xM TE F T x K):pM (λF K=>xM TE F T x K) F (tm x) K:=by
 unfold xM at h;cases y:TE T with
 | none=>grind
 | some i=>
  rw[y]at h;simp only at h;cases A:(i.agg || Nat.beq i.size 1) with
  | false=>grind
  | true=>
   rw[A]at h;simp only[cond_true]at h;cases x with
   | tmp t=>
    have g:t∈tm (.tmp t):=by simp[tm]
    simp only at h;have same:∀{b},iL F b (tm (.tmp t))->b t=F t:=λc=>(c t g).1
    have unf:∀{b}{d:AV->Prop},iL F b (tm (.tmp t))->(match F t with|.Y .box _=>W9 b i t 0 [] d|.ref t a u=>W9 b i t a u d|.iref r a=>bif Nat.beq (bP r a i.size).length i.size then d (.Y (kZ (sD i)) (bP r a i.size)) else False|_=>False)->xM TE b T (.tmp t) d:=λe f=>by grind [xM]
    cases c:F t with
    | Y k j=>
     rw[c]at h;cases k with
     | box=>
      obtain⟨l,n,o,p⟩:=NT (ts:=tm (.tmp t)) (.inl g) h;exact⟨l,n,o,λb e d q=>unf e (by rw[c];exact p b (λk j f=>(same e).trans f) d q)⟩
     | _=>exact h.elim
    | ref w a u=>
     rw[c]at h;have B:(F t).uses w=true:=by rw[c];simp[AV.uses]
     obtain⟨l,n,o,p⟩:=NT (ts:=tm (.tmp t)) ψ h;exact⟨l,n,o,λb e d q=>unf e (by rw[c];exact p b (λk j f=>(e t g).2 w B k j f) d q)⟩
    | iref r a=>
     rw[c]at h;simp only at h;cases C:Nat.beq (bP r a i.size).length i.size with
     | false=>grind
     | true=>
      rw[C]at h;exact⟨_,h,CZ _ _ _ _,ψ⟩
    | dead=>grind
    | c5=>grind
    | fn=>grind
    | fv=>grind
   | _=>exact h.elim
theorem M7{o:Nat}(h:qD F x o K):pM (λF K=>qD F x o K) F (tm x) K:=by
 cases x with
 | tmp t=>
  have b:t∈tm (.tmp t):=by simp[tm]
  simp only[qD]at h;cases a:F t with
  | Y k l=>
   rw[a]at h;cases k with
   | box=>exact⟨_,h,λd f=>.inl (by simp[AV.uses]at f;subst f;exact b),λi c j e=>by simp only[qD,(c t b).1,a];exact e⟩
   | _=>exact h.elim
  | ref n g p=>rw[a]at h;exact⟨_,h,λd f=>.inr ⟨t,b,by rw[a];exact f⟩,λi c j e=>by simp only[qD,(c t b).1,a];exact e⟩
  | iref r g=>rw[a]at h;exact⟨_,h,eG.iref _ _ _ _,λi c j e=>by simp only[qD,(c t b).1,a];exact e⟩
  | dead=>grind
  | c5=>grind
  | fn=>grind
  | fv=>grind
 | _=>exact h.elim
theorem DE{f:Nat}(h:jf TE F T x f K):pM (λF K=>jf TE F T x f K) F (tm x) K:=by
 unfold jf at h;unfold pM jf;split at h
 case h_2=>exact h.elim
 split at h
 case h_2=>exact h.elim
 rename_i o c _;split at h
 case h_2=>exact h.elim
 rename_i a _;cases b:Nat.beq a.size 0 with
 | true=>grind
 | false=>
  rw[b]at h;simp only[cond_false]at h |-;exact M7 h
variable{size:Nat}
theorem JV{c:C}{i:Int}(n:t∈ts\/∃e,e∈ts/\(F e).uses t=true)(h:LB size t off st c i K):∃av,K av/\eG F ts av/\∀b:AV->Prop,b av->LB size t off st c i b:=by
 cases c with
 | s o f=>
  obtain⟨g,r,j,a⟩:=Ix.out h;cases p:Nat.beq r.length size with
  | false=>grind
  | true=>
   rw[p]at a;simp only[cond_true]at a;cases k:o.mine with
   | true=>rw[k]at a;exact⟨_,a,λd l=>by simp[AV.uses]at l;subst l;exact n,λb q=>CO g j ψ⟩
   | false=>rw[k]at a;exact⟨_,a,eG.iref _ _ _ _,λb q=>CO g j ψ⟩
 | _=>exact h.elim
theorem J1{i:Int}(h:pj F size x i K):pM (λF K=>pj F size x i K) F (tm x) K:=by
 cases x with
 | tmp t=>
  have b:t∈tm (.tmp t):=by simp[tm]
  simp only[pj]at h;cases a:F t with
  | Y E g=>
   rw[a]at h;cases E with
   | one=>
    match g,h,a with
    | [c],h,a=>
     obtain⟨l,o,p,u⟩:=JV (ts:=tm (.tmp t)) (.inl b) h;exact⟨l,o,p,λw e y A=>by simp only[pj,(e t b).1,a];exact u y A⟩
   | _=>exact h.elim
  | c5 f d B G=>
   rw[a]at h;cases G with
   | none=>
    replace h:yI F f d B λr j=>match r[j]? with|some c=>LB size f d B c i K|none=>False:=h
    obtain⟨r,j,C,q⟩:=Bv h;have D:(F t).uses f=true:=by rw[a];simp[AV.uses]
    cases H:r[j]? with
    | none=>grind
    | some c=>
     rw[H]at C;obtain⟨l,o,p,u⟩:=JV (ts:=tm (.tmp t)) (.inr ⟨t,b,D⟩) C;exact⟨l,o,p,λw e y A=>by simp only[pj,(e t b).1,a];exact q w (λk g J=>(e t b).2 f D k g J) _ ψ⟩
   | some n=>exact h.elim
  | dead=>grind
  | ref=>grind
  | iref=>grind
  | fn=>grind
  | fv=>grind
 | _=>exact h.elim
theorem Dn{y:Operand}(h:jg TE F T x y K):pM (λF K=>jg TE F T x y K) F (tm x++tm y) K:=by
 unfold jg at h;unfold pM jg;split at h
 case h_2=>exact h.elim
 split at h
 case h_2=>exact h.elim
 rename_i j b;obtain⟨z,a,k⟩:=iI h;cases z with
 | int l i=>
  obtain⟨c,e,f,n⟩:=J1 a;refine⟨c,e,λd g=>(f d g).imp ψ ψ,λo p q r=>?_⟩
  grind [iL.mono]
 | _=>exact a.elim
end
inductive L8(bs:List C)(off:Nat)(K:List C->Prop):Prop
 |mk_ (h:∃o rows rows' bs',bs[off]? = some (.s o rows)/\fz (.s o rows)=.s .R rows'/\bs'=splice bs off [.s .R rows']/\K bs')
theorem L8.mk{b:List C}{rows':List (List C)}(h1:b[off]? = some (.s o rows))(h2:fz (.s o rows)=.s .R rows')(c:a=splice b off [.s .R rows'])(d:K a):L8 b off K:=by refine .mk_ ?_;grind
theorem L8.out(h:L8 a off K):∃o rows,a[off]? = some (.s o rows)/\K (splice a off [fz (.s o rows)]):=by
 obtain⟨h⟩:=h;grind
def vT(t:Nat):List Nat->((Nat->AV)->Prop)->(Nat->AV)->Prop
 | [],K,F=>K F
 | a::l,K,F=>(match F t with
   | .Y k bs=>L8 bs a λb=>vT t l K (updH F t k b)
   | _=>False)
theorem H6{c a:C}(h:off<cs.length):splice (splice cs off [c]) off [a]=splice cs off [a]:=by
 apply List.ext_getElem?
 grind [kw,splice]
theorem Qm(t:Nat)(v:AV):wc t (wc t v)=wc t v:=by
 cases v with
 | c5 c a b d=>grind [wc]
 | ref c a b=>
  cases b with
  | nil=>rfl
  | cons s b=>grind [wc]
 | _=>rfl
theorem Mh(F:Nat->AV)(t:Nat)(k:Kd)(x y:List C):updH (updH F t k x) t k y=updH F t k y:=by grind [jw,ig,Qm]
theorem bj.fzCell{w0:World}{M S0:af}{φ:Nat->af}{a:Act}(h:bj w0 M S0 N S φ F a w){f:List C}(A:F t=.Y k f)(g:f[off]? = some (.s o rows)):St w0 M S0 N (updH F t k (splice f off [fz (.s o rows)])) a w:=by
 have l:off<f.length:=ψ
 have p:bP f off 1=[.s o rows]:=by grind [List.drop_eq_getElem_cons,bP]
 obtain⟨V,X,q,H,J,u,B⟩:=h.take A (off:=off) (n:=1) ω;rw[p]at u;have D:Free w0 M S (λs=>if s=t then X else φ s) w V:=λb o g=>by
  refine⟨λs i=>?_,h.disS t b o (q b o g),h.ex t b o (q b o g)⟩;replace i:(if s=t then X else φ s) b o:=i;by_cases e:s=t
  ·grind
  rw[CI e]at i;exact h.dis s t e b o i (q b o g)
 have E:=B.addS (S':=λb o=>S b o\/V b o) D ψ (λ_ _ h=>h);have G:(splice f off (List.replicate 1 C.x)).length=f.length:=by grind [splice]
 obtain⟨φ',y,-⟩:=E.back (out:=[fz (.s o rows)]) (off:=off) (j:=off) (st:=[]) (r:=splice f off (List.replicate 1 .x)) (jw ..) rfl tV1 ψ (V:=NO) (λ_ _ h=>h.elim) (u.freeze.congr λd _=>rfl);rw[Mh]at y;rw[<-H6 (c:=.x) l];exact⟨_,φ',y⟩
theorem B7{w0 w:World}{M S0:af}{N:fF}{a:Act}{t:Nat}{K:(Nat->AV)->Prop} : ∀{offs:List Nat}{F:Nat->AV},vT t offs K F->St w0 M S0 N F a w->∃F',K F'/\St w0 M S0 N F' a w
 | [],F,b,c=>⟨F,b,c⟩
 | f::l,F,b,c=>by
  unfold vT at b;cases d:F t with
  | Y k j=>
   rw[d]at b;obtain⟨o,e,g,i⟩:=L8.out b;obtain⟨S,φ,h⟩:=c;exact B7 i (h.fzCell d g)
  | _=>grind
def RQ(mo:List (Nat × List Nat))(id:Nat)(K:(Nat->AV)->Prop)(F:Nat->AV):Prop:=
 match Nw mo (id+2000000) with
 | some l=>(match l with
   | t::offs=>vT t offs K F
   | []=>K F)
 | none=>K F
theorem WA{w0:World}{M S0:af}{a:Act}{mo:List (Nat × List Nat)}{id:Nat}{K:(Nat->AV)->Prop}(b:RQ mo id K F)(c:St w0 M S0 N F a w):∃F',K F'/\St w0 M S0 N F' a w:=by grind [B7,RQ]
def lay:List (Nat × AV)->Nat->AV
 | [],_=>.dead
 | p::l,t=>bif Nat.beq t p.1 then p.2 else lay l t
def Rp:C->C->Prop
 | _,.x=>True
 | .z,.s .R rows=>rows=[]
 | .z,.s .own rows=>rows=[]
 | .s (.tag _) rows,.s .own rows'=>rows=rows'
 | .z,.s .suf rows=>rows=[]
 | c,a=>c=a
def Qd:List C->List C->Prop
 | [],[]=>True
 | c::cs,a::cs'=>Rp c a/\Qd cs cs'
 | _,_=>False
def Xv(F F1:Nat->AV)(t:Nat)(av:AV):Prop:=
 match av with
 | .dead=>True
 | .Y k cs=>(match F t with|.Y k' cs'=>k'=k/\Qd cs' cs|_=>False)
 | .ref t' off st=>F t=.ref t' off st/\F1 t'=F t'
 | .c5 t' off st ag=>F t=.c5 t' off st ag/\F1 t'=F t'
 | .iref r off=>F t=.iref r off
 | .fn f caps=>F t=.fn f caps
 | .fv Ok=>F t=.fv Ok
def TM(F F1:Nat->AV):List (Nat × AV)->Prop
 | []=>True
 | p::l=>Xv F F1 p.1 p.2/\TM F F1 l
def Wk(F:Nat->AV)(L:List (Nat × AV)):Prop:=TM F (lay L) L
def Bl{F F1:Nat->AV} : ∀{L:List (Nat × AV)},TM F F1 L->∀t,lay L t=.dead\/Xv F F1 t (lay L t)
 | [],_,t=>.inl rfl
 | p::L,h,t=>by
  simp only[lay];cases a:Nat.beq t p.1 with
  | true=>
   have:=O3 a;subst this;exact .inr h.1
  | false=>exact Bl h.2 t
def fz1(t:Nat)(F:Nat->AV):Nat->AV:=λs=>bif Nat.beq s t then(match F s with|.Y k a=>.Y k (dw a)|.dead=>.dead|.ref ..=>.dead|.c5 ..=>.dead|.iref ..=>.dead|.fn ..=>.dead|.fv _=>.dead) else kl t (F s)
def fzA:List Nat->(Nat->AV)->Nat->AV
 | [],F=>F
 | t::ts,F=>fzA ts (fz1 t F)
def YA(F:Nat->AV)(x:Operand)(K:Bool->Prop):Prop:=JE F x λv=>match v with|.bool b=>K b|_=>False
def Wj(K:(Nat->AV)->Prop)(Q:Exit->(Nat->AV)->Prop):Exit->(Nat->AV)->Prop:=λe F=>match e with|.normal=>K F|e=>Q e F
def YK(id:Nat)(Q:Exit->(Nat->AV)->Prop):Exit->(Nat->AV)->Prop:=λe F=>match e with|.exit i=>bif Nat.beq i id then Q .normal F else Q (.exit i) F|e=>Q e F
inductive Nx(ι:Type)(L:ι->List (Nat × AV))(inv:ι->Prop)(μ:ι->Nat)(i:ι)(F:Nat->AV):Prop
 |mk_ (h:∃i',inv i'/\μ i'<μ i/\Wk F (L i'))
variable{ι:Type}
theorem Nx.mk{L:ι->List (Nat × AV)}{inv:ι->Prop}{μ:ι->Nat}{i:ι}(a:ι)(h1:inv a)(h2:μ a<μ i)(b:Wk F (L a)):Nx ι L inv μ i F:=by refine .mk_ ?_;grind
def CP:type_of% @Nx.mk:=@Nx.mk
def Nx.out{L:ι->List (Nat × AV)}{inv:ι->Prop}{μ:ι->Nat}{i:ι}(h:Nx ι L inv μ i F):∃a,inv a/\μ a<μ i/\Wk F (L a):=by obtain⟨h⟩:=h;exact h
inductive Lp(body:(Exit->(Nat->AV)->Prop)->(Nat->AV)->Prop)(Q:Exit->(Nat->AV)->Prop)(F:Nat->AV):Prop
 |mk_ (h:∃(ts:List Nat)(ι:Type)(L:ι->List (Nat × AV))(inv:ι->Prop)(μ:ι->Nat)(i0:ι),Wk (fzA ts F) (L i0)/\inv i0/\∀i,inv i->body (Wj (Nx ι L inv μ i) Q) (lay (L i)))
variable{Q:Exit->(Nat->AV)->Prop}{body:(Exit->(Nat->AV)->Prop)->(Nat->AV)->Prop}
def Lp.mk(L:ι->List (Nat × AV))(inv:ι->Prop)(μ:ι->Nat)(a:ι)(b:Wk F (L a))(h1:inv a)(h2:∀i,inv i->body (Wj (Nx ι L inv μ i) Q) (lay (L i))):Lp body Q F:=by refine .mk_ ?_;exact⟨[],ι,L,inv,μ,a,b,h1,h2⟩
def Lp.fz(t:Nat)(L:ι->List (Nat × AV))(inv:ι->Prop)(μ:ι->Nat)(a:ι)(b:Wk (fz1 t F) (L a))(h1:inv a)(h2:∀i,inv i->body (Wj (Nx ι L inv μ i) Q) (lay (L i))):Lp body Q F:=by refine .mk_ ?_;exact⟨[t],ι,L,inv,μ,a,b,h1,h2⟩
def Lp.out(h:Lp body Q F):∃(ts:List Nat)(ι:Type)(L:ι->List (Nat × AV))(inv:ι->Prop)(μ:ι->Nat)(a:ι),Wk (fzA ts F) (L a)/\inv a/\∀i,inv i->body (Wj (Nx ι L inv μ i) Q) (lay (L i)):=by obtain⟨h⟩:=h;exact h
def aw(P:Program)(TE:Nat->Option TI)(N:fF)(D:Nat->Array Oper->((Nat->AV)->Prop)->(Nat->AV)->Prop):Code->(Exit->(Nat->AV)->Prop)->(Nat->AV)->Prop
 | .skip,Q,F=>Q .normal F
 | .region id ops draw,Q,F=>bif draw then D id ops (Q .normal) F else RQ N.mo id (PS P TE N ops ops.toList (Q .normal)) F
 | .seq x y,Q,F=>aw P TE N D x (Wj (aw P TE N D y Q) Q) F
 | .cond c x y,Q,F=>YA F c λb=>Bf b (aw P TE N D x Q F) (aw P TE N D y Q F)
 | .block id c,Q,F=>aw P TE N D c (YK id Q) F
 | .loop c,Q,F=>Lp (aw P TE N D c) Q F
 | .exit id,Q,F=>Q (.exit id) F
 | .ret,Q,F=>Q .ret F
 | _,_,_=>False
section
variable{P:Program}{w0 w w1:World}{M S0 S:af}{N:fF}{φ:Nat->af}{F:Nat->AV}{a:Act}{TE:Nat->Option TI}
theorem US{Y:af}{c r:C}{v:Value}(e:Rp c r)(h:cU w S Y c v):cU w S Y r v:=by
 unfold Rp at e;split at e
 ·exact .x _ _ h.one
 ·subst e
  obtain⟨b,rfl⟩:=xB h;exact .nil _ _ _ tV1
 ·subst e
  obtain⟨b,rfl⟩:=xB h;exact .nil _ _ _ tV1
 ·subst e
  rename_i t d;generalize i:C.s (.tag t) d=c0 at h;cases h with
  | nil F o a q=>cases i;exact .nil _ _ _ tV1
  | R=>cases i
  | own F o g k n j d u f q y A l p B D E G e=>cases i;exact .own _ .own g k n j d u f tV1 y A l p B D E G e
  | suf F o g H k n j d u f q=>cases i;exact q.elim
  | _=>cases i
 ·subst e
  obtain⟨b,rfl⟩:=xB h;exact .nil _ _ _ tV1
 grind
theorem vA:∀{cs a:List C},Qd cs a->cs.length=a.length/\∀(j:Nat)(b:C),a[j]? = some b->∃c,cs[j]? = some c/\Rp c b
 | [],[],_=>(ψ)
 | c::cs,b::a,h=>by
  obtain⟨e,f⟩:=vA h.2;refine⟨by simp[e],λj y d=>?_⟩;cases j with
  | zero=>simp at d;subst d;exact⟨c,rfl,h.1⟩
  | succ j=>grind
 | [],_::_,h=>h.elim
 | _::_,[],h=>h.elim
theorem H0{Y:af}{cs a:List C}{u:Nat->Value}(b:Qd cs a)(h:cw w S Y cs u):cw w S Y a u:=by
 obtain⟨d,e⟩:=vA b;obtain⟨f,g,i,k⟩:=h;exact⟨f,λj c l=>by grind [US],ψ,ψ⟩
theorem St.weaken{L:List (Nat × AV)}(h:St w0 M S0 N F a w)(p:Wk F L):St w0 M S0 N (lay L) a w:=by
 obtain⟨S,φ,h⟩:=h;refine⟨S,φ,λt=>?_,h.dis,h.disS,h.ex,h.sub,h.sup,h.old,h.size,h.defers,h.par⟩;rcases Bl p t with hd|hd
 ·rw[hd];trivial
 have c:=h.slot t;cases b:lay L t with
 | dead=>trivial
 | Y k l=>
  rw[b]at hd;simp only[Xv]at hd;split at hd
  case h_2=>exact hd.elim
  rename_i E q u;obtain⟨rfl,n⟩:=hd;rw[u]at c;obtain⟨y,Y,e,i,A,G,B⟩:=c;exact⟨y,Y,e,i,A,by grind [vA],H0 n B⟩
 | ref C d D=>
  rw[b]at hd;rw[hd.1]at c;obtain⟨k,l,r,j,g,o,e,i⟩:=c;exact⟨k,l,r,j,g,o,by rw[hd.2];exact e,i⟩
 | c5 C d D H=>
  rw[b]at hd;rw[hd.1]at c;obtain⟨k,l,r,j,e,i⟩:=c;exact⟨k,l,r,j,by rw[hd.2];exact e,i⟩
 | iref r d=>
  rw[b]at hd;have hd:F t=.iref r d:=hd;rw[hd]at c;exact c
 | fn f caps=>
  rw[b]at hd;have hd:F t=.fn f caps:=hd;rw[hd]at c;exact c
 | fv Ok=>
  rw[b]at hd;have hd:F t=.fv Ok:=hd;rw[hd]at c;exact c
theorem St.fz1(h:St w0 M S0 N F a w)(t:Nat):St w0 M S0 N (Ab.fz1 t F) a w:=by
 obtain⟨S,φ,h⟩:=h;have p:∀{s},s≠t->Ab.fz1 t F s=kl t (F s):=fun {s} e=>by
  have:Nat.beq s t=false:=by grind [Nat.beq_eq]
  simp[Ab.fz1,this]
 have q:∀(r:af),(∀b o,S b o->r b o)->∀s,s≠t->cP w r (Ab.fz1 t F) (tvs a) (φ s) (Ab.fz1 t F s) (tvs a s):=λr j s e=>by
  rw[p e,EV];cases L:(F s).uses t with
  | true=>trivial
  | false=>
   simp only[cond_false];refine(h.slot s).keep (φ:=φ) (λt _ _ _=>h.slot t) (λC D=>?_) (λ_ _ _=>⟨rfl,rfl⟩) (λ_ _ _=>⟨rfl,rfl⟩) (λ_ _ h=>h) j;have E:C≠t:=ψ
   exact⟨λk l O=>by grind [Gk],rfl,λ_ _ _=>⟨rfl,rfl⟩⟩
 have u:(∀k l,F t≠.Y k l)->St w0 M S0 N (Ab.fz1 t F) a w:=λE=>by
  refine⟨S,λs=>if s=t then NO else φ s,λs=>?_,λs i g b o c d=>?_,λs b o c=>?_,λs b o c=>?_,h.sub,h.sup,h.old,h.size,h.defers,h.par⟩
  ·by_cases e:s=t
   ·subst e
    have:Ab.fz1 s F s=.dead:=by
     unfold Ab.fz1
     grind [Nat.beq_refl]
    rw[this];trivial
   grind
  ·split at c
   ·exact c.elim
   split at d
   ·exact d.elim
   exact h.dis s i g b o c d
  ·split at c
   ·exact c.elim
   exact h.disS s b o c
  split at c
  ·exact c.elim
  exact h.ex s b o c
 cases G:F t with
 | Y k l=>
  have e:=h.slot t;rw[G]at e;obtain⟨B,Y,n,y,H,P,J⟩:=e;have A:Ab.fz1 t F t=.Y k (dw l):=by
   unfold Ab.fz1
   simp_all
  refine⟨λb o=>S b o\/Y b o,λs=>if s=t then B else φ s,λs=>?_,λs i g b o c d=>?_,λs b o c j=>?_,λs b o c=>?_,λb o c=>.inl (h.sub b o c),λb o c=>?_,h.old,h.size,h.defers,h.par.1,h.par.2.keep (Cj NO w) (λ_ _ h=>h.elim) (λ_ _ h=>.inl h)⟩
  ·by_cases e:s=t
   ·subst e
    rw[A,CJ rfl];exact⟨B,NO,λ_ _ h=>h,λ_ _ h=>h.elim,λ_ _ _ h=>h,by grind [bU],J.freeze⟩
   grind
  ·by_cases e:s=t
   ·rw[CJ e]at c
    by_cases f:i=t
    ·omega
    rw[CI f]at d;exact h.dis t i (Ne.symm f) b o (n b o c) d
   rw[CI e]at c;by_cases f:i=t
   ·rw[CJ f]at d;exact h.dis s t e b o c (n b o d)
   rw[CI f]at d;exact h.dis s i g b o c d
  ·by_cases e:s=t
   ·rw[CJ e]at c
    exact j.elim (h.disS t b o (n b o c)) (H b o c)
   rw[CI e]at c;exact j.elim (h.disS s b o c) λK=>h.dis s t e b o c (y b o K)
  ·split at c
   ·exact h.ex t b o (n b o c)
   exact h.ex s b o c
  rcases c with c|c
  ·exact h.sup b o c
  exact⟨(h.ex t b o (y b o c)).1,.inr (h.ex t b o (y b o c)).2⟩
 | _=>grind
def St.fzA:∀(ts:List Nat){F:Nat->AV},St w0 M S0 N F a w->St w0 M S0 N (Ab.fzA ts F) a w
 | [],_,h=>h
 | t::ts,_,h=>St.fzA ts (h.fz1 t)
def gU(ck:Nat->Array Oper->Bool):Code->Bool
 | .region id ops draw=>bif draw then ck id ops else true
 | .seq x y=>gU ck x&&gU ck y
 | .cond _ x y=>gU ck x&&gU ck y
 | .block _ c=>gU ck c
 | .loop c=>gU ck c
 | _=>true
def Di(P:Program)(N:fF)(ck:Nat->Array Oper->Bool)(D:Nat->Array Oper->((Nat->AV)->Prop)->(Nat->AV)->Prop):Prop:=
 ∀(id:Nat)(ops:Array Oper),ck id ops=true->∀(K:(Nat->AV)->Prop)(w0:World)(M S0:af)(F:Nat->AV)(a:Act)(w:World)(Q:Exit->Act->World->Prop),D id ops K F->St w0 M S0 N F a w->(∀b c d,K b->St w0 M S0 N b c d->Q .normal c d)->(Code.region id ops true).wp P Q a w
theorem jE(k:∀t i,TE t=some i->ix P t i){D:Nat->Array Oper->((Nat->AV)->Prop)->(Nat->AV)->Prop}{ck:Nat->Array Oper->Bool}(q:Di P N ck D):∀(c:Code),gU ck c=true->∀(QA:Exit->(Nat->AV)->Prop)(Q:Exit->Act->World->Prop)(F:Nat->AV)(a:Act)(w:World),
  aw P TE N D c QA F->St w0 M S0 N F a w->(∀e F' o p,QA e F'->St w0 M S0 N F' o p->Q e o p)->c.wp P Q a w
 | .skip,_,QA,Q,F,a,w,d,f,g=>wp_skip (g _ _ _ _ d f)
 | .region id ops draw,l,QA,Q,F,a,w,d,f,g=>by
  cases draw with
  | false=>
   obtain⟨V,G,H⟩:=WA d f
   grind [Go.wp_region_list,HT]
  | true=>exact q id ops l _ w0 M S0 F a w Q d f ψ
 | .seq x y,l,QA,Q,F,a,w,d,f,g=>by
  simp only[gU,I0]at l;refine wp_seq (jE k q x l.1 _ _ F a w d f λe F' o p r j=>?_);cases e with
  | normal=>exact jE k q y l.2 QA Q F' o p r j g
  | _=>exact g _ F' o p r j
 | .cond c x y,u,QA,Q,F,a,w,d,⟨S,φ,h⟩,g=>by
  simp only[gU,I0]at u;obtain⟨l,-⟩:=h.scalar d;cases B:a.eval c<;>rw[B]at l<;>try exact l.elim
  rename_i b;exact wp_cond_split B (λJ=>jE k q x u.1 QA Q F a w (by grind [Bf.out]) ⟨S,φ,h⟩ g) (λJ=>jE k q y u.2 QA Q F a w (by grind [Bf.out]) ⟨S,φ,h⟩ g)
 | .block id c,l,QA,Q,F,a,w,d,f,g=>by
  refine wp_block (jE k q c l _ _ F a w d f λe F' o p r j=>?_);cases e with
  | exit i=>
   grind [Nat.beq_eq,YK,Go.Exit.inBlock]
  | _=>exact g _ F' o p r j
 | .loop c,l,QA,Q,F,a,w,d,f,g=>by
  obtain⟨K,ι,L,inv,μ,C,O,A,hround⟩:=Lp.out d;refine wp_loop_ghost (λn a w=>∃i,μ i=n/\inv i/\St w0 M S0 N (lay (L i)) a w) (μ C) ⟨C,rfl,A,(f.fzA K).weaken O⟩ λn a w ⟨i,W,R,f⟩=>?_
  refine jE k q c l _ _ (lay (L i)) a w (hround i R) f λe F' o p r j=>?_
  cases e with
  | normal=>
   obtain⟨E,T,X,U⟩:=Nx.out r;exact⟨μ E,ω,E,rfl,T,j.weaken U⟩
  | _=>exact g _ F' o p r j
 | .exit id,_,QA,Q,F,a,w,d,f,g=>wp_exit (g _ _ _ _ d f)
 | .ret,_,QA,Q,F,a,w,d,f,g=>wp_ret (g _ _ _ _ d f)
 | .rangeFunc ..,_,_,_,_,_,_,d,_,_=>d.elim
 | .scope _,_,_,_,_,_,_,d,_,_=>d.elim
 | .label _,_,_,_,_,_,_,d,_,_=>d.elim
 | .goto _,_,_,_,_,_,_,d,_,_=>d.elim
 | .refuse _,_,_,_,_,_,_,d,_,_=>d.elim
end
end Go.Proofs.YtfdfgipemcbekaaGreatDoor.Ab
