/- Calls that only read what they are handed, on abstract frames; all slot-only operations together. No condition. -/
import Derived.Test.YtcblmfpcekokjaaGreatKDa
import Derived.Deep.LoopGhost
set_option linter.unusedVariables false
set_option linter.defProp false
set_option linter.unusedSimpArgs false
set_option linter.constructorNameAsVariable false
namespace Go.Proofs.YtcblmfpcekokjaaGreat.Ab
open Go.RowKit
inductive RA where
 |val (ag:Option Nat) (cs:List C)
 |ptr (cs:List C)
 |fn (Ok:am->World->Value->Prop)
def sV(w:World)(S:am):RA->Value->Prop
 | .val ag cs,v=>bD w S NO ag cs v
 | .ptr cs,v=>∃g b u,v=.pointer (some ⟨g,b,none⟩)/\(∀d,d<cs.length->S g (b+d)/\cel w g (b+d)=some (u d))/\cD w S NO cs u
 | .fn Ok,v=>∃(S1:am)(w1:World),(∀b o,S1 b o->S b o)/\bB S1 w1 w/\Ok S1 w1 v
def EU(w:World)(S:am):List RA->List Value->Prop
 | [],[]=>True
 | A::As,v::vs=>sV w S A v/\EU w S As vs
 | _,_=>False
def PG(P : Program)(f : Nat) : Prop := ∃a, P.funcs[f]? = some a /\ (a.name == "runtime.NumGoroutine") = false /\ a.body.isSome = true
structure ah(P:Program)(f:Nat)(sh:Bool)(A:List RA)(k:Kd)(rcs:List C):Prop where
 has:PG P f
 run:∀(w:World)(S:am)(vs:List Value),(∀b o,S b o->b<w.heap.size)->EU w S A vs->
  Calls P f vs.toArray w λe w1=>∃v,e=.returned v/\bM NO w w1/\∃X S1:am,(∀b o,X b o->b<w1.heap.size/\w.heap.size<=b)/\
   (∀b o,S1 b o->(sh=true/\S b o)\/(b<w1.heap.size/\w.heap.size<=b))/\(∀b o,X b o->¬S1 b o)/\gM w1 NO k rcs.length v/\cD w1 S1 X rcs (cz w1 k v)
structure P4(P:Program)(f:Nat)(sh:Bool)(A:List RA)(k:Kd)(rcs:List C):Prop where
 has:PG P f
 run:∀(w:World)(S:am)(vs:List Value),(∀b o,S b o->b<w.heap.size)->EU w S A vs->
  Calls P f vs.toArray w λe w1=>∃v,e=.returned v/\bM NO w w1/\∃X S1:am,(∀b o,X b o->b<w1.heap.size/\w.heap.size<=b)/\
   (∀b o,S1 b o->(sh=true/\S b o)\/(b<w1.heap.size/\w.heap.size<=b))/\(∀b o,X b o->¬S1 b o)/\∃X1 Y:am,(∀b o,X1 b o->X b o)/\(∀b o,Y b o->X b o)/\(∀b o,X1 b o->¬Y b o)/\gM w1 X1 k rcs.length v/\cD w1 S1 Y rcs (cz w1 k v)
variable{rcs:List C}{k:Kd}{A:List RA}{f:Nat}{P:Program}
def ah.toG{sh:Bool}(h:ah P f sh A k rcs):P4 P f sh A k rcs:=
 ⟨h.has,λw S a b c=>(h.run w S a b c).mono λ_ _ ⟨v,d,e,X,S1,g,i,j,l,n⟩=>⟨v,d,e,X,S1,g,i,j,NO,X,λ_ _ h=>h.elim,λ_ _ h=>h,λ_ _ h=>h.elim,l,n⟩⟩
def FL(K:Bool->RA->Prop)(ag:Option Nat)(cs:List C):Prop:=bif b6 cs then K true (.val ag cs) else K false (.val ag (du cs))
def argV(F:Nat->AV)(x:Operand)(K:Bool->RA->Prop):Prop:=
 match qZ F x with
 | .Y .box b=>K false (.ptr (du b))
 | .Y .one b=>FL K none b
 | .Y .agg b=>FL K (some b.length) b
 | .Y (.tup _) _=>False
 | .b5 t a c ag=>jU F (.b5 t a c ag) (FL K)
 | .ref t a c=>(match a,c,F t with|0,[],.Y .box b=>K false (.ptr (du b))|_,_,_=>False)
 | .iref r a=>bif Nat.beq a 0 then K true (.ptr r) else False
 | .fv Ok=>K true (.fn Ok)
 | .fn _ _=>False
 | .dead=>False
def qH(F:Nat->AV):List Nat->(List RA->Prop)->Prop
 | [],K=>K []
 | c::cs,K=>(match F c with
   | .Y .box xs=>qH F cs λD=>K (.ptr (du xs)::D)
   | .Y .one xs=>qH F cs λD=>K (.val none (du xs)::D)
   | .Y .agg xs=>qH F cs λD=>K (.val (some xs.length) (du xs)::D)
   | _=>False)
def pk(P:Program)(Q:List (Option Nat × List C)->Kd->List C->Prop)(S1:am)(w1:World)(v:Value):Prop:=
 ∃(f:Nat)(caps:List Value),v=.func (.func f) #[] caps.toArray/\PG P f/\∀L k rcs,Q L k rcs->∀(w:World)(S:am)(a:List Value),(∀b o,S1 b o->S b o)->bB S1 w1 w->(∀b o,S b o->b<w.heap.size)->EU w S (L.map λp=>.val p.1 p.2) a->
  Calls P f (a++caps).toArray w λe w1=>∃v,e=.returned v/\bM NO w w1/\∃X S1:am,(∀b o,X b o->b<w1.heap.size/\w.heap.size<=b)/\
   (∀b o,S1 b o->(false=true/\S b o)\/(b<w1.heap.size/\w.heap.size<=b))/\(∀b o,X b o->¬S1 b o)/\gM w1 NO k rcs.length v/\cD w1 S1 X rcs (cz w1 k v)
inductive Cq(P:Program)(f:Nat)(D:List RA)(K:(am->World->Value->Prop)->Prop):Prop
 | mk_ (h:∃Q:List (Option Nat × List C)->Kd->List C->Prop,PG P f/\(∀L k rcs,Q L k rcs->ah P f false (L.map (λp=>RA.val p.1 p.2)++D) k rcs)/\K (pk P Q))
def Cq.mk{D:List RA}{K:(am->World->Value->Prop)->Prop}(Q:List (Option Nat × List C)->Kd->List C->Prop)(h1:PG P f)(h2:∀L k rcs,Q L k rcs->ah P f false (L.map (λp=>RA.val p.1 p.2)++D) k rcs)(a:K (pk P Q)):Cq P f D K:=.mk_ ⟨Q,h1,h2,a⟩
inductive Fv(P:Program)(Ok:am->World->Value->Prop)(L:List (Option Nat × List C))(K:AV->Prop):Prop
 |mk_ (h:∃(Q:List (Option Nat × List C)->Kd->List C->Prop)(k:Kd)(rcs:List C),Ok=pk P Q/\Q L k rcs/\K (.Y k rcs))
theorem Fv.mk{Q:List (Option Nat × List C)->Kd->List C->Prop}{L:List (Option Nat × List C)}{K:AV->Prop}(h:Q L k rcs)(a:K (.Y k rcs)):Fv P (pk P Q) L K:=.mk_ ψ
def argA(P:Program)(F:Nat->AV)(x:Operand)(K:Bool->RA->Prop):Prop:=
 match qZ F x with
 | .fn f caps=>qH F caps λD=>Cq P f D λOk=>K false (.fn Ok)
 | _=>argV F x K
def GB(P:Program)(F:Nat->AV):List Operand->(Bool->List RA->Prop)->Prop
 | [],K=>K true []
 | x::xs,K=>argA P F x λa A=>GB P F xs λb As=>K (bif a then b else false) (A::As)
def argsV(F:Nat->AV):List Operand->(List (Option Nat × List C)->Prop)->Prop
 | [],K=>K []
 | x::xs,K=>jU F (qZ F x) λb a=>argsV F xs λL=>K ((b,bif b6 a then a else du a)::L)
inductive Cl(P:Program)(f:Nat)(b:Bool)(A:List RA)(K:AV->Prop):Prop
 |mk_ (h:∃sh k rcs,P4 P f sh A k rcs/\(sh=false\/b=true)/\K (.Y k rcs))
variable{b:Bool}
def Cl.mk{K:AV->Prop}(h:ah P f false A k rcs)(a:K (.Y k rcs)):Cl P f b A K:=by refine .mk_ ?_;exact⟨false,k,rcs,h.toG,.inl rfl,a⟩
theorem CG:type_of% @Cl.mk:=@Cl.mk
def Cl.sh{K:AV->Prop}(h:ah P f true A k rcs)(a:b=true)(c:K (.Y k rcs)):Cl P f b A K:=by refine .mk_ ?_;exact⟨true,k,rcs,h.toG,.inr a,c⟩
def Cl.out{K:AV->Prop}(h:Cl P f b A K):∃sh k rcs,P4 P f sh A k rcs/\(sh=false\/b=true)/\K (.Y k rcs):=by obtain⟨h⟩:=h;exact h
def Rp(P:Program)(F:Nat->AV)(f:Nat)(args:List Operand)(K:AV->Prop):Prop:=
 GB P F args λb A=>Cl P f b A K
def qm(P:Program)(F:Nat->AV)(t:Nat)(args:List Operand)(K:AV->Prop):Prop:=
 match F t with
 | .fn f caps=>GB P F args λ_ A=>qH F caps λD=>Cl P f false (A++D) K
 | .fv Ok=>argsV F args λL=>Fv P Ok L K
 | _=>False
section
variable{P:Program}{w0 w w1:World}{M S0 S:am}{N:gw}{φ:Nat->am}{F:Nat->AV}{a:Act}
variable{v:Value}{cs:List C}{ag:Option Nat}{S':am}
def bD.mono{S Y a:am}(h:bD w S Y ag cs v)(c:∀b o,S b o->S' b o)(d:∀b o,Y b o->a b o):bD w S' a ag cs v:=
 ⟨h.1,h.2.choose,h.2.choose_spec.1,h.2.choose_spec.2.mono c d⟩
def bD.freeze{Y:am}(h:bD w S Y ag cs v):bD w (λb o=>S b o\/Y b o) NO ag (du cs) v:=
 ⟨by rw[cf,I2];exact h.1,h.2.choose,h.2.choose_spec.1,h.2.choose_spec.2.freeze⟩
def so(S:am)(φ:Nat->am):am:=λb o=>S b o\/∃t,φ t b o
def bD.keepS(h:bD w S NO ag cs v)(a:bB S w w1)(c:∀b o,S b o->S' b o):bD w1 S' NO ag cs v:=by
 obtain⟨d,u,e,f⟩:=h;exact⟨d,u,e,(f.keep a (λ_ _ h=>h.elim)).mono c (λ_ _ h=>h)⟩
theorem sV.keep{A:RA}(h:sV w S A v)(c:bB S w w1)(i:∀b o,S b o->S' b o):sV w1 S' A v:=by
 cases A with
 | val p l=>exact bD.keepS h c i
 | ptr l=>
  obtain⟨g,b,u,e,a,j⟩:=h;exact⟨g,b,u,e,λd k=>⟨i _ _ (a d k).1,(c _ _ (a d k).1).1.trans (a d k).2⟩,(j.keep c (λ_ _ h=>h.elim)).mono i (λ_ _ h=>h)⟩
 | fn Ok=>
  obtain⟨S1,n,e,a,j⟩:=h;exact⟨S1,n,ψ,λb o f=>⟨(c b o (e b o f)).1.trans (a b o f).1,(c b o (e b o f)).2.trans (a b o f).2⟩,j⟩
def EU.keep{S':am}(a:bB S w w1)(c:∀b o,S b o->S' b o):∀{A:List RA}{vs:List Value},EU w S A vs->EU w1 S' A vs
 | [],[],_=>trivial
 | _::_,_::_,h=>⟨h.1.keep a c,EU.keep a c h.2⟩
 | [],_::_,h=>h.elim
 | _::_,[],h=>h.elim
def EU.append:∀{A B:List RA}{vs a:List Value},EU w S A vs->EU w S B a->EU w S (A++B) (vs++a)
 | [],_,[],_,_,h=>h
 | _::_,_,_::_,_,h,b=>⟨h.1,EU.append h.2 b⟩
 | [],_,_::_,_,h,_=>h.elim
 | _::_,_,[],_,h,_=>h.elim
def bB.rfl'(X:am)(w:World):bB X w w:=λ_ _ _=>⟨rfl,rfl⟩
theorem HQ{X:am}{tv:Nat->Value}(h:cZ w S F tv X (.Y .box cs) v){T:am}(e:∀b o,S b o\/X b o->T b o):sV w T (.ptr (du cs)) v:=by
 obtain⟨f,Y,i,j,k,⟨g,o,a,l⟩,c⟩:=h;refine⟨g,o,cz w .box v,a,λd n=>?_,c.freeze.mono ψ (λ_ _ h=>h)⟩
 grind [cf,cz]
theorem bv.argVal(h:bv w0 M S0 N S φ F a w){av:AV}{X:am}(g:∀b o,X b o->so S φ b o)(i:cZ w S F (tvs a) X av v){K:Bool->RA->Prop}(j:jU F av (FL K)) :
  ∃b A,K b A/\sV w (so S φ) A v/\(b=true->sV w S A v):=by
 obtain⟨p,k,Y,c,e,l⟩:=h.val i j;have f:∀b o,Y b o->so S φ b o:=λb o n=>(l b o n).elim (g b o) .inr
 unfold FL at c;cases d:b6 k with
 | true=>
  rw[d]at c;exact⟨true,_,c,(e.bare d).mono (λ_ _ h=>.inl h) (λ_ _ h=>h),λ_=>e.bare d⟩
 | false=>
  rw[d]at c;exact⟨false,_,c,e.freeze.mono (λb o h=>h.elim .inl (f b o)) (λ_ _ h=>h),ψ⟩
variable{x:Operand}
theorem bv.argV(h:bv w0 M S0 N S φ F a w){K:Bool->RA->Prop}(c:Ab.argV F x K):∃b A,K b A/\sV w (so S φ) A (a.eval x)/\(b=true->sV w S A (a.eval x)):=by
 have e:=h.ev x;have q:∀b o,opX φ x b o->so S φ b o:=λb o d=>by
  cases x with
  | tmp t=>exact .inr ⟨t,d⟩
  | _=>exact d.elim
 unfold Ab.argV at c;cases i:qZ F x with
 | Y k y=>
  rw[i]at c e;cases k with
  | box=>exact⟨false,_,c,HQ e λb o d=>d.elim .inl (q b o),ψ⟩
  | one=>exact h.argVal q e (show jU F (.Y .one y) (FL K) from c)
  | agg=>exact h.argVal q e (show jU F (.Y .agg y) (FL K) from c)
  | tup L=>exact c.elim
 | b5 t l H O=>grind [bv.argVal]
 | ref t l H=>
  rw[i]at c e;simp only at c;split at c
  ·rename_i y C
   have B:=h.slot t;rw[C]at B;obtain⟨k,J,r,j,g,o,p,D,E,P⟩:=e;rw[C]at p;cases p;have G:a.eval x=tvs a t:=by
    obtain⟨Q,Y,-,-,-,⟨R,T,G,-⟩,-⟩:=B
    grind [plc,uo]
   rw[G];exact⟨false,_,c,HQ B λb o d=>d.elim .inl (λd=>.inr ⟨t,d⟩),ψ⟩
  exact c.elim
 | iref r l=>
  rw[i]at c e;simp only at c;cases d:Nat.beq l 0 with
  | false=>grind
  | true=>
   rw[d]at c;have:=v4 d;subst this;have n:sV w S (.ptr r) (a.eval x):=by
    obtain⟨g,b,u,p,D,E⟩:=e;exact⟨g,b,u,by rw[p,Nat.add_zero],D,E⟩
   exact⟨true,_,c,n.keep (bB.rfl' _ _) (λ_ _ h=>.inl h),λ_=>n⟩
 | fv Ok=>
  rw[i]at c e;have n:sV w S (.fn Ok) (a.eval x):=e;exact⟨true,_,c,n.keep (bB.rfl' _ _) (λ_ _ h=>.inl h),λ_=>n⟩
 | fn f caps=>grind
 | dead=>grind
def bv.caps(h:bv w0 M S0 N S φ F a w):∀{cs:List Nat}{K:List RA->Prop},qH F cs K->∃D,K D/\EU w (so S φ) D (cs.map (tvs a))
 | [],K,e=>⟨[],e,tV1⟩
 | c::cs,K,e=>by
  have p:=h.slot c;have f:∀(k:Kd)(xs:List C)(q:Option Nat),F c=.Y k xs->jU F (.Y k xs) (λi j=>i=q/\j=xs)->sV w (so S φ) (.val q (du xs)) (tvs a c):=λk xs q g r=>by
   rw[g]at p;obtain⟨i,j,Y,⟨rfl,rfl⟩,r,t⟩:=h.val p r;exact r.freeze.mono (λb o d=>d.elim .inl (λd=>(t b o d).elim (λd=>.inr ⟨c,d⟩) .inr)) (λ_ _ h=>h)
  simp only[qH]at e;split at e
  ·rename_i xs g
   obtain⟨D,l,n⟩:=bv.caps h e;rw[g]at p;exact⟨_,l,HQ p (λb o d=>d.elim .inl λd=>.inr ⟨c,d⟩),n⟩
  ·rename_i xs g
   obtain⟨D,l,n⟩:=bv.caps h e;exact⟨_,l,f _ _ _ g ⟨rfl,rfl⟩,n⟩
  ·rename_i xs g
   obtain⟨D,l,n⟩:=bv.caps h e;exact⟨_,l,f _ _ _ g ⟨rfl,rfl⟩,n⟩
  exact e.elim
theorem bv.argA(h:bv w0 M S0 N S φ F a w){K:Bool->RA->Prop}(e:Ab.argA P F x K):∃b A,K b A/\sV w (so S φ) A (a.eval x)/\(b=true->sV w S A (a.eval x)):=by
 unfold Ab.argA at e;split at e
 ·rename_i f caps g
  have l:=h.ev x;rw[g]at l;obtain⟨D,n,o⟩:=h.caps e;obtain⟨Q,p,q,r⟩:=n;refine⟨false,_,r,⟨so S φ,w,λ_ _ h=>h,bB.rfl' _ _,f,caps.map (tvs a),l,p,λL k rcs t u y B d c i j=>?_⟩,ψ⟩;exact(q L k rcs t).run u y _ i (EU.append j (EU.keep c d o))
 exact h.argV e
def bv.args(h:bv w0 M S0 N S φ F a w):∀{xs:List Operand}{K:Bool->List RA->Prop},GB P F xs K->∃b A,K b A/\EU w (so S φ) A (xs.map a.eval)/\(b=true->EU w S A (xs.map a.eval))
 | [],K,c=>⟨true,[],c,tV1,λ_=>tV1⟩
 | x::xs,K,c=>by
  obtain⟨f,A,d,g,i⟩:=h.argA c;obtain⟨b,As,d,j,k⟩:=bv.args h d;refine⟨_,_,d,⟨g,j⟩,λe=>?_⟩;cases f with
  | false=>cases e
  | true=>exact⟨i rfl,k e⟩
def bv.argsV(h:bv w0 M S0 N S φ F a w):∀{xs:List Operand}{K:List (Option Nat × List C)->Prop},Ab.argsV F xs K->∃L,K L/\EU w (so S φ) (L.map λp=>.val p.1 p.2) (xs.map a.eval)
 | [],K,d=>⟨[],d,tV1⟩
 | x::xs,K,d=>by
  obtain⟨n,i,Y,e,g,j⟩:=h.val (h.ev x) d;obtain⟨L,e,k⟩:=bv.argsV h e;have f:∀b o,Y b o->so S φ b o:=λb o c=>by
   rcases j b o c with c|c
   ·cases x with
    | tmp t=>exact .inr ⟨t,c⟩
    | _=>exact c.elim
   exact .inr c
  refine⟨_,e,?_,k⟩;cases l:b6 i with
  | true=>exact(g.bare l).mono (λ_ _ h=>.inl h) (λ_ _ h=>h)
  | false=>exact g.freeze.mono (λb o h=>h.elim .inl (f b o)) (λ_ _ h=>h)
variable{ts:Array TypeId}{f:Nat}{o:Oper}
theorem Nc{args:Array Operand}(c:o.op=.call ⟨.value (.func f),args,ts⟩)(d:PG P f) :
  (execOp a.eval o).run P w=.ok (.enter f (args.map a.eval)) w:=by
 obtain⟨e,g,h,i⟩:=d;have b : ¬ e.name = "runtime.NumGoroutine" := by simpa using h
 simp[execOp,c,resolve,Act.eval,Deferred.ofValue,invoke,callFunc,g,b]
 grind
theorem yx{t:Nat}{args:Array Operand}{caps:List Value}(d:o.op=.call ⟨.value (.tmp t),args,ts⟩)(e:PG P f)(g:tvs a t=.func (.func f) #[] caps.toArray) :
  (execOp a.eval o).run P w=.ok (.enter f (args.toList.map a.eval++caps).toArray) w:=by
 obtain⟨h,i,j,l⟩:=e;have b : ¬ h.name = "runtime.NumGoroutine" := by simpa using j
 have c:a.tmps.getD t undef=.func (.func f) #[] caps.toArray:=g;have k:args.map a.eval++caps.toArray=(args.toList.map a.eval++caps).toArray:=ψ
 rw[<-k];simp[execOp,d,resolve,Act.eval,c,Deferred.ofValue,invoke,callFunc,i,b]
 grind
variable{rcs:List C}{vs:List Value}
theorem bv.enterG(h:bv w0 M S0 N S φ F a w){k:Kd}{sh:Bool}(c:(execOp a.eval o).run P w=.ok (.enter f vs.toArray) w){S2:am}(l:sh=true->∀b o,S2 b o->S b o)(n:Calls P f vs.toArray w λe w1=>∃v,e=.returned v/\bM NO w w1/\∃X S1:am,(∀b o,X b o->b<w1.heap.size/\w.heap.size<=b)/\
    (∀b o,S1 b o->(sh=true/\S2 b o)\/(b<w1.heap.size/\w.heap.size<=b))/\(∀b o,X b o->¬S1 b o)/\∃d Y:am,(∀b o,d b o->X b o)/\(∀b o,Y b o->X b o)/\(∀b o,d b o->¬Y b o)/\gM w1 d k rcs.length v/\cD w1 S1 Y rcs (cz w1 k v)):FP P o a w (pi w S F a (.Y k rcs)):=by
 refine FP.enter c ?_;refine n.mono λe w1 ⟨v,p,q,X,S1,r,t,D,d,Y,i,u,j,y,A⟩=>⟨v,p,q,X,λb o=>S b o\/S1 b o,r,λ_ _ h=>.inl h,λb o B=>?_,λb o B g=>?_,?_⟩
 ·grind
 ·rcases g with g|g
  ·have:=(h.sup b o g).1;grind
  grind
 exact⟨d,Y,i,u,j,y,A.mono ψ (λ_ _ h=>h)⟩
def bv.enter(h:bv w0 M S0 N S φ F a w){k:Kd}{sh:Bool}(c:(execOp a.eval o).run P w=.ok (.enter f vs.toArray) w){S2:am}(d:sh=true->∀b o,S2 b o->S b o)(g:Calls P f vs.toArray w λe w1=>∃v,e=.returned v/\bM NO w w1/\∃X S1:am,(∀b o,X b o->b<w1.heap.size/\w.heap.size<=b)/\
    (∀b o,S1 b o->(sh=true/\S2 b o)\/(b<w1.heap.size/\w.heap.size<=b))/\(∀b o,X b o->¬S1 b o)/\gM w1 NO k rcs.length v/\cD w1 S1 X rcs (cz w1 k v)):FP P o a w (pi w S F a (.Y k rcs)):=
 h.enterG c d (g.mono λ_ _ ⟨v,i,j,X,S1,l,n,p,q,r⟩=>⟨v,i,j,X,S1,l,n,p,NO,X,λ_ _ h=>h.elim,λ_ _ h=>h,λ_ _ h=>h.elim,q,r⟩)
def bv.all_lt(h:bv w0 M S0 N S φ F a w):∀b o,so S φ b o->b<w.heap.size:=λb o d=>d.elim (λc=>(h.sup b o c).1) (λ⟨t,c⟩=>(h.ex t b o c).1)
variable{K:AV->Prop}
theorem bv.call(h:bv w0 M S0 N S φ F a w){args:Array Operand}(l:o.op=.call ⟨.value (.func f),args,ts⟩)(n:Rp P F f args.toList K) :
  ∃av,K av/\FP P o a w (pi w S F a av):=by
 obtain⟨b,A,e,p,q⟩:=h.args n;obtain⟨t,k,rcs,g,i,r⟩:=e.out;have d:args.map a.eval=(args.toList.map a.eval).toArray:=ψ
 have c:=Nc (a:=a) (w:=w) l g.1;rw[d]at c;refine⟨_,r,?_⟩;rcases i with rfl|j
 ·exact h.enterG c (S2:=so S φ) ψ (g.2 w _ _ h.all_lt p)
 exact h.enterG c (S2:=S) (λ_ _ _ h=>h) (g.2 w S _ (λb o j=>(h.sup b o j).1) (q j))
theorem bv.callT(h:bv w0 M S0 N S φ F a w){t:Nat}{args:Array Operand}(n:o.op=.call ⟨.value (.tmp t),args,ts⟩)(c:qm P F t args.toList K) :
  ∃av,K av/\FP P o a w (pi w S F a av):=by
 have d:=h.slot t;unfold qm at c;split at c
 ·rename_i f caps e
  rw[e]at d;obtain⟨b,A,c,g,-⟩:=h.args c;obtain⟨D,i,q⟩:=h.caps c;obtain⟨sh,k,rcs,p,r,j⟩:=i.out;have l:sh=false:=ψ
  subst l;exact⟨_,j,h.enterG (yx n p.1 d) (S2:=so S φ) ψ (p.2 w _ _ h.all_lt (EU.append g q))⟩
 ·rename_i Ok e
  rw[e]at d;obtain⟨L,u,g⟩:=h.argsV c;obtain⟨Q,k,rcs,rfl,y,j⟩:=u;obtain⟨S1,w1,B,C,f,caps,E,G,H⟩:=d;exact⟨_,j,h.enter (yx n G E) (S2:=so S φ) (sh:=false) ψ (H L k rcs y w _ _ (λb o J=>.inl (B b o J)) C h.all_lt g)⟩
 exact c.elim
def H9:List (Option Nat)->Nat->Option (Nat × Option Nat)
 | [],_=>none
 | a::_,0=>some (0,a)
 | a::b,i+1=>(H9 b i).map λp=>(a.getD 1+p.1,p.2)
def mn(F:Nat->AV)(x:Operand)(i:Nat)(K:AV->Prop):Prop:=
 match x with
 | .tmp t=>match F t with
  | .Y (.tup sh) b=>match H9 sh i with
   | some (s,a)=>bif b6 (bU b s (a.getD 1)) then K (.Y (mu a) (bU b s (a.getD 1))) else K (.b5 t s [] a)
   | none=>False
  | _=>False
 | _=>False
def we(ag:Option Nat)(sh:List (Option Nat)):zR (ag::sh)=ag.getD 1+zR sh:=by cases ag<;>rfl
theorem NC{sh:List (Option Nat)}(h:E4 (ag::sh) (v::vs)):v.cells.toList.length=ag.getD 1/\(v=mkv ag λj=>v.cells.toList.getD j undef)/\E4 sh vs:=by
 cases ag with
 | none=>
  have a:v.cells = #[v]:=h.1;exact⟨by rw[a];rfl,by rw[a];rfl,h.2⟩
 | some n=>
  obtain⟨⟨arr,rfl,b⟩,c⟩:=h
  grind [rM,Go.Value.cells]
def Vx:∀{sh:List (Option Nat)}{vs:List Value}{i s:Nat}{ag:Option Nat},E4 sh vs->H9 sh i=some (s,ag)->
  ∃v,vs[i]? = some v/\s+ag.getD 1<=zR sh/\v=mkv ag λj=>(vs.flatMap λv=>v.cells.toList).getD (s+j) undef
 | [],_,i,s,ag,_,a=>by cases a
 | ag0::sh,[],i,s,ag,h,_=>by cases ag0<;>exact h.elim
 | ag0::sh,c::vs,i,s,ag,h,a=>by
  obtain⟨k,d,e⟩:=NC h;cases i with
  | zero=>
   simp only[H9,C2,Prod.mk.injEq]at a;obtain⟨rfl,rfl⟩:=a;refine⟨c,rfl,by rw[we];omega,d.trans (lM λj l=>?_)⟩;simp only[OD,CE,List.getD];rw[t9 ω]
  | succ i=>
   simp only[H9]at a;cases b:H9 sh i with
   | none=>rw[b]at a;cases a
   | some p=>
    rw[b]at a;simp only[CA,C2,Prod.mk.injEq]at a;obtain⟨rfl,rfl⟩:=a;obtain⟨v,f,n,g⟩:=Vx e (show H9 sh i=some (p.1,p.2) from b);refine⟨v,by simpa using f,by rw[we];omega,g.trans (lM λj _=>?_)⟩;simp only[OD,List.getD];rw[v9 ω]
    congr 2
    omega
theorem bv.extract(h:bv w0 M S0 N S φ F a w){i:Nat}(b:mn F x i K) :
  ∃av v,K av/\(Instr.extract (a.eval x) i).run P w=.ok v w/\cZ w S F (tvs a) NO av v:=by
 cases x with
 | tmp t=>
  have o:=h.slot t;show ∃av v,K av/\(Instr.extract (tvs a t) i).run P w=.ok v w/\_
  simp only[mn]at b;cases q:F t with
  | Y k e=>
   rw[q]at b o;cases k with
   | tup f=>
    simp only at b;obtain⟨E,Y,G,H,J,⟨y,r,A,L⟩,B⟩:=o;cases d:H9 f i with
    | none=>grind
    | some p=>
     obtain⟨s,g⟩:=p;rw[d]at b;simp only at b;obtain⟨v,C,D,l⟩:=Vx A d;have c:(Instr.extract (tvs a t) i).run P w=.ok v w:=by
      have:y[i]? = some v:=ψ
      simp[r,Instr.extract,this]
     have u:v=mkv g λj=>cz w (.tup f) (tvs a t) (s+j):=by rw[l,r];rfl
     cases n:b6 (bU e s (g.getD 1)) with
     | true=>
      rw[n]at b;refine⟨_,v,b,c,bD.slot ⟨by simp[bU];omega,_,u,?_⟩⟩;exact(B.part s (g.getD 1)).bare n
     | false=>
      rw[n]at b;exact⟨_,v,b,c,.tup f,e,e,s,q,rfl,ω,u⟩
   | _=>exact b.elim
  | _=>grind
 | _=>exact b.elim
inductive Es(x:ByteArray)(K:ByteArray->Prop):Prop
 |mk_ (h:∃z,x=z/\K z)
theorem Es.mk{x z:ByteArray}{K:ByteArray->Prop}(h:x=z)(a:K z):Es x K:=by refine .mk_ ?_;grind
def Es.out{x:ByteArray}{K:ByteArray->Prop}(h:Es x K):∃z,x=z/\K z:=by obtain⟨h⟩:=h;exact h
def MY(TE:Nat->Option TI)(c:BinOp)(T:Nat)(d e:Value)(K:Value->Prop):Prop:=
 match d,e with
 | .bool a,.bool b=>(match TE T with
   | some ⟨_,_,_,.sc .bool⟩=>(match c with
     | .eql=>K (.bool (a == b))
     | .neq=>K (.bool (a != b))
     | _=>False)
   | _=>False)
 | .string a,.string b=>(match c with
   | .eql=>K (.bool (a.toList == b.toList))
   | .neq=>K (.bool (!(a.toList == b.toList)))
   | .add=>Cd (((a.size+b.size:Nat):Int)<=9223372036854775807) (Es (a++b) λz=>K (.string z))
   | _=>False)
 | d,e=>JM c d e K
variable{y:Operand}{T:Nat}{TE:Nat->Option TI}
theorem UJ(e:∀t i,TE t=some i->j7 P t i){d:BinOp}{f g:Value}{K:Value->Prop}(c:MY TE d T f g K):∃v,K v/\v.oneCell'=true/\(do eqGuard d T x y f g;binOp d T f g:Sem Value).run P w=.ok v w:=by
 unfold MY at c;split at c
 ·rename_i a b
  split at c
  case h_2=>exact c.elim
  rename_i k;have l:P.underlying T=some .bool:=(e _ _ k).2.2.1;have h:(eqGuard d T x y (.bool a) (.bool b)).run P w=.ok () w:=by
   unfold eqGuard;split<;>rfl
  rw[Sem.run_bind,h];have n:(Op.equal T (.bool a) (.bool b)).run P w=.ok (a == b) w:=by
   unfold Op.equal;rw[show Op.maxDepth=(Op.maxDepth - 1)+1 from rfl,Op.equalIn];rw[Sem.run_bind,run_underlying l]
   rfl
  cases d<;>simp only at c<;>try exact c.elim
  case eql=>exact⟨_,c,rfl,by grind [Go.Result.andThen_ok,Go.Sem.run_bind,Go.Sem.run_pure,Go.binOp]⟩
  case neq=>exact⟨_,c,rfl,by grind [Go.Result.andThen_ok,Go.Sem.run_bind,Go.Sem.run_pure,Go.binOp]⟩
 ·rename_i a b
  have h:(eqGuard d T x y (.string a) (.string b)).run P w=.ok () w:=by
   unfold eqGuard;split<;>rfl
  rw[Sem.run_bind,h];cases d<;>simp only at c<;>try exact c.elim
  case eql=>exact⟨_,c,rfl,by simp[binOp,Op.stringOp]⟩
  case neq=>exact⟨_,c,rfl,by simp[binOp,Op.stringOp]⟩
  case add=>
   obtain⟨o,j⟩:=c.out;obtain⟨z,rfl,j⟩:=j.out;refine⟨_,j,rfl,?_⟩;have:¬((a.size+b.size:Nat):Int) > IntKind.i64.max:=by simp_all
   simp only[Result.andThen_ok,binOp,Op.stringOp];rw[CJ this]
   rfl
 exact Vj c
inductive Nn(rows:List (List C))(K:Prop):Prop
 |mk_ (h:rows≠[]/\K)
variable{rows:List (List C)}
def Nn.mk{K:Prop}(h:rows≠[])(a:K):Nn rows K:=by refine .mk_ ?_;exact⟨h,a⟩
theorem Nn.out{K:Prop}(h:Nn rows K):rows≠[]/\K:=by obtain⟨h⟩:=h;exact h
def YM:Operand->Bool
 | .const (.slice none 0 0)=>true
 | _=>false
def Eh(a:BinOp)(y:Operand):Bool:=
 match a with
 | .eql=>YM y
 | _=>false
def Ps(TE:Nat->Option TI)(F:Nat->AV)(T:Nat)(x:Operand)(K:AV->Prop):Prop:=
 match TE T with
 | some ⟨_,_,_,.sl _⟩=>jU F (qZ F x) λa b=>match a,b with
  | none,[.s _ rows]=>Nn rows (K (.Y .one [.v (.bool false)]))
  | none,[.v (.slice A _ _)]=>K (.Y .one [.v (.bool A.isNone)])
  | _,_=>False
 | _=>False
theorem TV{a:BinOp}(h:Eh a y=true):a=.eql/\y=.const (.slice none 0 0):=by grind [Eh,YM]
theorem dw.slice_some{w:World}{S F:am}{o:eS}(h:dw w S F (.s o rows) v)(b:rows≠[]):∃ad cap,v=.slice (some ad) rows.length cap:=by
 generalize a:C.s o rows=c at h;cases h with
 | v=>cases a
 | x=>cases a
 | z=>cases a
 | m=>cases a
 | it=>cases a
 | nil=>grind
 | own=>grind
 | suf=>simp_all
 | O=>simp_all
def dw.val_v{w:World}{S F:am}{y:Value}(h:dw w S F (.v y) v):v=y:=by
 generalize a:C.v y=c at h;cases h with
 | v=>cases a;rfl
 | _=>cases a
theorem bv.nilq(h:bv w0 M S0 N S φ F a w)(g:∀t i,TE t=some i->j7 P t i)(e:Ps TE F T x K) :
  ∃b:Bool,K (.Y .one [.v (.bool b)])/\(do eqGuard .eql T x (.const (.slice none 0 0)) (a.eval x) (.slice none 0 0);binOp .eql T (a.eval x) (.slice none 0 0):Sem Value).run P w=.ok (.bool b) w:=by
 unfold Ps at e;split at e
 ·rename_i q
  have r:=(g _ _ q).2.2;have run:∀(A:Option Addr)(n c:Nat),(do eqGuard .eql T x (.const (.slice none 0 0)) (.slice A n c) (.slice none 0 0);binOp .eql T (.slice A n c) (.slice none 0 0):Sem Value).run P w=.ok (.bool A.isNone) w:=λA n c=>by
   have y:(eqGuard .eql T x (.const (.slice none 0 0)) (.slice A n c) (.slice none 0 0)).run P w=.ok () w:=by
    unfold eqGuard;split<;>rfl
   rw[Sem.run_bind,y];have G:(Op.equal T (.slice A n c) (.slice none 0 0)).run P w=.ok A.isNone w:=by
    unfold Op.equal;rw[show Op.maxDepth=(Op.maxDepth - 1)+1 from rfl,Op.equalIn];rw[Sem.run_bind,run_underlying r];cases A<;>rfl
   grind [Go.Result.andThen_ok,Go.Sem.run_bind,Go.Sem.run_pure,Go.binOp]
  obtain⟨B,C,Y,d,⟨H,u,l,f,p,-⟩,-⟩:=h.val (h.ev x) e
  match B,C,d with
  | none,[.s o rows],d=>
   obtain⟨j,d⟩:=d.out;obtain⟨D,k,E⟩:=(p 0 _ rfl).slice_some j;have:a.eval x=.slice (some D) rows.length k:=l.trans E;rw[this];exact(ψ)
  | none,[.v (.slice A n c)],d=>
   have:a.eval x=.slice A n c:=l.trans (p 0 _ rfl).val_v;rw[this];exact(ψ)
 exact e.elim
structure EqR(P:Program)(op:BinOp)(T:Nat)(vs us:List Value)(r:Bool):Prop where
 run:∀(x y:Operand)(w:World),(do eqGuard op T x y (.agg vs.toArray) (.agg us.toArray);binOp op T (.agg vs.toArray) (.agg us.toArray):Sem Value).run P w=.ok (.bool r) w
inductive ZM(P:Program)(op:BinOp)(T:Nat)(vs us:List Value)(K:Bool->Prop):Prop
 |mk_ (h:∃r,EqR P op T vs us r/\K r)
variable{b:List Value}
theorem ZM.mk{P:Program}{a:BinOp}{K:Bool->Prop}{r:Bool}(h:EqR P a T vs b r)(c:K r):ZM P a T vs b K:=by refine .mk_ ?_;grind
def ZM.out{P:Program}{a:BinOp}{K:Bool->Prop}(h:ZM P a T vs b K):∃r,EqR P a T vs b r/\K r:=by obtain⟨h⟩:=h;exact h
def cvK:List C->(List Value->Prop)->Prop
 | [],K=>K []
 | .v x::cs,K=>cvK cs λl=>K (x::l)
 | _,_=>False
theorem UT:∀(l:List Value){K:List Value->Prop},K l->cvK (l.map C.v) K
 | [],_,h=>h
 | x::l,K,h=>UT l (K:=λl=>K (x::l)) h
theorem u7:∀{cs:List C}{K:List Value->Prop},cvK cs K->∃l,K l/\cs=l.map C.v
 | [],K,h=>⟨[],h,rfl⟩
 | .v x::cs,K,h=>by
  obtain⟨l,a,b⟩:=u7 (cs:=cs) h
  grind
 | .s _ _::_,_,h=>h.elim
 | .x::_,_,h=>h.elim
 | .z::_,_,h=>h.elim
 | .m _::_,_,h=>h.elim
 | .it _ _::_,_,h=>h.elim
def isAgg(F:Nat->AV)(x:Operand):Bool:=
 match x with
 | .tmp t=>(match F t with|.Y .agg _=>true|_=>false)
 | _=>false
def PL(P:Program)(F:Nat->AV)(a:BinOp)(T:Nat)(x y:Operand)(K:AV->Prop):Prop:=
 jU F (qZ F x) λb c=>jU F (qZ F y) λag2 ds=>match b,ag2 with
  | some _,some _=>cvK c λd=>cvK ds λe=>ZM P a T d e λr=>K (.Y .one [.v (.bool r)])
  | _,_=>False
theorem VQ{S Y:am}{n:Nat}{l:List Value}(h:bD w S Y (some n) (l.map C.v) v):v=.agg l.toArray:=by
 obtain⟨b,u,c,f,d,-⟩:=h;have g:l.length=n:=by simpa using b
 rw[c];show Value.agg ((List.range n).map u).toArray=_
 congr 2
 apply List.ext_getElem?;intro j;rw[C5];by_cases e:j<n
 ·have a:j<l.length:=ω
  have i:=d j (.v l[j]) ψ;rw[SD e,z4 a];have key:∀(Z:am)(y z:Value),dw w S Z (.v y) z->z=y:=λZ y z h=>by cases h;rfl
  grind
 grind
def bv.eqs(h:bv w0 M S0 N S φ F a w){b:BinOp}(e:PL P F b T x y K) :
  ∃r,K (.Y .one [.v (.bool r)])/\(do eqGuard b T x y (a.eval x) (a.eval y);binOp b T (a.eval x) (a.eval y):Sem Value).run P w=.ok (.bool r) w:=by
 unfold PL at e;obtain⟨i,u,Y,j,f,-⟩:=h.val (h.ev x) e;obtain⟨ag2,ds,A,c,g,-⟩:=h.val (h.ev y) j
 match i,ag2,c with
 | some n,some m,d=>
  obtain⟨B,k,l⟩:=u7 d;obtain⟨C,o,p⟩:=u7 k;obtain⟨r,q,t⟩:=o.out;rw[l]at f;rw[p]at g;refine⟨r,t,?_⟩;rw[VQ f,VQ g];exact q.run x y w
def QG:List Operand->(List Nat->Prop)->Prop
 | [],K=>K []
 | .tmp t::xs,K=>QG xs λl=>K (t::l)
 | _,_=>False
theorem Ma:∀(l:List Nat){K:List Nat->Prop},K l->QG (l.map .tmp) K
 | [],_,h=>h
 | t::l,K,h=>Ma l (K:=λl=>K (t::l)) h
theorem wn:∀{xs:List Operand}{K:List Nat->Prop},QG xs K->∃l,K l/\xs=l.map .tmp
 | [],K,h=>⟨[],h,rfl⟩
 | .tmp t::xs,K,h=>by
  obtain⟨l,a,b⟩:=wn (xs:=xs) h
  grind
 | .const _::_,_,h=>h.elim
 | .global _::_,_,h=>h.elim
 | .func _::_,_,h=>h.elim
def dJ(P:Program)(TE:Nat->Option TI)(F:Nat->AV)(o:Op)(K:AV->Prop):Prop:=
 match o with
 | .move x=>bS F x K
 | .assign x=>bS F x K
 | .nilCheck x=>(match x with|.tmp t=>(match F t with|.ref ..=>bS F x K|.iref ..=>bS F x K|.Y .box _=>bS F x K|_=>False)|_=>False)
 | .load T x=>zP TE F T x K
 | .fieldAddr T x f=>jY TE F T x f K
 | .indexAddr T x y=>jT TE F T x y K
 | .binOp op T x y _=>bif Eh op y then Ps TE F T x K else bif isAgg F x then PL P F op T x y K else NT F x λa=>NT F y λg=>MY TE op T a g λv=>K (.Y .one [.v v])
 | .unOp op _ x=>NT F x λa=>Xq op a λv=>K (.Y .one [.v v])
 | .pick c x y=>RB F c x y K
 | .alloc T=>Ex TE T K
 | .box _ x=>XQ F x K
 | .extract x i=>mn F x i K
 | .build T ps=>zt TE F T ps.toList K
 | .buildSlice T n ps=>Bb TE F T n ps.toList K
 | .makeSlice T x y=>R7 TE F T x y K
 | .makeFunc fn fs cs=>(match fn,fs.toList with|.func f,[]=>QG cs.toList λl=>K (.fn f l)|_,_=>False)
 | .makeMap T r=>xO TE T r K
 | .lookup T x y ok=>DH TE F T x y ok K
 | .slice T x d e h=>(match h with|none=>HW TE F T x d e K|some m=>(match d,e with|none,some y=>Xr TE F T x y m K|_,_=>False))
 | .field T x f=>vY TE F T x f K
 | .convert T1 b x=>E0 TE F T1 b x K
 | .call c=>match c.callee with
  | .value (.func f)=>Rp P F f c.args.toList K
  | .value (.tmp t)=>qm P F t c.args.toList K
  | .builtin .len=>(match c.args.toList,c.argTypes.toList with|[x],[T]=>Qh TE F T x K|_,_=>False)
  | .builtin .append=>(match c.args.toList,c.argTypes.toList with|[x,y],[T,b]=>bif Nat.beq T b then QZ TE F T x y K else False|_,_=>False)
  | .builtin .min=>(match c.args.toList with|[x,y]=>aMM false F x y K|_=>False)
  | .builtin .max=>(match c.args.toList with|[x,y]=>aMM true F x y K|_=>False)
  | _=>False
 | _=>False
theorem bv.pure_(h:bv w0 M S0 N S φ F a w)(A:∀t i,TE t=some i->j7 P t i)(d:dJ P TE F o.op K):∃av,K av/\FP P o a w (pi w S F a av):=by
 cases p:o.op with
 | move x=>rw[p]at d;obtain⟨av,e,B⟩:=h.move d;exact⟨av,e,.same (by simp[execOp,p]) B⟩
 | assign x=>rw[p]at d;obtain⟨av,e,B⟩:=h.move d;exact⟨av,e,.same (by simp[execOp,p]) B⟩
 | nilCheck x=>
  rw[p]at d;cases x with
  | tmp t=>
   have C:=h.slot t;simp only[dJ]at d;have J:bS F (.tmp t) K/\∃O,a.eval (.tmp t)=.pointer (some O):=by
    show _/\∃O,tvs a t=_
    cases Q:F t with
    | Y k R=>
     rw[Q]at d C;cases k with
     | box=>obtain⟨X1,Y,-,-,-,⟨g,b,V,-⟩,-⟩:=C;grind
     | _=>exact d.elim
    | ref=>rw[Q]at d C;obtain⟨k,R,r,j,g,b,-,-,-,V⟩:=C;grind
    | iref=>rw[Q]at d C;obtain⟨g,b,u,V,-⟩:=C;grind
    | _=>grind
   obtain⟨hm,O,U⟩:=J;obtain⟨av,e,B⟩:=h.move hm;exact⟨av,e,.same (v:=a.eval (.tmp t)) (by simp[execOp,p,U]) B⟩
  | _=>exact d.elim
 | load T x=>rw[p]at d;obtain⟨av,v,e,q,B⟩:=h.load A d;exact⟨av,e,.same (by simp[execOp,p,q]) B⟩
 | fieldAddr T x f=>rw[p]at d;obtain⟨av,v,e,q,B⟩:=h.fieldAddr A d;exact⟨av,e,.same (by simp[execOp,p,q]) B⟩
 | indexAddr T x y=>rw[p]at d;obtain⟨av,v,e,q,B⟩:=h.indexAddr A d;exact⟨av,e,.same (by simp[execOp,p,q]) B⟩
 | binOp W T x y yT=>
  rw[p]at d;simp only[dJ]at d;cases G:Eh W y with
  | true=>
   rw[G]at d;obtain⟨rfl,rfl⟩:=TV G;obtain⟨b,e,q⟩:=h.nilq A d;refine⟨_,e,.same (v:=.bool b) ?_ (lU rfl)⟩;simp only[execOp,p];rw[Sem.run_bind];have E:a.eval (.const (.slice none 0 0))=.slice none 0 0:=rfl
   simp_all
  | false=>
   rw[G]at d;cases X:isAgg F x with
   | true=>
    rw[X]at d;obtain⟨r,e,q⟩:=h.eqs d;refine⟨_,e,.same (v:=.bool r) ?_ (lU rfl)⟩;simp only[execOp,p];rw[Sem.run_bind,q]
    rfl
   | false=>
   rw[X]at d;obtain⟨H,-⟩:=h.scalar d;obtain⟨hy,-⟩:=h.scalar H;obtain⟨v,e,D,q⟩:=UJ (P:=P) (w:=w) A (T:=T) (x:=x) (y:=y) hy;refine⟨_,e,.same (v:=v) ?_ (lU D)⟩;simp only[execOp,p];rw[Sem.run_bind,q]
   rfl
 | unOp W T x=>
  rw[p]at d;obtain⟨H,-⟩:=h.scalar d;obtain⟨v,e,D,q⟩:=Xt (P:=P) (w:=w) H;exact⟨_,e,.same (v:=v) (by simp[execOp,p,q]) (lU D)⟩
 | pick c x y=>
  rw[p]at d;obtain⟨av,b,e,G,B⟩:=h.pick d;exact⟨av,e,.same (v:=if b then a.eval x else a.eval y) (by simp[execOp,p,G,asBool]) B⟩
 | alloc T=>rw[p]at d;obtain⟨av,v,w1,e,q,B⟩:=h.alloc A d;exact⟨av,e,.value (by simp[execOp,p,q]) B⟩
 | box T x=>rw[p]at d;obtain⟨av,v,w1,e,q,B⟩:=h.box (P:=P) (T:=T) d;exact⟨av,e,.value (by simp[execOp,p,q]) B⟩
 | extract x i=>rw[p]at d;obtain⟨av,v,e,q,B⟩:=h.extract (P:=P) d;exact⟨av,e,.same (by simp[execOp,p,q]) B⟩
 | build T ps=>rw[p]at d;obtain⟨av,v,e,q,B⟩:=h.build A d;exact⟨av,e,.same (by simp only[execOp,p];simp_all) B⟩
 | buildSlice T n ps=>rw[p]at d;obtain⟨av,v,w1,e,q,B⟩:=h.buildS A d;exact⟨av,e,.value (by simp only[execOp,p];simp_all) B⟩
 | makeMap T r=>rw[p]at d;obtain⟨av,v,w1,e,q,B⟩:=h.makeMap A d;exact⟨av,e,.value (by simp[execOp,p,q]) B⟩
 | lookup T x y ok=>rw[p]at d;obtain⟨v,e,D,q⟩:=h.look A d;exact⟨_,e,.same (v:=v) (by simp[execOp,p,q]) (lU D)⟩
 | makeSlice T x y=>rw[p]at d;obtain⟨av,v,w1,e,q,B⟩:=h.make A d;exact⟨av,e,.value (by simp[execOp,p,q]) B⟩
 | slice T x lo hi mx=>
  rw[p]at d;cases mx with
  | none=>obtain⟨av,v,e,q,B⟩:=h.slice A d;exact⟨av,e,.same (by simp only[execOp,p];simp_all) B⟩
  | some m=>
   cases lo with
   | some _=>exact d.elim
   | none=>
    cases hi with
    | none=>exact d.elim
    | some y=>obtain⟨v,e,q,B⟩:=h.slice0 A d;exact⟨_,e,.same (by simp only[execOp,p];simp_all) B⟩
 | field T x f=>rw[p]at d;obtain⟨av,v,e,q,B⟩:=h.field A d;exact⟨av,e,.same (by simp[execOp,p,q]) B⟩
 | convert T1 Z x=>rw[p]at d;obtain⟨v,e,D,q⟩:=h.conv A d;exact⟨_,e,.same (v:=v) (by simp[execOp,p,q]) (lU D)⟩
 | makeFunc fn fs R=>
  rw[p]at d;simp only[dJ]at d;split at d
  ·rename_i f hfs
   obtain⟨l,e,hl⟩:=wn d;have E:fs = #[]:=ψ
   have L:R.map a.eval=(l.map (tvs a)).toArray:=by
    apply Array.ext';rw[Array.toList_map,hl,List.map_map]
    rfl
   subst E;exact⟨_,e,.same (v:=.func (.func f) #[] (l.map (tvs a)).toArray) (by simp[execOp,p,Instr.makeFunc,L]) rfl⟩
  exact d.elim
 | call c=>
  rw[p]at d;obtain⟨callee,args,ts⟩:=c;simp only[dJ]at d;split at d
  ·exact h.call p d
  ·exact h.callT p d
  ·split at d
   ·rename_i x T H hT
    obtain⟨v,e,D,q⟩:=h.len (ty:=o.type) A d;have E:args = #[x]:=ψ
    have L:ts = #[T]:=ψ
    subst E L;refine⟨_,e,.same (v:=v) ?_ (lU D)⟩;simp[execOp,p,resolve,invoke,builtin,q]
   exact d.elim
  ·split at d
   ·rename_i x y T Z H hT
    cases G:Nat.beq T Z with
    | false=>grind
    | true=>
     rw[G]at d;have:=v4 G;subst this;obtain⟨av,v,w1,e,q,B⟩:=h.appP (ty:=o.type) A d;have E:args = #[x,y]:=ψ
     have L:ts = #[T,T]:=ψ
     subst E L;exact⟨av,e,.value (by simp[execOp,p,resolve,invoke,builtin,q]) B⟩
   exact d.elim
  ·split at d
   ·rename_i x y H
    obtain⟨v,e,D,q⟩:=h.mm (P:=P) (ts:=ts) (ty:=o.type) d;have E:args = #[x,y]:=ψ
    subst E;refine⟨_,e,.same (v:=v) ?_ (lU D)⟩;simp only[Bool.false_eq_true,if_false]at q;simp[execOp,p,resolve,invoke,builtin,q]
   exact d.elim
  ·split at d
   ·rename_i x y H
    obtain⟨v,e,D,q⟩:=h.mm (P:=P) (ts:=ts) (ty:=o.type) d;have E:args = #[x,y]:=ψ
    subst E;refine⟨_,e,.same (v:=v) ?_ (lU D)⟩;simp only[if_true]at q;simp[execOp,p,resolve,invoke,builtin,q]
   exact d.elim
  exact d.elim
 | _=>rw[p]at d;exact d.elim
end
inductive Lq(bs:List C)(off:Nat)(st:cT)(n:Nat)(K:List C->List C->Prop):Prop
 |mk_ (h:∃r j cs bs',cA bs off st=some (r,j)/\nl bs off st/\j+n<=r.length/\cs=bU r j n/\bs'=gX bs off st (splice r j (List.replicate n .x))/\K cs bs')
variable{r cs a:List C}{rows:List (List C)}{o:eS}{off j:Nat}
theorem Lq.one{b:List C}{i k n:Nat}{K:List C->List C->Prop}(h1:b[off]? = some (.s o rows))(c:o.mine=true)(h2:rows[i]? = some r)(f:r.length=k)(g:j+n<=k)(h:cs=bU r j n)(l:a=b.set off (.s o (rows.set i (splice r j (List.replicate n .x)))))(p:K cs a):Lq b off [(i,k,j)] n K:=by
 have d:o≠.O:=λe=>by subst e;cases c
 refine .mk_ ?_
 grind [cA,nl,gX]
def Cj:type_of% @Lq.one:=@Lq.one
variable{st:cT}
theorem Lq.out{n:Nat}{K:List C->List C->Prop}(h:Lq a off st n K):∃r j,cA a off st=some (r,j)/\nl a off st/\j+n<=r.length/\K (bU r j n) (gX a off st (splice r j (List.replicate n .x))):=by
 obtain⟨h⟩:=h;grind
def Xd(t:Nat):AV->AV
 | .b5 t' off (s::st) ag=>bif Nat.beq t' t then .dead else .b5 t' off (s::st) ag
 | .b5 t' off [] ag=>.b5 t' off [] ag
 | .ref t' off (s::st)=>bif Nat.beq t' t then .dead else .ref t' off (s::st)
 | .ref t' off []=>.ref t' off []
 | .Y k cs=>.Y k cs
 | .iref r off=>.iref r off
 | .fn f caps=>.fn f caps
 | .fv Ok=>.fv Ok
 | .dead=>.dead
def updN(F:Nat->AV)(t:Nat)(k:Kd)(cs:List C):Nat->AV:=λs=>bif Nat.beq s t then .Y k cs else Xd t (F s)
theorem zo(F:Nat->AV)(t:Nat)(k:Kd)(cs:List C):updN F t k cs t=.Y k cs:=by simp[updN]
variable{t:Nat}
theorem BV(F:Nat->AV){s:Nat}(k:Kd)(cs:List C)(h:s≠t):updN F t k cs s=Xd t (F s):=by grind [Nat.beq_eq,updN]
def Xx(F:Nat->AV)(t:Nat)(k:Kd)(cs:List C):Nat->AV:=match k with
 | .box=>updH F t .box cs
 | .one=>updN F t .one cs
 | .agg=>updN F t .agg cs
 | .tup l=>updN F t (.tup l) cs
variable{F:Nat->AV}
theorem uQ{a:Nat}{f:Kd}{cs2:List C}(h:updH F t k cs a=.Y f cs2):updN F t k cs a=.Y f cs2:=by
 by_cases e:a=t
 ·grind [kc,zo]
 rw[iY _ _ _ e]at h;rw[BV _ _ _ e];cases b:F a with
 | Y i cs3=>rw[b]at h;exact h
 | b5 g c d j=>grind [wU]
 | ref g c d=>
  rw[b]at h;cases d with
  | nil=>cases h
  | cons s d=>grind [wU]
 | _=>rw[b]at h;cases h
theorem GJ(cs:List C)(off:Nat)(s:Nat × Nat × Nat)(st:cT)(r:List C):(gX cs off (s::st) r).length=cs.length:=by grind [gX]
def iQ(F:Nat->AV)(y:Operand)(K:(Nat->AV)->Option Nat->List C->Prop):Prop:=
 match y with
 | .tmp t=>match F t with
  | .Y .one a=>K (updH F t .one (splice a 0 (List.replicate a.length .x))) none a
  | .Y .agg a=>K (updH F t .agg (splice a 0 (List.replicate a.length .x))) (some a.length) a
  | .b5 c b [] ag=>(match F c with
    | .Y k a=>bif Nat.ble (b+ag.getD 1) a.length then K (updN F c k (splice a b (List.replicate (ag.getD 1) .x))) ag (bU a b (ag.getD 1)) else False
    | _=>False)
  | .b5 c b (s::st) ag=>(match F c with
    | .Y k a=>Lq a b (s::st) (ag.getD 1) λxs d=>K (updN F c k d) ag xs
    | _=>False)
  | _=>False
 | _=>False
def ch(N:gw)(F:Nat->AV)(d:Nat)(av:AV)(K:(Nat->AV)->Prop):Prop:=bif N.free d&&!av.uses d then K (put F d av) else False
def gw.al(N:gw)(d:Nat):Bool:=N.mo.any λp=>Nat.beq p.1 (1000000+d)
def nH(N:gw)(F:Nat->AV)(d:Nat)(x:Operand)(K:(Nat->AV)->Prop):Prop:=
 match x with
 | .tmp t=>match F t with
  | .b5 ..=>bif N.al d then bS F x λa=>ch N F d a K else iQ F x λc e b=>ch N c d (.Y (mu e) b) K
  | .Y .one b=>bif b6 b then bS F x λa=>ch N F d a K else iQ F x λc e b=>ch N c d (.Y (mu e) b) K
  | .Y .agg b=>bif b6 b then bS F x λa=>ch N F d a K else iQ F x λc e b=>ch N c d (.Y (mu e) b) K
  | _=>bS F x λa=>ch N F d a K
 | x=>bS F x λa=>ch N F d a K
inductive Pu(bs:List C)(off:Nat)(st:cT)(xs:List C)(K:List C->Prop):Prop
 |mk_ (h:∃r j bs',cA bs off st=some (r,j)/\nl bs off st/\j+xs.length<=r.length/\bs'=gX bs off st (splice r j xs)/\K bs')
variable{K:List C->Prop}{xs:List C}
theorem Pu.mk{b:List C}(h1:cA b off st=some (r,j))(h2:nl b off st)(c:j+xs.length<=r.length)(d:a=gX b off st (splice r j xs))(e:K a):Pu b off st xs K:=by
 refine .mk_ ?_;grind
theorem Pu.one{b:List C}{i k:Nat}(h1:b[off]? = some (.s o rows))(c:o.mine=true)(h2:rows[i]? = some r)(g:r.length=k)(h:j+xs.length<=k)(l:a=b.set off (.s o (rows.set i (splice r j xs))))(d:K a):Pu b off [(i,k,j)] xs K:=by
 have f:o≠.O:=λe=>by subst e;cases c
 refine Pu.mk (r:=r) (j:=j) (by grind [cA]) (by grind [nl]) ω (by grind [gX]) d
def CR:type_of% @Pu.one:=@Pu.one
theorem Pu.out(h:Pu a off st xs K):∃r j,cA a off st=some (r,j)/\nl a off st/\j+xs.length<=r.length/\K (gX a off st (splice r j xs)):=by
 obtain⟨h⟩:=h;grind
def vE(F:Nat->AV)(x:Operand)(cs:List C)(K:(Nat->AV)->Prop):Prop:=
 match x with
 | .tmp d=>match F d with
  | .Y .box c=>bif Nat.ble cs.length c.length then fc (splice c 0 cs) λa=>K (updH F d .box a) else False
  | .ref t b []=>(match F t with
    | .Y .box c=>bif Nat.ble (b+cs.length) c.length then fc (splice c b cs) λa=>K (updH F t .box a) else False
    | _=>False)
  | .ref t b (s::st)=>(match F t with
    | .Y k c=>Pu c b (s::st) cs λa=>K (Xx F t k a)
    | _=>False)
  | _=>False
 | _=>False
def pW(TE:Nat->Option TI)(F:Nat->AV)(T:Nat)(x y:Operand)(K:(Nat->AV)->Prop):Prop:=
 match TE T with
 | some i=>jU F (qZ F y) λ_ a=>bif Nat.beq a.length i.size then(bif b6 a then vE F x a K else iQ F y λb _ a=>bif Nat.beq a.length i.size then vE b x a K else False) else False
 | none=>False
section
variable{P:Program}{w0 w w1:World}{M S0 S:am}{N:gw}{φ:Nat->am}{F:Nat->AV}{a:Act}{TE:Nat->Option TI}
variable{cs:List C}{t:Nat}{φ1:Nat->am}
def bv.toN{S1:am}{k:Kd}{l:List C}{A:World}(h:bv w0 M S0 N S1 φ1 (updH F t k l) a A)(E:bv w0 M S0 N S φ F a w)(G:∀v,cz A k v=cz w k v)(H:F t=.Y k cs)(L:l.length=cs.length):bv w0 M S0 N S1 φ1 (updN F t k l) a A:=by
 refine⟨λs=>?_,h.dis,h.disS,h.ex,h.sub,h.sup,h.old,h.size,h.defers,h.par⟩;have b:=h.slot s;by_cases e:s=t
 ·subst e;rw[kc]at b;rw[zo];exact b
 rw[iY _ _ _ e]at b;rw[BV _ _ _ e];cases c:F s with
 | dead=>trivial
 | Y O cs3=>rw[c]at b;exact b
 | iref r q=>rw[c]at b;exact b
 | fn f caps=>rw[c]at b;exact b
 | fv Ok=>rw[c]at b;exact b
 | ref y q u=>
  rw[c]at b;cases u with
  | nil=>
   obtain⟨i,cs2,r,j,g,o,d,n⟩:=b;exact⟨i,cs2,r,j,g,o,uQ d,n⟩
  | cons J u=>
   simp only[wU]at b;simp only[Xd];cases p:Nat.beq y t with
   | true=>trivial
   | false=>
    rw[p]at b;obtain⟨i,cs2,r,j,g,o,d,n⟩:=b;exact⟨i,cs2,r,j,g,o,uQ d,n⟩
 | b5 y q u P=>
  rw[c]at b;simp only[wU]at b;cases u with
  | nil=>
   simp only[Xd];cases p:Nat.beq y t with
   | true=>
    have:=v4 p;subst this;have d:=E.slot s;rw[c]at d;obtain⟨i,cs2,r,j,B,D,Q,K⟩:=d;rw[H]at B;cases B;simp only[cA,C2,Prod.mk.injEq]at D;obtain⟨rfl,rfl⟩:=D;exact⟨_,_,_,_,zo ..,rfl,ω,by rw[G];exact K⟩
   | false=>
    rw[p]at b;obtain⟨i,cs2,r,j,d,n⟩:=b;exact⟨i,cs2,r,j,uQ d,n⟩
  | cons J u=>
   simp only[Xd];cases p:Nat.beq y t with
   | true=>trivial
   | false=>
    rw[p]at b;obtain⟨i,cs2,r,j,d,n⟩:=b;exact⟨i,cs2,r,j,uQ d,n⟩
def bv.toP{S1:am}{k:Kd}{b:List C}{c:World}(h:bv w0 M S0 N S1 φ1 (updH F t k b) a c)(d:bv w0 M S0 N S φ F a w)(e:F t=.Y k cs)(f:b.length=cs.length):bv w0 M S0 N S1 φ1 (Xx F t k b) a c:=by
 cases k with
 | box=>exact h
 | _=>exact h.toN d (λ_=>rfl) e f
theorem bv.taken(h:bv w0 M S0 N S φ F a w){y:Operand}{K:(Nat->AV)->Option Nat->List C->Prop}(e:iQ F y K) :
  ∃F' ag cs V φ',K F' ag cs/\bv w0 M S0 N S φ' F' a w/\bD w S V ag cs (a.eval y)/\(∀b o,V b o->(∀t,¬φ' t b o)/\¬S b o/\b<w.heap.size/\(w0.heap.size<=b\/M b o))/\(∀t b o,φ' t b o->φ t b o)/\(∀b o,V b o->∃t,φ t b o):=by
 cases y with
 | tmp t=>
  have A:=h.slot t;simp only[iQ]at e;have fin:∀(d c n:Nat)(k:Kd)(cs:List C),F d=.Y k cs->c+n<=cs.length->∀(ag:Option Nat),ag.getD 1=n->(a.eval (.tmp t)=mkv ag λj=>cz w k (tvs a d) (c+j))->
    K (updH F d k (splice cs c (List.replicate n .x))) ag (bU cs c n)->
    ∃F' ag cs V φ',K F' ag cs/\bv w0 M S0 N S φ' F' a w/\bD w S V ag cs (a.eval (.tmp t))/\(∀b o,V b o->(∀t,¬φ' t b o)/\¬S b o/\b<w.heap.size/\(w0.heap.size<=b\/M b o))/\(∀t b o,φ' t b o->φ t b o)/\(∀b o,V b o->∃t,φ t b o):=by
   intro d c n k cs p B ag J H D;obtain⟨V,X,f,E,O,u,l⟩:=h.take p B;refine⟨_,ag,_,V,_,D,l,⟨by simp[bU];omega,_,H,u⟩,λb o g=>⟨λq i=>?_,h.disS d b o (f b o g),h.ex d b o (f b o g)⟩,λq b o g=>?_,ψ⟩
   ·by_cases G:q=d
    ·grind
    rw[CJ G]at i;exact h.dis q d G b o i (f b o g)
   grind
  have Fc:∀(d c n:Nat)(k:Kd)(cs:List C),F d=.Y k cs->c+n<=cs.length->∀(ag:Option Nat),ag.getD 1=n->(a.eval (.tmp t)=mkv ag λj=>cz w k (tvs a d) (c+j))->
    K (updN F d k (splice cs c (List.replicate n .x))) ag (bU cs c n)->
    ∃F' ag cs V φ',K F' ag cs/\bv w0 M S0 N S φ' F' a w/\bD w S V ag cs (a.eval (.tmp t))/\(∀b o,V b o->(∀t,¬φ' t b o)/\¬S b o/\b<w.heap.size/\(w0.heap.size<=b\/M b o))/\(∀t b o,φ' t b o->φ t b o)/\(∀b o,V b o->∃t,φ t b o):=by
   intro d c n k cs p B ag J H D;obtain⟨V,X,f,E,O,u,l⟩:=h.take p B;refine⟨_,ag,_,V,_,D,l.toN h (λ_=>rfl) p (by grind [splice]),⟨by simp[bU];omega,_,H,u⟩,λb o g=>⟨λq i=>?_,h.disS d b o (f b o g),h.ex d b o (f b o g)⟩,λq b o g=>?_,ψ⟩
   ·by_cases G:q=d
    ·grind
    rw[CJ G]at i;exact h.dis q d G b o i (f b o g)
   grind
  cases p:F t with
  | Y k cs=>
   rw[p]at e A;obtain⟨X1,Y,-,-,-,l,-⟩:=A;cases k with
   | one=>
    have B:cs.length=1:=l;refine fin t 0 cs.length .one cs p ω none (by simp[B]) rfl ?_
    grind [bU]
   | agg=>
    obtain⟨arr,H,P⟩:=l;refine fin t 0 cs.length .agg cs p ω (some cs.length) rfl ?_ ?_
    ·show tvs a t=_
     grind [rM,cz,Go.Value.cells]
    grind [bU]
   | _=>exact e.elim
  | b5 d c L ag=>
   rw[p]at e A;cases L with
   | cons s L=>
    simp only at e;obtain⟨k,cs,r,j,f,E,u,l⟩:=A;rw[f]at e;simp only at e;obtain⟨r',j',Q,R,T,D⟩:=Lq.out e;obtain⟨V,φ',U,W,Z,g4,g5⟩:=h.lend f Q R T;exact⟨_,ag,_,V,φ',D,W.toN h (λ_=>rfl) f (GJ ..),⟨by simp[bU];omega,_,l,U⟩,Z,g4,ψ⟩
   | nil=>
    simp only at e;obtain⟨k,cs,r,j,f,E,u,l⟩:=A;rw[f]at e;simp only[cA,C2,Prod.mk.injEq]at E;obtain⟨rfl,rfl⟩:=E;simp only at e;cases g:Nat.ble (c+ag.getD 1) cs.length with
    | false=>grind
    | true=>
     rw[g]at e;exact Fc d c (ag.getD 1) k cs f u ag rfl (l.trans rfl) e
  | _=>grind
 | _=>exact e.elim
variable{K:(Nat->AV)->Prop}{v:Value}{d:Nat}
theorem bv.putD_new(h:bv w0 M S0 N S φ F a w){av:AV}(b:pi w S F a av v w1)(c:ch N F d av K):∃F',K F'/\St w0 M S0 N F' (a.put (some d) v) w1:=by grind [bv.put_newR,ch]
variable{ag:Option Nat}
theorem bv.putD_taken{φ':Nat->am}{F':Nat->AV}(h:bv w0 M S0 N S φ' F' a w){V:am}(g:bD w S V ag cs v)(i:∀b o,V b o->(∀t,¬φ' t b o)/\¬S b o/\b<w.heap.size/\(w0.heap.size<=b\/M b o))(e:ch N F' d (.Y (mu ag) cs) K):∃f,K f/\St w0 M S0 N f (a.put (some d) v) w:=by
 unfold ch at e;cases c:(N.free d&&!(AV.Y (mu ag) cs).uses d) with
 | false=>grind
 | true=>
  rw[c]at e;simp only[I0,Bool.not_eq_true']at c;exact⟨_,e,S,_,h.put_gen (Cn _ _) c.1 g.slot c.2 ψ ψ ψ⟩
variable{x:Operand}
theorem bv.assign(h:bv w0 M S0 N S φ F a w)(b:nH N F d x K):∃F',K F'/\St w0 M S0 N F' (a.put (some d) (a.eval x)) w:=by
 have c:bS F x (λe=>ch N F d e K)->∃F',K F'/\St w0 M S0 N F' (a.put (some d) (a.eval x)) w:=λi=>by
  obtain⟨e,j,k⟩:=h.move i;exact h.putD_new (pi.same k) j
 have o:iQ F x (λF' l n=>ch N F' d (.Y (mu l) n) K)->∃F',K F'/\St w0 M S0 N F' (a.put (some d) (a.eval x)) w:=λi=>by grind [bv.taken,bv.putD_taken]
 cases x with
 | tmp t=>
  grind [nH]
 | const v=>exact c b
 | global g=>exact c b
 | func f=>exact c b
variable{T:Nat}
theorem bv.storeSt(h:bv w0 M S0 N S φ F a w){k:Kd}{p r:List C}{off j:Nat}{st:cT}(U:F t=.Y k p)(D:st≠[])(W:cA p off st=some (r,j))(X:nl p off st)(Q:j+cs.length<=r.length){V:am}{u:Nat->Value}(i:cD w S V cs u)(q:Free w0 M S φ w V)(E:(P.info? T).map (·.size)=some cs.length)(Z:v.cells.toList=(List.range cs.length).map u){g o:Nat}(G:plc w (cz w k (tvs a t)) (uo k (tvs a t)) off st=some (g,o)) :
  ∃w1,(Instr.storeAt T (.pointer (some ⟨g,o,none⟩)) v).run P w=.ok () w1/\St w0 M S0 N (updH F t k (gX p off st (splice r j cs))) a w1:=by
 obtain⟨e,b,u',Y,R,e2,e3,e4,y,e6⟩:=h.focus U D W X;rw[e4]at G;simp only[C2,Prod.mk.injEq]at G;obtain⟨rfl,rfl⟩:=G;have H:v.cells.toList.length=cs.length:=by rw[Z];simp
 have J:v.cells.size=cs.length:=by simpa using H
 have hin:∀d,d<cs.length->(∃z,cel w e (b+j+d)=some z)/\fro w e (b+j+d)=NF:=λd hd=>by
  obtain⟨-,-,a3,a4⟩:=y (j+d) ω
  grind
 have l:∀x∈v.cells.toList,x.oneCell'=true:=λx c=>by grind [cD.one]
 have f:=run_storeCells_cells (P:=P) e (b+j) v.cells.toList 0 w ψ
  ψ l
 simp only[Nat.add_zero]at f;have A:bM (λx o=>x=e/\b+j<=o/\o<b+j+cs.length) w (w.setCells e (b+j) v.cells.toList):=fC _ _ _ ω;have hgv:∀d,d<cs.length->v.cells.toList[d]? = some (u d):=ψ
 have n:bB S w (w.setCells e (b+j) v.cells.toList):=λx o c=>⟨A.cel x o (h.sup x o c).1 (λB=>by
   have:=(y (o - b) ω).1;rw[show b+(o - b)=o by omega,<-B.1]at this;exact h.disS t x o this c),cm _ _ _ _ _ _⟩
 have K:bB Y w (w.setCells e (b+j) v.cells.toList):=λx o c=>⟨A.cel x o (h.ex t x o (R x o c)).1 (λB=>by
   have:=(y (o - b) ω).2.1
   grind),cm _ _ _ _ _ _⟩
 have L:bB V w (w.setCells e (b+j) v.cells.toList):=λx o c=>⟨A.cel x o (q x o c).2.2.1 (λB=>by
   have:=(y (o - b) ω).1;rw[show b+(o - b)=o by omega,<-B.1]at this;exact(q x o c).1 t this),cm _ _ _ _ _ _⟩
 refine⟨_,by simp[Instr.storeAt,Instr.sureAddr,storeVar,ml E,J,f],S,_,e6 _ (splice r j cs) (λd=>if j<=d/\d<j+cs.length then u (d - j) else u' d) (λx o=>Y x o\/V x o) _ A ω (λd hd=>⟨?_,by grind [cm]⟩) (de Q) ((e2.keep n K).join (i.keep n L) Q (λx o c O=>(q x o O).1 t (R x o c))) (λx o c=>c.imp id (q x o))⟩
 grind [bA,bt]
theorem bv.putB(h:bv w0 M S0 N S φ F a w){V:am}(L:bD w S V ag cs v)(q:∀b o,V b o->(∀t,¬φ t b o)/\¬S b o/\b<w.heap.size/\(w0.heap.size<=b\/M b o))(e:(P.info? T).map (·.size)=some cs.length)(c:vE F x cs K) :
  ∃F' w1,K F'/\(Instr.storeAt T (a.eval x) v).run P w=.ok () w1/\St w0 M S0 N F' a w1:=by
 obtain⟨u,y,A⟩:=L.cells;cases x with
 | tmp B=>
  have l:=h.slot B;show ∃F' w1,K F'/\(Instr.storeAt T (tvs a B) v).run P w=.ok () w1/\_
  simp only[vE]at c;cases D:F B with
  | Y k O=>
   rw[D]at c l;cases k with
   | box=>
    simp only at c;cases p:Nat.ble cs.length O.length with
    | false=>grind
    | true=>
     rw[p]at c;simp only[cond_true,dS]at c;obtain⟨Z,Y,-,-,-,⟨g,o,E,-⟩,-⟩:=l;obtain⟨w1,d,f⟩:=h.store (P:=P) D (off:=0) (by simp_all) A q e y (g:=g) (o:=o) (by rw[E];rfl)
     grind
   | _=>exact c.elim
  | ref t off H=>
   rw[D]at c l;cases H with
   | cons s H=>
    simp only at c;obtain⟨k,n,r,j,g,o,i,Q,G,J⟩:=l;rw[i]at c;obtain⟨r',j',R,U,W,X⟩:=c.out;obtain⟨w1,d,S1,φ1,f⟩:=h.storeSt (P:=P) i (by simp) R U W A q e y G;exact⟨_,w1,X,by rw[J];exact d,S1,φ1,f.toP h i (GJ ..)⟩
   | nil=>
    simp only at c;obtain⟨k,n,r,j,g,o,i,Q,G,J⟩:=l;rw[i]at c;cases k with
    | box=>
     simp only at c;cases p:Nat.ble (off+cs.length) n.length with
     | false=>grind
     | true=>
      rw[p]at c;simp only[cond_true,dS]at c;obtain⟨w1,d,f⟩:=h.store (P:=P) i (O2 p) A q e y G
      grind
    | _=>exact c.elim
  | _=>grind
 | _=>exact c.elim
theorem bv.storeOp(h:bv w0 M S0 N S φ F a w)(d:∀t i,TE t=some i->j7 P t i){y:Operand}(b:pW TE F T x y K) :
  ∃F' w1,K F'/\(Instr.storeAt T (a.eval x) (a.eval y)).run P w=.ok () w1/\St w0 M S0 N F' a w1:=by
 unfold pW at b;split at b
 case h_2=>exact b.elim
 rename_i i g;have j:=(d _ _ g).size;obtain⟨n,e,Y,c,k,-⟩:=h.val (h.ev y) b;cases l:Nat.beq e.length i.size with
 | false=>grind
 | true=>
  rw[l]at c;simp only[cond_true]at c;cases f:b6 e with
  | true=>
   rw[f]at c;exact h.putB (V:=NO) (k.bare f) (λ_ _ h=>h.elim) (by simp_all) c
  | false=>
   grind [bv.taken,bv.putB,v4]
end
def zJ(F:Nat->AV)(x:Operand)(K:(Nat->AV)->Option Nat->List C->Prop):Prop:=jU F (qZ F x) λb a=>bif b6 a then K F b a else iQ F x K
def fillW(c:Nat->Option (Nat × Nat)):List (Nat × Operand)->List C->((Nat->AV)->List C->Prop)->(Nat->AV)->Prop
 | [],a,K,F=>K F a
 | p::rest,a,K,F=>match c p.1 with
  | some q=>zJ F p.2 λd _ xs=>bif Nat.beq xs.length q.2&&Nat.ble (q.1+q.2) a.length then fc (splice a q.1 xs) λb=>fillW c rest b K d else False
  | none=>False
def n8(TE:Nat->Option TI)(N:gw)(F:Nat->AV)(d T:Nat)(parts:List (Nat × Operand))(K:(Nat->AV)->Prop):Prop:=
 match TE T with
 | some ⟨_,_,zero,.st flds⟩=>bif Jt TE flds then fillW (ZI TE flds) parts zero (λa b=>ch N a d (.Y .agg b) K) F else False
 | _=>False
def ix(TE:Nat->Option TI)(N:gw)(F:Nat->AV)(d T n:Nat)(parts:List (Nat × Operand))(K:(Nat->AV)->Prop):Prop:=
 N5 TE T λ_ b=>bif Nat.ble (n*b.size) 16777216 then(match n,parts with
   | 0,[]=>ch N F d (.Y .one [.z]) K
   | n+1,parts=>fc (rep b.zero (n+1)) λe=>fillW (plS b.size) parts e (λf c=>chA b.size (n+1) c λa=>ch N f d (.Y .one [.s .own a]) K) F
   | _,_=>False) else False
def VL(N:gw)(F:Nat->AV)(d:Nat)(x:Operand)(K:(Nat->AV)->Prop):Prop:=zJ F x λa _ b=>ch N a d (.Y .box b) K
inductive Ap(flat:Bool)(rows xr:List (List C))(sz by_:Nat)(K:List (List C)->Prop):Prop
 |mk_ (h:(∀r∈rows,r.length=sz)/\(∀r∈xr,r.length=sz)/\(flat=true->∀r∈xr,b6 r=true)/\rows.length+xr.length<=140737488355328/\(rows.length+xr.length)*by_<=140737488355328/\∃rs,rs=rows++xr/\K rs)
variable{xr:List (List C)}{flat:Bool}
theorem Ap.mk{a:List (List C)}{sz by_:Nat}{K:List (List C)->Prop}(h1:∀r∈rows,r.length=sz)(h2:∀r∈xr,r.length=sz)(b:flat=true->∀r∈xr,b6 r=true)(c:rows.length+xr.length<=140737488355328)(d:(rows.length+xr.length)*by_<=140737488355328)(e:a=rows++xr)(f:K a):Ap flat rows xr sz by_ K:=by refine .mk_ ?_;grind
def Ce:type_of% @Ap.mk:=@Ap.mk
theorem Ap.out{sz by_:Nat}{K:List (List C)->Prop}(h:Ap flat rows xr sz by_ K) :
  (∀r∈rows,r.length=sz)/\(∀r∈xr,r.length=sz)/\(flat=true->∀r∈xr,b6 r=true)/\rows.length+xr.length<=140737488355328/\(rows.length+xr.length)*by_<=140737488355328/\K (rows++xr):=by
 obtain⟨h⟩:=h;grind
def Kf(F:Nat->AV)(y:Operand)(K:Bool->(Nat->AV)->List (List C)->Prop):Prop:=
 match qZ F y with
 | .Y .one [.s .own _]=>iQ F y λc a b=>match a,b with|none,[.s .own rows]=>K false c rows|_,_=>False
 | d=>jU F d λa b=>match a,b with
  | none,[.s _ rows]=>K true F rows
  | none,[.z]=>K true F []
  | _,_=>False
def GL(F:Nat->AV)(x:Operand)(K:(Nat->AV)->List (List C)->Prop):Prop:=
 jU F (qZ F x) λa b=>match a,b with
  | none,[.z]=>K F []
  | none,[.s .own _]=>iQ F x λc a b=>match a,b with|none,[.s .own rows]=>K c rows|_,_=>False
  | _,_=>False
def GW(TE:Nat->Option TI)(N:gw)(F:Nat->AV)(d T:Nat)(x y:Operand)(K:(Nat->AV)->Prop):Prop:=
 N5 TE T λ_ b=>Kf F y λc e f=>GL e x λF'' a=>Ap c a f b.size b.bytes λg=>ch N F'' d (.Y .one [.s .own g]) K
section
variable{P:Program}{w0 w w1:World}{M S0 S:am}{N:gw}{φ:Nat->am}{F:Nat->AV}{a:Act}{TE:Nat->Option TI}
variable{x:Operand}
def bv.give(h:bv w0 M S0 N S φ F a w){K:(Nat->AV)->Option Nat->List C->Prop}(e:zJ F x K) :
  ∃F' ag cs V φ',K F' ag cs/\bv w0 M S0 N S φ' F' a w/\bD w S V ag cs (a.eval x)/\Free w0 M S φ' w V/\(∀t b o,φ' t b o->φ t b o)/\(∀b o,V b o->∃t,φ t b o):=by
 obtain⟨ag,cs,Y,c,f,-⟩:=h.val (h.ev x) e;cases d:b6 cs with
 | true=>rw[d]at c;exact⟨F,ag,cs,NO,φ,c,h,f.bare d,λ_ _ h=>h.elim,λ_ _ _ h=>h,λ_ _ h=>h.elim⟩
 | false=>rw[d]at c;exact h.taken c
theorem bv.fillW{E:Nat->Option (Nat × Nat)} : ∀{parts:List (Nat × Operand)}{cs:List C}{K:(Nat->AV)->List C->Prop}{F:Nat->AV}{φ:Nat->am}{u:Nat->Value}{cells:Array Value}{Y:am},bv w0 M S0 N S φ F a w->Ab.fillW E parts cs K F->cD w S Y cs u->Free w0 M S φ w Y->
  cells.toList=(List.range cs.length).map u->
  ∃F' φ' c g cells' i,K F' c/\bv w0 M S0 N S φ' F' a w/\c.length=cs.length/\cD w S i c g/\Free w0 M S φ' w i/\Instr.fill E cells (parts.map λp=>(p.1,a.eval p.2))=some cells'/\cells'.toList=(List.range c.length).map g
 | [],cs,K,F,φ,u,cells,Y,h,d,j,f,k=>⟨F,φ,cs,u,cells,Y,d,h,rfl,j,f,rfl,k⟩
 | p::rest,cs,K,F,φ,u,cells,Y,h,d,j,f,k=>by
  simp only[Ab.fillW]at d;split at d
  case h_2=>exact d.elim
  rename_i q G;obtain⟨F',T,xs,V,φ',l,H,J,L,O,n⟩:=h.give d;cases e:(Nat.beq xs.length q.2&&Nat.ble (q.1+q.2) cs.length) with
  | false=>grind
  | true=>
   rw[e]at l;simp only[I0]at e;have P:=v4 e.1;have Q:=O2 e.2;simp only[cond_true,dS]at l;obtain⟨U,r,y⟩:=J.cells;obtain⟨cells1,W,A⟩:=Hn (rest:=rest.map λp=>(p.1,a.eval p.2)) G k r P Q;have B:=j.join y (off:=q.1) ω (λb o e D=>by obtain⟨t,R⟩:=n b o D;exact(f b o e).1 t R);obtain⟨X,φ2,c,g,cells',i,Z,e2,e3,e4,e5,e6,e7⟩:=bv.fillW H l B ((f.less O).or L) A
   grind [de]
variable{K:(Nat->AV)->Prop}{d:Nat}
theorem bv.putD_free(h:bv w0 M S0 N S φ F a w){k:Kd}{cs:List C}{v:Value}{X:am}(j:cZ w S F (tvs a) X (.Y k cs) v)(f:Free w0 M S φ w X)(g:ch N F d (.Y k cs) K) :
  ∃i,K i/\St w0 M S0 N i (a.put (some d) v) w:=by
 unfold ch at g;cases e:(N.free d&&!(AV.Y k cs).uses d) with
 | false=>grind
 | true=>
  rw[e]at g;simp only[I0,Bool.not_eq_true']at e;exact⟨_,g,S,_,h.put_gen (Cn _ _) e.1 j e.2 (λb o c=>(f b o c).2.2) (λt _ b o c=>(f b o c).1 t) (λb o c=>(f b o c).2.1)⟩
theorem N7{zero:List C}{cells:Array Value}(a:cells.toList=zero.map cval):cells.toList=(List.range zero.length).map (λj=>(zero.map cval).getD j undef):=by
 rw[a];apply List.ext_getElem?
 grind
variable{parts:Array (Nat × Operand)}{T:Nat}
theorem bv.buildW(h:bv w0 M S0 N S φ F a w)(c:∀t i,TE t=some i->j7 P t i)(e:n8 TE N F d T parts.toList K) :
  ∃v F',K F'/\(Instr.build T (parts.map λ(i,x)=>(i,a.eval x))).run P w=.ok v w/\St w0 M S0 N F' (a.put (some d) v) w:=by
 unfold n8 at e;split at e
 case h_2=>exact e.elim
 rename_i size bytes zero flds k;cases l:Jt TE flds with
 | false=>grind
 | true=>
  rw[l]at e;have g:=(c _ _ k).2.1;obtain⟨F',φ',b,n,cells',o,p,q,D,r,u,E,y⟩:=bv.fillW h e (u9 g S) (λ_ _ h=>h.elim) (N7 (cells:=(zero.map cval).toArray) (by simp));have A:cells'.size=b.length:=by have:=O1 List.length y;simpa using this
  have f:bD w S o (some b.length) b (.agg cells'):=⟨rfl,n,by simp only[mkv];congr 1;grind,r⟩
  obtain⟨B,C,j⟩:=q.putD_free f.slot u p;refine⟨.agg cells',B,C,BU c k l λcells G=>?_,j⟩;have:cells=(zero.map cval).toArray:=ψ
  simp_all
theorem bv.buildSW(h:bv w0 M S0 N S φ F a w)(r:∀t i,TE t=some i->j7 P t i){n:Nat}(Q:ix TE N F d T n parts.toList K) :
  ∃v w1 F',K F'/\(Instr.buildSlice T n (parts.map λ(i,x)=>(i,a.eval x))).run P w=.ok v w1/\St w0 M S0 N F' (a.put (some d) v) w1:=by
 obtain⟨e,u,q,z,f,he,R,y,U,G,V,W,A,g,Y,Z⟩:=kT r Q;cases c:Nat.ble (n*u.size) 16777216 with
 | false=>grind
 | true=>
  rw[c]at f;have B:=O2 c;simp only[cond_true]at f;split at f
  ·rename_i hparts
   have:parts = #[]:=ψ
   subst this;have C:=h.world (w1:=w.alloc (.cells #[] e)) (di w _) (λ_ _ h=>h.elim);obtain⟨H,j,k⟩:=C.putD_free (X:=NO) (v:=.slice (some ⟨w.heap.size,0,none⟩) 0 0) (iN (.z _ _)) (λ_ _ h=>h.elim) f
   grind [zZ]
  ·rename_i n
   rw[Nat.succ_eq_add_one]at B;rw[dS]at f;obtain⟨F',φ',D,u',cells',Y',J,l,e3,e4,L,O,e7⟩:=bv.fillW h f (zl y.2.1 S _) (λ_ _ h=>h.elim) (tG A ω (rep u.zero (n+1)).length);rw[tf]at J;have E:D.length=(n+1)*u.size:=by grind [rn]
   have C:=l.world (w1:=w.alloc (.cells cells' e)) (di w _) (λ_ _ h=>h.elim);have p:=EP (e:=e) e4 E ω e7 (λb o c=>(l.sup b o c).1) (λb o c=>(L b o c).2.2.1);obtain⟨H,j,k⟩:=C.putD_free (iN p) (λb o c=>by
     rcases c with c|c
     · obtain⟨a1,a2,a3,a4⟩:=L b o c
       grind [ot]
     exact⟨λt y=>by have:=(l.ex t b o y).1;omega,λhS=>by have:=(l.sup b o hS).1;omega,c.2,.inl (I9 l.old.size c.1)⟩) J
   refine⟨_,_,H,j,run_buildSlice w T e (n+1) _ cells' q z R V W (by rw[g];omega) ψ ?_,k⟩;rw[g,Array.toList_map];rw[rn,U]at O;exact O
  exact f.elim
theorem bv.boxW(h:bv w0 M S0 N S φ F a w)(r:VL N F d x K) :
  ∃v w1 F',K F'/\(Instr.box T (a.eval x)).run P w=.ok v w1/\St w0 M S0 N F' (a.put (some d) v) w1:=by
 obtain⟨y,O,cs,V,φ',A,e,B,p,Q,C⟩:=h.give r;obtain⟨u,q,D⟩:=B.cells;have E:(a.eval x).cells.size=cs.length:=by have:=O1 List.length q;simpa using this
 have G:=e.world (w1:=w.alloc (.cells (a.eval x).cells T)) (di w _) (λ_ _ h=>h.elim);have g:∀j,j<cs.length->cel (w.alloc (.cells (a.eval x).cells T)) w.heap.size j=some (u j):=λj i=>by
  rw[lR,<-Array.getElem?_toList,q,C5,SD i];rfl
 have f:∀b o,V b o->b<w.heap.size:=λb o c=>(p b o c).2.2.1
 obtain⟨H,l,n⟩:=G.putD_free (X:=λb o=>V b o\/(b=w.heap.size/\o<cs.length)) (k:=.box) (cs:=cs) (v:=.pointer (some ⟨w.heap.size,0,none⟩)) (F:=y) ⟨λb o=>b=w.heap.size/\o<cs.length,V,λ_ _ h=>.inr h,λ_ _ h=>.inl h,ψ,
   ⟨_,_,rfl,λj i=>⟨⟨rfl,ω⟩,ψ,by grind [jE]⟩⟩,(D.keep (jX (di w _) λb o c=>(e.sup b o c).1) (jX (di w _) f)).congr λj i=>by grind [cz]⟩ (λb o c=>by
   rcases c with c|c
   · obtain⟨R,U,W,Y⟩:=p b o c
     grind [ot]
   exact⟨λt J=>by have:=(e.ex t b o J).1;omega,λL=>by have:=(e.sup b o L).1;omega,by simp_all,.inl (by rw[c.1];exact e.old.size)⟩) A
 exact⟨_,_,H,l,by simp[Instr.box,newVar,newRow],n⟩
theorem bv.src(h:bv w0 M S0 N S φ F a w){y:Operand}{sz:Nat}{K:Bool->(Nat->AV)->List (List C)->Prop}(k:Kf F y K) :
  ∃G F' xr φ',K G F' xr/\bv w0 M S0 N S φ' F' a w/\(∀t b o,φ' t b o->φ t b o)/\((∀r∈xr,r.length=sz)->(G=true->∀r∈xr,b6 r=true)->
    ∃b c u2 f2 V,a.eval y=.slice b xr.length c/\sN w b (xr.length*sz) ((List.range (xr.length*sz)).map u2)/\Gb w S V xr sz u2 f2/\Free w0 M S φ' w V/\(∀b o,V b o->∃t,φ t b o)):=by
 unfold Kf at k;split at k
 ·obtain⟨F',p,q,V,φ',i,P,l,Q,R,T⟩:=h.taken k
  match p,q,i with
  | none,[.s .own d],i=>
   refine⟨false,F',d,φ',i,P,R,λA _=>?_⟩;rcases l.rep1.els (by simp) A with⟨rfl,U,e⟩|⟨g,B,u,f,e,H,J,D,hu,hE⟩
   ·exact⟨U,0,λ_=>undef,λ_=>NO,NO,e,⟨by simp,λ_=>by simp,λL j u _ n=>by simp at n⟩,⟨ω,ψ,ψ,ψ⟩,λ_ _ h=>h.elim,λ_ _ h=>h.elim⟩
   refine⟨_,B,u,f,_,e,⟨by simp,ψ,λL j y W n=>?_⟩,hE,λb o E=>Q b o E.1,ψ⟩
   grind [jP]
 obtain⟨p,q,Y,i,l,-⟩:=h.val (h.ev y) k
 match p,q,i with
 | none,[.s o d],i=>
  refine⟨true,F,d,φ,i,h,λ_ _ _ h=>h,λA X=>?_⟩;obtain⟨b,c,u,Z,e2,e3⟩:=l.rep1.flat (λr O=>⟨A r O,X rfl r O⟩);exact⟨b,c,u,_,NO,Z,e2,e3,λ_ _ h=>h.elim,λ_ _ h=>h.elim⟩
 | none,[.z],i=>
  obtain⟨b,E⟩:=zz l.rep1;exact⟨true,F,[],φ,i,h,λ_ _ _ h=>h,λ_ _=>⟨b,0,λ_=>undef,λ_=>NO,NO,E,⟨by simp,λ_=>by simp,λL j u _ n=>by simp at n⟩,⟨ω,ψ,ψ,ψ⟩,λ_ _ h=>h.elim,λ_ _ h=>h.elim⟩⟩
def bv.base(h:bv w0 M S0 N S φ F a w){K:(Nat->AV)->List (List C)->Prop}(i:GL F x K) :
  ∃F' rows φ' V,K F' rows/\bv w0 M S0 N S φ' F' a w/\(∀t b o,φ' t b o->φ t b o)/\dw w S V (.s .own rows) (a.eval x)/\Free w0 M S φ' w V/\(∀b o,V b o->∃t,φ t b o):=by
 obtain⟨d,e,Y,c,f,-⟩:=h.val (h.ev x) i
 match d,e,c with
 | none,[.z],c=>
  obtain⟨b,j⟩:=zz f.rep1;exact⟨F,[],φ,NO,c,h,λ_ _ _ h=>h,by rw[j];exact .nil _ _ _ tV1,λ_ _ h=>h.elim,λ_ _ h=>h.elim⟩
 | none,[.s .own _],c=>
  obtain⟨F',d,e,V,φ',c,k,f,l,n,g⟩:=h.taken c
  match d,e,c with
  | none,[.s .own rows],c=>exact⟨F',rows,φ',V,c,k,n,f.rep1,l,g⟩
theorem bv.appW(h:bv w0 M S0 N S φ F a w)(C:∀t i,TE t=some i->j7 P t i){ty:Nat}{y:Operand}(hp:GW TE N F d T x y K) :
  ∃v w1 F',K F'/\(Builtin.append_ #[T,T] ty #[a.eval x,a.eval y]).run P w=.ok v w1/\St w0 M S0 N F' (a.put (some d) v) w1:=by
 obtain⟨e,ie,q,z,g,he,hu,n,hl,X,hi,hz,D,p,E,G⟩:=kT C hp;obtain⟨fl,F1,xr,φ1,g,s1,hs1,r⟩:=h.src (sz:=ie.size) g;obtain⟨F2,Y,φ2,V,g,u,H,A,B,J⟩:=s1.base g;obtain⟨h1,h2,h3,h4,h5,g⟩:=g.out;obtain⟨b,c,u2,f2,V2,hy,Z,hE,j,hVt2⟩:=r h2 h3;have L:∀x∈z.cells.toList,x.oneCell'=true:=by rw[D];exact KC n.2.1
 rw[<-p]at Z hE;obtain⟨v',w',hrun,k,l⟩:=wa (P:=P) (ty:=ty) (c:=c) hu hi hz G L A (by rw[p];exact h1) hE Z (λb o f O=>by obtain⟨t,n⟩:=J b o f;exact(j b o O).1 t n) (λb o f=>(B b o f).2.1) (λb o f=>(B b o f).2.2.1)
  (λb o f=>(j b o f).2.2.1) (λb o f=>(u.sup b o f).1) h4 (by rw[E];exact h5)
 have s3:=u.world k B;obtain⟨F3,hK3,hst⟩:=s3.putD_free (iN l) (λb o f=>by
   rcases f with f|f|f
   · obtain⟨Q,R,U,W⟩:=B b o f
     exact⟨Q,R,C7 U k.size,W⟩
   · obtain⟨Q,R,U,W⟩:=(j.less H) b o f
     exact⟨Q,R,C7 U k.size,W⟩
   exact⟨λt n=>by have:=(u.ex t b o n).1;omega,λhS=>by have:=(u.sup b o hS).1;omega,f.2,.inl (I9 u.old.size f.1)⟩) g
 grind
end
inductive MA where
 |val (ag:Option Nat) (cs:List C)
 |mut (ag:Option Nat) (cs:List C)
 |ptr (cs:List C)
def tM(w:World)(S V:am):MA->Value->Prop
 | .val ag cs,v=>bD w S NO ag cs v
 | .mut ag cs,v=>bD w S V ag cs v
 | .ptr cs,v=>∃a Y:am,(∀b o,a b o->V b o)/\(∀b o,Y b o->V b o)/\(∀b o,a b o->¬Y b o)/\gM w a .box cs.length v/\cD w S Y cs (cz w .box v)
def U6(w:World)(S:am):(Nat->am)->List MA->List Value->Prop
 | _,[],[]=>True
 | V,m::ms,v::vs=>tM w S (V 0) m v/\U6 w S (λi=>V (i+1)) ms vs
 | _,_,_=>False
def NS(w:World)(S V:am):MA->Value->Prop
 | .val _ _,_=>True
 | m,v=>tM w S V m v
def Gc(w:World)(S:am):(Nat->am)->List MA->List Value->Prop
 | _,[],[]=>True
 | V,m::ms,v::vs=>NS w S (V 0) m v/\Gc w S (λi=>V (i+1)) ms vs
 | _,_,_=>False
structure aX(P:Program)(f:Nat)(sh:Bool)(A B:List MA)(k:Kd)(rcs:List C):Prop where
 has:PG P f
 run:∀(w:World)(S:am)(V:Nat->am)(vs:List Value),(∀b o,S b o->b<w.heap.size)->(∀i b o,V i b o->b<w.heap.size/\¬S b o)->(∀i i',i≠i'->∀b o,V i b o->¬V i' b o)->U6 w S V A vs->
  Calls P f vs.toArray w λe w1=>∃v,e=.returned v/\bM (λb o=>∃i,V i b o) w w1/\∃(X:am)(V':Nat->am)(S1:am),
   (∀b o,X b o->(∃i,V i b o)\/(b<w1.heap.size/\w.heap.size<=b))/\(∀i b o,V' i b o->(∃i,V i b o)\/(b<w1.heap.size/\w.heap.size<=b))/\
   (∀b o,S1 b o->(sh=true/\S b o)\/(∃i,V i b o)\/(b<w1.heap.size/\w.heap.size<=b))/\
   (∀i i',i≠i'->∀b o,V' i b o->¬V' i' b o)/\(∀i b o,X b o->¬V' i b o)/\(∀b o,X b o->¬S1 b o)/\(∀i b o,V' i b o->¬S1 b o)/\
   gM w1 NO k rcs.length v/\cD w1 S1 X rcs (cz w1 k v)/\Gc w1 (λb o=>S b o\/S1 b o) V' B vs
inductive vX where
 |no
 |at_ (t off:Nat) (st:cT)
 |box (t:Nat)
def lendAt(F:Nat->AV)(t off:Nat)(st:cT)(n:Nat)(K:(Nat->AV)->List C->Prop):Prop:=
 match F t with
 | .Y k b=>(match st with
   | []=>bif Nat.ble (off+n) b.length then fc (bU b off n) λc=>fc (splice b off (List.replicate n .x)) λa=>K (updH F t k a) c else False
   | s::st=>Lq b off (s::st) n λc a=>K (updH F t k a) c)
 | _=>False
def lendP:List (Operand × Nat)->((Nat->AV)->List (MA × vX)->Prop)->(Nat->AV)->Prop
 | [],K,F=>K F []
 | (_,0)::xs,K,F=>lendP xs (λa l=>K a ((.val none [],.no)::l)) F
 | (x,1)::xs,K,F=>(match x with
   | .tmp s=>(match F s with
     | .Y .one _=>lendAt F s 0 [] 1 λc b=>lendP xs (λa l=>K a ((.mut none b,.at_ s 0 [])::l)) c
     | .Y .agg cs0=>lendAt F s 0 [] cs0.length λc b=>lendP xs (λa l=>K a ((.mut (some cs0.length) b,.at_ s 0 [])::l)) c
     | .b5 t off st ag=>lendAt F t off st (ag.getD 1) λc b=>lendP xs (λa l=>K a ((.mut ag b,.at_ t off st)::l)) c
     | _=>False)
   | _=>False)
 | (x,_+2)::xs,K,F=>(match x with
   | .tmp s=>(match F s with
     | .ref t 0 []=>(match F t with|.Y .box b=>lendP xs (λa l=>K a ((.ptr b,.box t)::l)) (kill F t)|_=>False)
     | .Y .box b=>lendP xs (λa l=>K a ((.ptr b,.box s)::l)) (kill F s)
     | _=>False)
   | _=>False)
def utC:C->C
 | .s (.tag _) rows=>.s .own rows
 | .s (.tagS _) rows=>.s .suf rows
 | c=>c
def ZK:List C->List C
 | []=>[]
 | c::cs=>utC c::ZK cs
def utM:MA->MA
 | .mut ag a=>.mut ag (ZK a)
 | m=>m
def rtC:C->C->C
 | .s (.tag z) _,.s .own rows=>.s (.tag z) rows
 | .s (.tagS z) _,.s .suf rows=>.s (.tagS z) rows
 | _,o=>o
def WZ:List C->List C->List C
 | c::cs,o::a=>rtC c o::WZ cs a
 | _,a=>a
def csM:MA->List C
 | .val _ cs=>cs
 | .mut _ cs=>cs
 | .ptr cs=>cs
theorem Ki:∀(cs:List C),ZK cs=cs.map utC
 | []=>rfl
 | c::cs=>by simp[ZK,Ki cs]
theorem wW:∀(cs a:List C),(WZ cs a).length=a.length
 | [],a=>by cases a<;>rfl
 | c::cs,[]=>rfl
 | c::cs,o::a=>by simp[WZ,wW cs a]
theorem Ru:∀{cs a:List C}{j:Nat}{b:C},(WZ cs a)[j]? = some b->∃o,a[j]? = some o/\(b=o\/(∃z r rows,cs[j]? = some (.s (.tag z) r)/\o=.s .own rows/\b=.s (.tag z) rows)\/∃z r rows,cs[j]? = some (.s (.tagS z) r)/\o=.s .suf rows/\b=.s (.tagS z) rows)
 | [],a,j,b,h=>by
  have:WZ [] a=a:=by cases a<;>rfl
  grind
 | c::cs,[],j,b,h=>by simp[WZ]at h
 | c::cs,o::a,0,b,h=>by
  simp only[WZ,List.getElem?_cons_zero,C2]at h;refine⟨o,rfl,?_⟩;unfold rtC at h
  grind
 | c::cs,o::a,j+1,b,h=>by
  simp only[WZ,List.getElem?_cons_succ]at h |-;exact Ru h
variable{v:Value}{S:am}{w:World}
theorem dw.ut{Y:am}{c:C}(h:dw w S Y c v):dw w S Y (utC c) v:=by
 cases c with
 | s o b=>
  cases o with
  | tag z=>
   cases h with
   | nil _ o a i=>exact .nil _ _ _ tV1
   | own _ o g k n e b u f i p q d j r t y A B=>exact .own _ _ g k n e b u f tV1 p q d j r t y A B
   | suf _ o g l k n e b u f i p q d r t y A B=>exact i.elim
  | tagS z=>
   cases h with
   | nil _ o a i=>exact .nil _ _ _ tV1
   | own _ o g k n e b u f i=>exact i.elim
   | suf _ o g l k n e b u f i p q d r t y A B=>exact .suf _ _ g l k n e b u f tV1 p q d r t y A B
  | _=>exact h
 | _=>exact h
variable{z:Value}
theorem dw.tagOf{Y:am}(h:dw w S Y (.s (.tag z) rows) v):z=v:=by
 cases h with
 | nil _ o a b=>exact b
 | own _ o g k n d rows u f b i j c e l p q r t=>exact b
 | suf _ o g y k n d rows u f b i j c l p q r t=>exact b.elim
theorem dw.rt{Y:am}(h:dw w S Y (.s .own rows) v)(i:z=v):dw w S Y (.s (.tag z) rows) v:=by
 cases h with
 | nil _ o a e=>exact .nil _ _ _ i
 | own _ o g k n c rows u f e j l b d p q r t y=>exact .own _ _ g k n c rows u f i j l b d p q r t y
 | suf _ o g A k n c rows u f e j l b p q r t y=>exact e.elim
theorem dw.tagOfS{Y:am}(h:dw w S Y (.s (.tagS z) rows) v):z=v:=by
 cases h with
 | nil _ o a b=>exact b
 | own _ o g k n c rows u f b=>exact b.elim
 | suf _ o g d k n c rows u f b=>exact b
theorem dw.rtS{Y:am}(h:dw w S Y (.s .suf rows) v)(i:z=v):dw w S Y (.s (.tagS z) rows) v:=by
 cases h with
 | nil _ o a d=>exact .nil _ _ _ i
 | own _ o g k n b rows u f d=>exact d.elim
 | suf _ o g e k n b rows u f d j l c p q r t y=>exact .suf _ _ g e k n b rows u f i j l c p q r t y
variable{u:Nat->Value}
theorem cD.ut{Y:am}(h:cD w S Y cs u):cD w S Y (ZK cs) u:=by
 obtain⟨f,a,b,d⟩:=h;rw[Ki];refine⟨f,λj c e=>?_,ψ,ψ⟩
 grind [dw.ut]
theorem cD.rt{w1:World}{S' Y k:am}{b:List C}{e:Nat->Value}(h:cD w S Y cs u)(h':cD w1 S' k b e)(q:∀d,d<b.length->e d=u d):cD w1 S' k (WZ cs b) e:=by
 obtain⟨f,r,t,y⟩:=h;obtain⟨l,n,g,i⟩:=h';refine⟨l,λj c a=>?_,λj a=>g j (by rwa [wW]at a),λj o a p=>i j o (by rwa [wW]at a) (by grind [wW])⟩
 grind [Ru,dw.rt,dw.tagOf,dw.rtS,dw.tagOfS]
def valsP(F:Nat->AV):List (MA × vX)->List Operand->(Bool->List MA->Prop)->Prop
 | [],[],K=>K true []
 | (_,.no)::l,x::xs,K=>jU F (qZ F x) λc a=>valsP F l xs λb A=>bif b6 a then K b (.val c a::A) else K false (.val c (du a)::A)
 | (m,.at_ _ _ _)::l,_::xs,K=>valsP F l xs λb A=>K b (utM m::A)
 | (m,.box _)::l,_::xs,K=>valsP F l xs λb A=>K b (m::A)
 | _,_,_=>False
def setH(F:Nat->AV)(t:Nat)(av:AV):Nat->AV:=λs=>bif Nat.beq s t then av else F s
def vX.slot:vX->List Nat
 | .no=>[]
 | .at_ t _ _=>[t]
 | .box t=>[t]
def zN:List (MA × vX)->Bool
 | []=>true
 | q::l=>(q.2.slot.all λt=>l.all λa=>!a.2.slot.any (Nat.beq t))&&zN l
def j8:List (MA × vX)->List MA->((Nat->AV)->Prop)->(Nat->AV)->Prop
 | [],[],K,F=>K F
 | (_,.no)::l,_::B,K,F=>j8 l B K F
 | (m,.at_ t a c)::l,.mut _ out::B,K,F=>(match F t with
   | .Y k d=>(match c with
     | []=>bif Nat.ble (a+out.length) d.length then fc (splice d a (WZ (csM m) out)) λb=>j8 l B K (updH F t k b) else False
     | s::c=>Pu d a (s::c) out λb=>j8 l B K (updH F t k b))
   | _=>False)
 | (_,.box t)::l,.ptr out::B,K,F=>(match F t with
   | .dead=>j8 l B K (setH F t (.Y .box out))
   | _=>False)
 | _,_,_,_=>False
def MN:List MA->Prop
 | []=>True
 | .val _ _::B=>MN B
 | .mut _ cs::B=>gl cs/\MN B
 | .ptr cs::B=>gl cs/\MN B
inductive cn(P:Program)(f:Nat)(b:Bool)(A:List MA)(K:Kd->List C->List MA->Prop):Prop
 |mk_ (h:∃sh B k rcs,aX P f sh A B k rcs/\(b=true\/(sh=false/\MN B))/\K k rcs B)
theorem cn.mk{sh:Bool}{A B:List MA}{K:Kd->List C->List MA->Prop}(h:aX P f sh A B k rcs)(a:b=true\/(sh=false/\MN B))(c:K k rcs B):cn P f b A K:=by refine .mk_ ?_;grind
theorem CP:type_of% @cn.mk:=@cn.mk
theorem cn.out{A:List MA}{K:Kd->List C->List MA->Prop}(h:cn P f b A K):∃sh B k rcs,aX P f sh A B k rcs/\(b=true\/(sh=false/\MN B))/\K k rcs B:=by obtain⟨h⟩:=h;exact h
def oz(P:Program)(N:gw)(F:Nat->AV)(d:Option Nat)(f:Nat)(args:List Operand)(modes:List Nat)(K:(Nat->AV)->Prop):Prop:=
 lendP (args.zip modes) (λa l=>bif zN l&&Nat.beq args.length modes.length then valsP a l args λb A=>cn P f b A λk rcs B=>j8 l B (λF''=>match d with|some d=>ch N F'' d (.Y k rcs) K|none=>K F'') a else False) F
def Fn(F:Nat->AV)(x:Operand)(K:Nat->Nat->Prop):Prop:=
 match x with
 | .tmp s=>(match F s with
   | .ref t off []=>K t off
   | _=>False)
 | _=>False
def DZ(N:gw)(F:Nat->AV)(d:Option Nat)(t:Nat)(cs:List C)(c e f g:Nat)(K:(Nat->AV)->Prop)(k:Kd)(rcs:List C):List MA->Prop
 | [.ptr a,.ptr c1']=>bif Nat.beq a.length e&&Nat.beq c1'.length g then fc (splice (splice cs c a) f c1') λb=>(match d with|some d=>ch N (setH (kill F t) t (.Y .box b)) d (.Y k rcs) K|none=>K (setH (kill F t) t (.Y .box b))) else False
 | _=>False
def mO(P:Program)(N:gw)(F:Nat->AV)(d:Option Nat)(f:Nat)(args:List Operand)(c e:Nat)(K:(Nat->AV)->Prop):Prop:=
 match args with
 | [x0,h]=>Fn F x0 λt g=>Fn F h λi a=>(match F t with
   | .Y .box b=>bif Nat.beq i t&&Nat.ble (g+c) a&&Nat.ble (a+e) b.length then fc (bU b g c) λj=>fc (bU b a e) λl=>cn P f true [.ptr j,.ptr l] λk rcs B=>DZ N F d t b g c a e K k rcs B else False
   | _=>False)
 | _=>False
def ZY:List Nat->Option (Nat × Nat)
 | []=>none
 | m::l=>bif Nat.beq m 3 then(match l with
   | []=>none
   | a::l=>(match l with
     | []=>none
     | b::_=>some (a,b))) else none
def mN(P:Program)(N:gw)(F:Nat->AV)(d:Option Nat)(f:Nat)(args:List Operand)(modes:List Nat)(K:(Nat->AV)->Prop):Prop:=
 match ZY modes with
 | some p=>mO P N F d f args p.1 p.2 K
 | none=>oz P N F d f args modes K
section
variable{P:Program}{w0 w w1:World}{M S0 S:am}{N:gw}{φ:Nat->am}{F:Nat->AV}{a:Act}{TE:Nat->Option TI}
variable{V S':am}
def bv.addS(h:bv w0 M S0 N S φ F a w)(g:Free w0 M S φ w V)(d:∀b o,S b o->S' b o)(e:∀b o,S' b o->S b o\/V b o):bv w0 M S0 N S' φ F a w:=by
 refine⟨λt=>(h.slot t).keep (φ:=φ) (λt _ _ _=>h.slot t) (λt _=>⟨λ_ _ h=>h,rfl,λ_ _ _=>⟨rfl,rfl⟩⟩) (λ_ _ _=>⟨rfl,rfl⟩) (λ_ _ _=>⟨rfl,rfl⟩) (λ_ _ h=>h) d,h.dis,λt b o c f=>?_,h.ex,λb o c=>d b o (h.sub b o c),λb o c=>?_,h.old,h.size,h.defers,h.par⟩
 ·rcases e b o f with f|f
  ·exact h.disS t b o c f
  exact(g b o f).1 t c
 rcases e b o c with c|c
 ·exact h.sup b o c
 exact⟨(g b o c).2.2.1,.inr (g b o c).2.2.2⟩
theorem uA(F:Nat->AV)(t:Nat)(av:AV):setH F t av t=av:=by simp[setH]
variable{t:Nat}
theorem gN(F:Nat->AV){s:Nat}(av:AV)(h:s≠t):setH F t av s=F s:=by grind [Nat.beq_eq,setH]
variable{cs:List C}
theorem bv.revive(h:bv w0 M S0 N S φ F a w)(L:F t=.dead){k:Kd}{X:am}(y:Free w0 M S φ w X)(G:cZ w S F (tvs a) X (.Y k cs) (tvs a t)) :
  bv w0 M S0 N S (λs=>if s=t then X else φ s) (setH F t (.Y k cs)) a w:=by
 have D:∀s,(F s).uses t=true->cZ w S (setH F t (.Y k cs)) (tvs a) (φ s) (F s) (tvs a s):=λs n=>by
  have c:=h.slot s;cases d:F s with
  | dead=>rw[d]at n;cases n
  | Y=>rw[d]at n;cases n
  | iref=>rw[d]at n;cases n
  | ref q E H=>
   rw[d]at n c;have:q=t:=by simpa[AV.uses] using n
   subst this;obtain⟨k,cs,r,j,g,o,J,-⟩:=c
   grind
  | b5 q E H O=>
   rw[d]at n c;have:q=t:=by simpa[AV.uses] using n
   subst this;obtain⟨k,cs,r,j,J,-⟩:=c
   grind
  | fn f caps=>rw[d]at c;exact c
  | fv Ok=>rw[d]at c;exact c
 refine⟨λs=>?_,λs A u b o i l=>?_,λs b o i=>?_,λs b o i=>?_,h.sub,h.sup,h.old,h.size,h.defers,h.par⟩
 ·by_cases p:s=t
  ·subst p
   rw[uA,CK rfl];exact G
  rw[gN _ _ p,CJ p];cases n:(F s).uses t with
  | true=>exact D s n
  | false=>
   refine(h.slot s).keep (φ:=φ) (λt _ _ _=>h.slot t) (λq K=>?_) (λ_ _ _=>⟨rfl,rfl⟩) (λ_ _ _=>⟨rfl,rfl⟩) (λ_ _ h=>h) (λ_ _ h=>h);have u:q≠t:=ψ
   exact⟨λk cs P=>by grind [gN],rfl,λ_ _ _=>⟨rfl,rfl⟩⟩
 ·by_cases e:s=t
  ·rw[CK e]at i
   by_cases B:A=t
   ·omega
   rw[CJ B]at l;exact(y b o i).1 A l
  rw[CJ e]at i;by_cases B:A=t
  ·rw[CK B]at l;exact(y b o l).1 s i
  rw[CJ B]at l;exact h.dis s A u b o i l
 ·split at i
  ·exact(y b o i).2.1
  exact h.disS s b o i
 split at i
 ·exact(y b o i).2.2
 exact h.ex s b o i
def gp(F F':Nat->AV):Prop:=∀s k a,F' s=.Y k a->∃cs0,F s=.Y k cs0
def gp.trans{F F' F'':Nat->AV}(h:gp F F')(h':gp F' F''):gp F F'':=λs k a e=>by obtain⟨b,c⟩:=h' s k a e;exact h s k b c
theorem vq{k:Kd}{f b:List C}(i:F t=.Y k f):gp F (updH F t k b):=λs j l e=>by
 by_cases h:s=t
 ·grind [kc]
 rw[iY _ _ _ h]at e;cases a:F s with
 | Y n cs3=>grind [wU]
 | dead=>rw[a]at e;cases e
 | iref=>rw[a]at e;cases e
 | fn=>rw[a]at e;cases e
 | fv=>rw[a]at e;cases e
 | b5 g c d o=>grind [wU]
 | ref g c d=>
  rw[a]at e;cases d with
  | nil=>cases e
  | cons s d=>grind [wU]
theorem Gt(t:Nat):gp F (kill F t):=λs g i e=>by
 by_cases h:s=t
 ·grind [uR]
 rw[pb _ h]at e;cases b:F s with
 | Y k c=>rw[b]at e;cases e;exact⟨_,rfl⟩
 | ref d a f=>grind [Xf]
 | b5 d a f j=>grind [Xf]
 | _=>rw[b]at e;cases e
variable{off n:Nat}
def bv.lendAt(h:bv w0 M S0 N S φ F a w){st:cT}{K:(Nat->AV)->List C->Prop}(c:Ab.lendAt F t off st n K) :
  ∃k f V φ' F' cs,F t=.Y k f/\K F' cs/\cs.length=n/\cD w S V cs (λd=>cellv w (cz w k (tvs a t)) off st d)/\bv w0 M S0 N S φ' F' a w/\Free w0 M S φ' w V/\(∀s b o,φ' s b o->φ s b o)/\(∀b o,V b o->φ t b o)/\gp F F':=by
 unfold Ab.lendAt at c;split at c
 case h_2=>exact c.elim
 rename_i k f e;split at c
 ·cases g:Nat.ble (off+n) f.length with
  | false=>rw[g]at c;exact c.elim
  | true=>
   rw[g]at c;simp only[cond_true,dS]at c;have i:=O2 g;obtain⟨V,φ',l,p,q,u,y⟩:=h.lend (st:=[]) (off:=off) (j:=off) (n:=n) e rfl tV1 i;exact⟨k,f,V,φ',_,_,e,c,by simp[bU];omega,l,p,q,u,y,vq e⟩
 obtain⟨r,j,A,B,D,E⟩:=c.out;obtain⟨V,φ',l,p,q,u,y⟩:=h.lend e A B D;exact⟨k,f,V,φ',_,_,e,E,by simp[bU];omega,l,p,q,u,y,vq e⟩
def Mg(w:World)(S:am)(a:Act)(e:Nat->AV)(V:am)(m:MA)(p:vX)(v:Value):Prop:=
 match p with
 | .no=>∀b o,¬V b o
 | .at_ t off st=>∃d c,m=.mut d c/\bD w S V d c v/\∃k cs0,e t=.Y k cs0/\v=mkv d (cellv w (cz w k (tvs a t)) off st)
 | .box t=>∃c,m=.ptr c/\tM w S V m v/\v=tvs a t
def vr(w:World)(S:am)(a:Act)(b:Nat->AV):(Nat->am)->List (MA × vX)->List Value->Prop
 | _,[],[]=>True
 | V,q::l,v::vs=>Mg w S a b (V 0) q.1 q.2 v/\vr w S a b (λi=>V (i+1)) l vs
 | _,_,_=>False
variable{v:Value}{m:MA}{F1:Nat->AV}
def Mg.back{F:Nat->AV}{p:vX}(h:Mg w S a F1 V m p v)(b:gp F F1):Mg w S a F V m p v:=by
 cases p with
 | no=>exact h
 | at_ t c o=>obtain⟨d,e,f,g,k,cs0,i,j⟩:=h;obtain⟨l,n⟩:=b t k cs0 i;exact⟨d,e,f,g,k,l,n,j⟩
 | box t=>exact h
def vr.back{F:Nat->AV}(b:gp F F1):∀{l:List (MA × vX)}{V:Nat->am}{vs:List Value},vr w S a F1 V l vs->vr w S a F V l vs
 | [],_,[],_=>trivial
 | _::_,_,_::_,h=>⟨h.1.back b,h.2.back b⟩
 | [],_,_::_,h=>h.elim
 | _::_,_,[],h=>h.elim
def Vh(a:am)(V:Nat->am):Nat->am
 | 0=>a
 | i+1=>V i
theorem bv.lendP:∀{xs:List (Operand × Nat)}{K:(Nat->AV)->List (MA × vX)->Prop}{F:Nat->AV}{φ:Nat->am},bv w0 M S0 N S φ F a w->Ab.lendP xs K F->
  ∃F' l φ' V,K F' l/\bv w0 M S0 N S φ' F' a w/\(∀s b o,φ' s b o->φ s b o)/\(∀i,Free w0 M S φ' w (V i))/\(∀i b o,V i b o->∃t,φ t b o)/\(∀i d,i≠d->∀b o,V i b o->¬V d b o)/\gp F F'/\vr w S a F V l (xs.map λx=>a.eval x.1)
 | [],K,F,φ,h,c=>⟨F,[],φ,λ_=>NO,c,h,λ_ _ _ h=>h,λ_ _ _ h=>h.elim,λ_ _ _ h=>h.elim,λ_ _ _ _ _ h=>h.elim,λs k f e=>⟨f,e⟩,tV1⟩
 | (x,m)::xs,K,F,φ,h,c=>by
  have fin:∀(D:Nat->AV)(φ1:Nat->am)(H:am)(q:MA × vX),Mg w S a F H q.1 q.2 (a.eval x)->bv w0 M S0 N S φ1 D a w->(∀s b o,φ1 s b o->φ s b o)->Free w0 M S φ1 w H->(∀b o,H b o->∃t,φ t b o)->gp F D->Ab.lendP xs (λF' l=>K F' (q::l)) D->
    ∃F' l φ' V,K F' l/\bv w0 M S0 N S φ' F' a w/\(∀s b o,φ' s b o->φ s b o)/\(∀i,Free w0 M S φ' w (V i))/\(∀i b o,V i b o->∃t,φ t b o)/\(∀i d,i≠d->∀b o,V i b o->¬V d b o)/\gp F F'/\vr w S a F V l (((x,m)::xs).map λx=>a.eval x.1):=by
   intro D φ1 H q hq B hle J X y c;obtain⟨F',l,φ',V,e1,e2,e3,e4,Z,e6,e7,e8⟩:=bv.lendP B c;refine⟨F',q::l,φ',Vh H V,e1,e2,ψ,λi=>?_,λi b o W=>?_,λi d L b o W O=>?_,y.trans e7,hq,e8.back y⟩
   ·cases i with
    | zero=>exact J.less e3
    | succ i=>exact e4 i
   ·cases i with
    | zero=>exact X b o W
    | succ i=>obtain⟨t,P⟩:=Z i b o W;grind
   cases i with
   | zero=>
    cases d with
    | zero=>exact L rfl
    | succ d=>obtain⟨t,P⟩:=Z d b o O;exact(J b o W).1 t P
   | succ i=>
    cases d with
    | zero=>obtain⟨t,P⟩:=Z i b o W;exact(J b o O).1 t P
    | succ d=>exact e6 i d ω b o W O
  have box:∀t f,F t=.Y .box f->a.eval x=tvs a t->Ab.lendP xs (λF' l=>K F' ((.ptr f,.box t)::l)) (kill F t)->
    ∃F' l φ' V,K F' l/\bv w0 M S0 N S φ' F' a w/\(∀s b o,φ' s b o->φ s b o)/\(∀i,Free w0 M S φ' w (V i))/\(∀i b o,V i b o->∃t,φ t b o)/\(∀i d,i≠d->∀b o,V i b o->¬V d b o)/\gp F F'/\vr w S a F V l (((x,m)::xs).map λx=>a.eval x.1):=by
   intro t f A Q c;have p:=h.slot t;rw[A]at p;obtain⟨X1,Y,B,h2,h3,h4,h5⟩:=p;refine fin _ _ (φ t) (.ptr f,.box t) ⟨f,rfl,⟨X1,Y,B,h2,h3,by rw[Q];exact h4,by rw[Q];exact h5⟩,Q⟩ (h.forget t) (λs b o y=>?_) (λb o y=>⟨λs p=>?_,h.disS t b o y,h.ex t b o y⟩) ψ (Gt t) c
   ·replace y:(if s=t then NO else φ s) b o:=y
    split at y
    ·exact y.elim
    exact y
   replace p:(if s=t then NO else φ s) b o:=p;split at p
   ·exact p.elim
   rename_i L;exact h.dis s t L b o p y
  have at_:∀t u R E n (K':(Nat->AV)->List C->Prop),n=E.getD 1->(∀k T,F t=.Y k T->a.eval x=mkv E (cellv w (cz w k (tvs a t)) u R))->Ab.lendAt F t u R n (λD f=>Ab.lendP xs (λF' l=>K F' ((.mut E f,.at_ t u R)::l)) D)->
    ∃F' l φ' V,K F' l/\bv w0 M S0 N S φ' F' a w/\(∀s b o,φ' s b o->φ s b o)/\(∀i,Free w0 M S φ' w (V i))/\(∀i b o,V i b o->∃t,φ t b o)/\(∀i d,i≠d->∀b o,V i b o->¬V d b o)/\gp F F'/\vr w S a F V l (((x,m)::xs).map λx=>a.eval x.1):=by
   intro t u R E n K' hn Q c;obtain⟨k,T,H,φ1,D,f,e1,e2,e3,e4,Z,e6,e7,e8,e9⟩:=h.lendAt c;have hvx:=Q k T e1;exact fin D φ1 H (.mut E f,.at_ t u R) ⟨E,f,rfl,⟨by rw[e3,hn],_,hvx,e4⟩,k,T,e1,hvx⟩ Z e7 e6 ψ e9 e2
  match m,c with
  | 0,c=>exact fin F φ NO (.val none [],.no) (λ_ _ h=>h) h (λ_ _ _ h=>h) (λ_ _ h=>h.elim) (λ_ _ h=>h.elim) (λs k f e=>⟨f,e⟩) c
  | 1,c=>
   simp only[Ab.lendP]at c;split at c
   case h_2=>exact c.elim
   rename_i s _;have p:=h.slot s;split at c
   ·rename_i cs0 A
    exact at_ s 0 [] none 1 (λ_ _=>True) rfl (λk T G=>by rw[A]at G;cases G;rfl) c
   ·rename_i cs0 A
    rw[A]at p;obtain⟨X1,Y,-,-,-,⟨arr,Q,hsz⟩,-⟩:=p;refine at_ s 0 [] (some cs0.length) cs0.length (λ_ _=>True) rfl (λk T G=>?_) c;rw[A]at G;cases G;show tvs a s=_
    grind [rM,lM,cellv,cz,Go.Value.cells]
   ·rename_i t u R E A
    rw[A]at p;obtain⟨k,f,r,j,B,h2,h3,h4⟩:=p;refine at_ t u R E _ (λ_ _=>True) rfl (λk' T G=>?_) c;rw[B]at G;cases G;exact h4
   exact c.elim
  | n+2,c=>
   simp only[Ab.lendP]at c;split at c
   case h_2=>exact c.elim
   rename_i s _;have p:=h.slot s;split at c
   ·rename_i t A
    rw[A]at p;obtain⟨k,f,r,j,g,o,B,h2,h3,h4⟩:=p;split at c
    ·rename_i cs2 U
     rw[U]at B;simp only[AV.Y.injEq]at B;obtain⟨rfl,rfl⟩:=B;have P:=h.slot t;rw[U]at P;obtain⟨X1,Y,-,-,-,⟨g',o',Q,-⟩,-⟩:=P;refine box t _ U ?_ c;show tvs a s=tvs a t
     grind [plc,uo]
    exact c.elim
   ·rename_i cs2 A
    exact box s cs2 A rfl c
   exact c.elim
def tM.mono{S:am}(h:tM w S V m v)(a:∀b o,S b o->S' b o):tM w S' V m v:=by
 cases m with
 | val d c=>exact bD.mono h a (λ_ _ h=>h)
 | «mut» d c=>exact bD.mono h a (λ_ _ h=>h)
 | ptr c=>obtain⟨e,Y,f,g,i,j,k⟩:=h;exact⟨e,Y,f,g,i,j,k.mono a (λ_ _ h=>h)⟩
theorem bv.valsP(h:bv w0 M S0 N S φ F a w){r:Nat->AV} : ∀{l:List (MA × vX)}{xs:List Operand}{K:Bool->List MA->Prop}{V:Nat->am},vr w S a r V l (xs.map a.eval)->Ab.valsP F l xs K->
  ∃b A,K b A/\U6 w (so S φ) V A (xs.map a.eval)/\(b=true->U6 w S V A (xs.map a.eval))
 | [],[],K,V,_,f=>⟨true,[],f,tV1,λ_=>tV1⟩
 | (m,.no)::l,x::xs,K,V,g,f=>by
  obtain⟨q,k,Y,d,e,y⟩:=h.val (h.ev x) f;obtain⟨b,A,d,i,j⟩:=bv.valsP h g.2 d;have p:∀b o,Y b o->so S φ b o:=λb o c=>by
   rcases y b o c with c|c
   ·cases x with
    | tmp t=>exact .inr ⟨t,c⟩
    | _=>exact c.elim
   exact .inr c
  cases n:b6 k with
  | true=>rw[n]at d;exact⟨b,_,d,⟨(e.bare n).mono (λ_ _ h=>.inl h) (λ_ _ h=>h),i⟩,λc=>⟨e.bare n,j c⟩⟩
  | false=>rw[n]at d;exact⟨false,_,d,⟨e.freeze.mono (λb o h=>h.elim .inl (p b o)) (λ_ _ h=>h),i⟩,ψ⟩
 | (m,.at_ t off st)::l,x::xs,K,V,g,f=>by
  obtain⟨b,A,d,i,j⟩:=bv.valsP h g.2 f;obtain⟨q,k,rfl,⟨D,u,B,C⟩,-⟩:=g.1;have e:bD w S (V 0) q (ZK k) (a.eval x):=⟨by grind [Ki],u,B,C.ut⟩
  exact⟨b,_,d,⟨e.mono (λ_ _ h=>.inl h) (λ_ _ h=>h),i⟩,λc=>⟨e,j c⟩⟩
 | (m,.box t)::l,x::xs,K,V,g,f=>by
  obtain⟨b,A,d,i,j⟩:=bv.valsP h g.2 f;obtain⟨k,rfl,e,-⟩:=g.1;exact⟨b,_,d,⟨e.mono (λ_ _ h=>.inl h),i⟩,λc=>⟨e,j c⟩⟩
theorem Yz{ag:Option Nat}{u b:Nat->Value}(h:mkv ag u=mkv ag b):∀d,d<ag.getD 1->u d=b d:=by
 cases ag with
 | none=>
  intro d a;simp only[Option.getD_none]at a;have:d=0:=ω
  subst this;exact h
 | some n=>
  intro d a;simp only[Option.getD_some]at a;simp only[mkv,Value.agg.injEq]at h
  simp_all
theorem Va{v:AV}{k:Kd}(h:wU t v=.Y k cs):v=.Y k cs:=by
 cases v with
 | Y=>exact h
 | dead=>cases h
 | iref=>cases h
 | fn=>cases h
 | fv=>cases h
 | b5 c a b d=>grind [wU]
 | ref c a b=>
  cases b with
  | nil=>cases h
  | cons s b=>grind [wU]
theorem bv.rest{φ':Nat->am}{F' F0:Nat->AV}{S':am}{Vall:am}(hw:bv w0 M S0 N S φ' F' a w)(hk:bM Vall w w1)(u:Free w0 M S φ' w Vall)(hb:gp F0 F') :
  ∀{l:List (MA × vX)}{B:List MA}{vs:List Value}{V V':Nat->am}{K:(Nat->AV)->Prop}{F:Nat->AV}{φ:Nat->am},bv w0 M S0 N S' φ F a w1->vr w S a F0 V l vs->Gc w1 S' V' B vs->(∀q,q∈l->∀t,t∈q.2.slot->∀k cs,F t=.Y k cs->F' t=.Y k cs)->
   (∀i,Free w0 M S' φ w1 (V' i))->(∀i i',i≠i'->∀b o,V' i b o->¬V' i' b o)->zN l=true->j8 l B K F->∃A φ2,K A/\bv w0 M S0 N S' φ2 A a w1/\∀s b o,φ2 s b o->φ s b o\/∃i,V' i b o
 | [],B,vs,V,V',K,F,φ,h,L,O,g,P,hd,n,c=>by
  cases B with
  | nil=>exact⟨F,φ,c,h,ψ⟩
  | cons _ _=>exact c.elim
 | (m,p)::l,B,vs,V,V',K,F,φ,h,L,O,g,P,hd,n,c=>by
  cases vs with
  | nil=>exact L.elim
  | cons v vs=>
   cases B with
   | nil=>exact O.elim
   | cons m' B=>
    simp only[zN,I0]at n;have next:∀(Z:Nat->AV)(φ1:Nat->am),bv w0 M S0 N S' φ1 Z a w1->(∀s b o,φ1 s b o->φ s b o\/V' 0 b o)->(∀q,q∈l->∀t,t∈q.2.slot->∀k cs,Z t=.Y k cs->F' t=.Y k cs)->j8 l B K Z->
      ∃A φ2,K A/\bv w0 M S0 N S' φ2 A a w1/\∀s b o,φ2 s b o->φ s b o\/∃i,V' i b o:=by
     intro Z φ1 H hle hkeep1 hp1;obtain⟨A,φ2,e1,e2,e3⟩:=bv.rest hw hk u hb (V':=λi=>V' (i+1)) H L.2 O.2 hkeep1 (λi b o hi=>⟨λt ht=>(hle t b o ht).elim ((P (i+1) b o hi).1 t) ψ,(P (i+1) b o hi).2⟩) ψ n.2 hp1
     grind
    have hne:∀t,t∈p.slot->∀q,q∈l->∀Q,Q∈q.2.slot->Q≠t:=λt ht q hq Q R e=>by grind [Nat.beq_refl]
    cases p with
    | no=>exact next F φ h ψ (λq hq=>g q ψ) (by cases m'<;>exact c)
    | at_ t f C=>
     obtain⟨ag,cs,rfl,hv,T,cs0,hF0,y⟩:=L.1;cases m' with
     | val=>exact c.elim
     | ptr=>exact c.elim
     | «mut» ag' out=>
      simp only[j8]at c;obtain⟨u',hu',E⟩:=bD.cells (show bD w1 S' (V' 0) ag' out v from O.1);have U:ag=none->(cellv w (cz w T (tvs a t)) f C 0).oneCell'=true:=λe=>by
       subst e;obtain⟨hl1,u1,hv1,hr1⟩:=hv;have:cellv w (cz w T (tvs a t)) f C 0=u1 0:=y.symm.trans hv1;rw[this];exact hr1.one (by simp at hl1;omega)
      have W:=uI U;rw[<-y,hu']at W;have hlen:out.length=ag.getD 1:=by have:=O1 List.length W;simpa using this
      have heq:∀d,d<out.length->u' d=cellv w (cz w T (tvs a t)) f C d:=by simp_all
      cases J:F t with
      | Y k G=>
       rw[J]at c;have X:=g (.mut ag cs,.at_ t f C) ψ t (by simp[vX.slot]) k G J;have hkk:T=k:=by
        obtain⟨c1,e1⟩:=hb t k G X
        grind
       subst hkk;have fin:∀out',out'.length=out.length->cD w1 S' (V' 0) out' u'->∀r j,cA G f C=some (r,j)->nl G f C->j+out.length<=r.length->j8 l B K (updH F t T (gX G f C (splice r j out')))->∃A φ2,K A/\bv w0 M S0 N S' φ2 A a w1/\∀s b o,φ2 s b o->φ s b o\/∃i,V' i b o:=by
        intro out' hol E r j H h2 h3 c;have hsame:=hw.cellv_same X H hk u;obtain⟨φ1,e1,e2⟩:=h.back J H h2 (by rw[hol];exact h3) (P 0) (E.congr ψ);refine next _ φ1 e1 e2 (λq hq Q R k cs hc=>?_) c
        grind [iY,Va,vX.slot]
       cases C with
       | nil=>
        simp only at c;cases D:Nat.ble (f+out.length) G.length with
        | false=>grind
        | true=>
         rw[D]at c;simp only[cond_true,dS]at c;obtain⟨-,u0,hv0,hr0⟩:=hv;have hu0:∀d,d<out.length->u' d=u0 d:=λd hd=>by grind [Yz]
         exact fin _ (wW _ _) (hr0.rt E hu0) G f rfl tV1 (O2 D) c
       | cons s C=>
        grind [Pu.out]
      | _=>grind
    | box t=>
     obtain⟨cs,rfl,hv,y⟩:=L.1;cases m' with
     | val=>exact c.elim
     | «mut»=>exact c.elim
     | ptr out=>
      simp only[j8]at c;cases J:F t with
      | dead=>
       rw[J]at c;obtain⟨X1,Y,H,h2,h3,h4,h5⟩:=O.1;refine next _ _ (h.revive J (P 0) ⟨X1,Y,H,h2,h3,by rw[<-y];exact h4,by rw[<-y];exact h5⟩) ψ (λq hq Q R k cs hc=>?_) c
       all_goals grind [gN,vX.slot]
      | _=>grind
def NS.fresh{S:am}(h:NS w S V m v)(d:match m with|.val _ _=>True|.mut _ cs=>gl cs|.ptr cs=>gl cs):NS w NO V m v:=by
 cases m with
 | val=>trivial
 | «mut» ag cs=>obtain⟨a,u,b,c⟩:=h;exact⟨a,u,b,c.fresh d⟩
 | ptr cs=>obtain⟨e,Y,a,b,c,f,g⟩:=h;exact⟨e,Y,a,b,c,f,g.fresh d⟩
def NS.mono{S:am}(h:NS w S V m v)(c:∀b o,S b o->S' b o):NS w S' V m v:=by
 cases m with
 | val=>trivial
 | «mut» ag a=>exact tM.mono (m:=.mut ag a) h c
 | ptr a=>exact tM.mono (m:=.ptr a) h c
theorem Gc.mono{S S':am}(a:∀b o,S b o->S' b o):∀{V:Nat->am}{B:List MA}{vs:List Value},Gc w S V B vs->Gc w S' V B vs
 | _,[],[],_=>trivial
 | _,_::_,_::_,h=>⟨h.1.mono a,Gc.mono a h.2⟩
 | _,[],_::_,h=>h.elim
 | _,_::_,[],h=>h.elim
def Gc.fresh{S:am} : ∀{V:Nat->am}{B:List MA}{vs:List Value},Gc w S V B vs->MN B->Gc w NO V B vs
 | _,[],[],_,_=>trivial
 | _,.val _ _::_,_::_,h,a=>⟨tV1,Gc.fresh h.2 a⟩
 | _,.mut _ _::_,_::_,h,a=>⟨h.1.fresh a.1,Gc.fresh h.2 a.2⟩
 | _,.ptr _::_,_::_,h,a=>⟨h.1.fresh a.1,Gc.fresh h.2 a.2⟩
 | _,[],_::_,h,_=>h.elim
 | _,_::_,[],h,_=>h.elim
variable{xs:List Operand}
def Y5{b:List Nat}(h:xs.length=b.length):(xs.zip b).map (λx=>a.eval x.1)=xs.map a.eval:=by
 rw[show(λx:Operand × Nat=>a.eval x.1)=a.eval ∘ Prod.fst from rfl,<-List.map_map,List.map_fst_zip ω]
variable{Q:Exit->Act->World->Prop}{Kc:Act->World->Prop}{K:(Nat->AV)->Prop}{modes:List Nat}{f:Nat}{o:Oper}
theorem bv.callO(h:bv w0 M S0 N S φ F a w)(L:PG P f->(execOp a.eval o).run P w=.ok (.enter f (xs.map a.eval).toArray) w)(hp:oz P N F o.dst f xs modes K)(hkc:∀F' v w',K F'->St w0 M S0 N F' (a.put o.dst v) w'->Kc (a.put o.dst v) w'):o.wp P a w Kc Q:=by
 obtain⟨F',l,φ',V,u,j,hle,y,hVt,O,C,R⟩:=h.lendP hp;cases n:(zN l&&Nat.beq xs.length modes.length) with
 | false=>grind
 | true=>
  rw[n]at u;simp only[I0]at n;rw[Y5 (v4 n.2)]at R;obtain⟨b,A,u,T,U⟩:=j.valsP R u;obtain⟨sh,B,k,rcs,hc,W,u⟩:=u.out;have c:Free w0 M S φ' w (λb o=>∃i,V i b o):=λb o ⟨i,p⟩=>y i b o p
  have D:=L hc.1;have fin:∀S2:am,(∀b o,S2 b o->b<w.heap.size)->(∀i b o,V i b o->¬S2 b o)->U6 w S2 V A (xs.map a.eval)->((∀b o,S2 b o->S b o)\/(sh=false/\MN B))->o.wp P a w Kc Q:=by
   intro S2 Y hVS hA r;have hy:FP P o a w λv w1=>∃H,K H/\St w0 M S0 N H (a.put o.dst v) w1:=by
    refine FP.enter D ?_;refine(hc.2 w S2 V _ Y (λi b o p=>⟨(y i b o p).2.2.1,hVS i b o p⟩) O hA).mono λe w1 ⟨v,he,hk,X,V',S1,hX,hV',hS1,E,hXV,hXS,hVS1,hh,hr,hm⟩=>⟨v,he,?_⟩
    have h1:=j.world hk c;have reg:∀Z:am,(∀b o,Z b o->(∃i,V i b o)\/(b<w1.heap.size/\w.heap.size<=b))->Free w0 M S φ' w1 Z:=λZ hZ b o g=>by
     rcases hZ b o g with g|g
     ·obtain⟨a1,a2,a3,a4⟩:=c b o g
      grind [C7,bM.size]
     exact⟨λt G=>by have:=(j.ex t b o G).1;omega,λhS=>by have:=(j.sup b o hS).1;omega,g.1,.inl (I9 j.old.size g.2)⟩
    have h2:bv w0 M S0 N (λb o=>S b o\/S1 b o) φ' F' a w1:=by
     refine h1.addS (V:=λb o=>S1 b o/\((∃i,V i b o)\/(b<w1.heap.size/\w.heap.size<=b))) ψ ψ (λb o g=>?_)
     grind
    have frees:∀Z:am,(∀b o,Z b o->(∃i,V i b o)\/(b<w1.heap.size/\w.heap.size<=b))->(∀b o,Z b o->¬S1 b o)->Free w0 M (λb o=>S b o\/S1 b o) φ' w1 Z:=λZ hZ hn b o g=>by
     obtain⟨a1,a2,a3⟩:=reg Z hZ b o g
     grind
    have hm2:Gc w1 (λb o=>S b o\/S1 b o) V' B (xs.map a.eval):=by
     rcases r with q|⟨-,q⟩
     ·grind [Gc.mono]
     exact(hm.fresh q).mono λ_ _ h=>h.elim
    obtain⟨H,φ2,J,e2,e3⟩:=bv.rest j hk c C h2 R hm2 ψ ψ E n.1 u;cases hd:o.dst with
    | none=>
     rw[hd]at J;exact⟨H,J,_,φ2,e2⟩
    | some d=>
     rw[hd]at J;have hXf:Free w0 M (λb o=>S b o\/S1 b o) φ2 w1 X:=λb o g=>by
      obtain⟨a1,a2,a3⟩:=frees X hX hXS b o g
      grind
     exact e2.putD_free (X:=X) ⟨NO,X,λ_ _ h=>h.elim,λ_ _ h=>h,λ_ _ h=>h.elim,hh,hr.mono ψ (λ_ _ h=>h)⟩ hXf J
   exact hy Kc Q ψ
  rcases W with hbt|hfr
  ·exact fin S (λb o C=>(j.sup b o C).1) (λi b o p=>(y i b o p).2.1) (U hbt) ψ
  exact fin (so S φ') (λb o C=>C.elim (λhs=>(j.sup b o hs).1) (λ⟨t,G⟩=>(j.ex t b o G).1)) (λi b o p hs=>hs.elim (y i b o p).2.1 (λ⟨t,G⟩=>(y i b o p).1 t G)) T (.inr hfr)
theorem xb{F:Nat->AV}{x:Operand}{K:Nat->Nat->Prop}(h:Fn F x K):∃s t off,x=.tmp s/\F s=.ref t off []/\K t off:=by
 unfold Fn at h
 grind
theorem bv.refBox(h:bv w0 M S0 N S φ F a w){s:Nat}(c:F s=.ref t off [])(e:F t=.Y .box cs){g o:Nat}(f:tvs a t=.pointer (some ⟨g,o,none⟩)):tvs a s=.pointer (some ⟨g,o+off,none⟩):=by
 have b:=h.slot s;rw[c]at b;obtain⟨k,d,r,j,i,l,n,-,p,q⟩:=b
 grind [plc,uo]
theorem Dn(w:World)(g o j d:Nat):cz w .box (.pointer (some ⟨g,o+j,none⟩)) d=cz w .box (.pointer (some ⟨g,o,none⟩)) (j+d):=by grind [cz]
theorem Ts{j:Nat}{c:C}(h:(bU cs off n)[j]? = some c):j<n/\cs[off+j]? = some c:=by grind [bU]
def piece(g o:Nat)(f:Nat->am)(lo a:Nat):am:=λb x=>(b=g/\o+lo<=x/\x<o+a)\/∃j,lo<=j/\j<a/\f j b x
theorem zn{w:World}{S e Y:am}{f:Nat->am}{g o lo:Nat}(y:lo+n<=cs.length)(i:∀j,j<cs.length->e g (o+j)/\(∃z,cel w g (o+j)=some z)/\fro w g (o+j)=NF)(h1:∀j c,cs[j]? = some c->dw w S (f j) c (cz w .box (.pointer (some ⟨g,o,none⟩)) j))(h2:∀j,j<cs.length->∀b x,f j b x->Y b x)(A:∀j a,j<cs.length->a<cs.length->j≠a->∀b x,f j b x->¬f a b x)(k:∀b x,e b x->¬Y b x) :
  tM w S (piece g o f lo (lo+n)) (.ptr (bU cs lo n)) (.pointer (some ⟨g,o+lo,none⟩)):=by
 have l:(bU cs lo n).length=n:=by simp[bU];omega
 refine⟨λb x=>b=g/\o+lo<=x/\x<o+(lo+n),λb x=>∃j,lo<=j/\j<lo+n/\f j b x,λb x h=>.inl h,λb x h=>.inr h,λb x p ⟨j,q,r,d⟩=>?_,⟨g,o+lo,rfl,λj d=>?_⟩,λj=>f (lo+j),λj c d=>?_,ψ,ψ⟩
 ·obtain⟨rfl,t,u⟩:=p
  have:=(i (x - o) ω).1
  grind
 ·rw[l]at d
  have:=i (lo+j) ω
  grind
 grind [Ts,Dn]
theorem bv.callP(h:bv w0 M S0 N S φ F a w)(hxs:PG P f->(execOp a.eval o).run P w=.ok (.enter f (xs.map a.eval).toArray) w){n0 n1:Nat}(hp:mO P N F o.dst f xs n0 n1 K)(hkc:∀F' v w',K F'->St w0 M S0 N F' (a.put o.dst v) w'->Kc (a.put o.dst v) w'):o.wp P a w Kc Q:=by
 unfold mO at hp;split at hp
 case h_2=>exact hp.elim
 rename_i x0 x1;obtain⟨s0,t,u,rfl,hs0,hp⟩:=xb hp;obtain⟨s1,A,r,rfl,hs1,hp⟩:=xb hp;split at hp
 case h_2=>exact hp.elim
 rename_i cs hF;cases hb:(Nat.beq A t&&Nat.ble (u+n0) r&&Nat.ble (r+n1) cs.length) with
 | false=>grind
 | true=>
 rw[hb]at hp;simp only[cond_true,dS]at hp;simp only[I0]at hb;obtain⟨⟨hb1,hb2⟩,hb3⟩:=hb;have hb1:=v4 hb1;have hb2:=O2 hb2;have hb3:=O2 hb3;subst hb1;obtain⟨sh,B,k,rcs,hc,-,hK⟩:=hp.out;have hst:=h.slot A;rw[hF]at hst;obtain⟨X1,Y,hX1,hY,hXY,⟨g,q,hv,C⟩,ff,hf1,hf2,hf3⟩:=hst;rw[hv]at hf1;have e0:=h.refBox hs0 hF hv;have e1:=h.refBox hs1 hF hv
 let V:Nat->am:=λi=>if i=0 then piece g q ff u (u+n0) else if i=1 then piece g q ff r (r+n1) else NO
 have hpφ:∀lo U,U<=cs.length->∀b x,piece g q ff lo U b x->φ A b x:=λlo U hhi b x l=>by
  rcases l with⟨rfl,h1,h2⟩|⟨j,-,h2,G⟩
  ·have:=(C (x - q) ω).1
   grind
  grind
 have hVφ:∀i b x,V i b x->φ A b x:=λi b x l=>by
  simp only[V]at l;split at l
  ·grind
  split at l
  ·grind
  exact l.elim
 have hcX:∀x,q<=x->x<q+cs.length->X1 g x:=λx h1 h2=>by
  have:=(C (x - q) ω).1
  grind
 have hpd:∀lo U lo' hi',U<=lo'->hi'<=cs.length->∀b x,piece g q ff lo U b x->¬piece g q ff lo' hi' b x:=λlo U lo' hi' h1 h2 b x l p=>by
  rcases l with⟨rfl,G,h4⟩|⟨j,G,h4,h5⟩
  ·rcases p with⟨-,h6,h7⟩|⟨H,h6,h7,h8⟩
   all_goals grind
  rcases p with⟨rfl,h6,h7⟩|⟨H,h6,h7,h8⟩
  all_goals grind
 have hVd:∀i i',i≠i'->∀b x,V i b x->¬V i' b x:=λi i' hne b x l p=>by
  simp only[V]at l p;by_cases i0:i=0
  ·rw[CK i0]at l
   by_cases i1:i'=0
   ·omega
   rw[CJ i1]at p;split at p
   ·grind
   exact p
  rw[CJ i0]at l;by_cases i2:i=1
  ·rw[CK i2]at l
   by_cases i1:i'=0
   ·grind
   rw[CJ i1,CJ ω]at p;exact p
  rw[CJ i2]at l;exact l
 have h':=h.forget A;have hφ'le:∀s b x,(if s=A then NO else φ s) b x->s≠A/\φ s b x:=λs b x l=>by
  split at l
  ·exact l.elim
  grind
 have hfree:∀b x,φ A b x->(∀s,¬(if s=A then NO else φ s) b x)/\¬S b x/\b<w.heap.size/\(w0.heap.size<=b\/M b x):=λb x l=>⟨λs J=>by
   obtain⟨h1,h2⟩:=hφ'le s b x J;exact h.dis s A h1 b x h2 l,h.disS A b x l,h.ex A b x l⟩
 have hVall:Free w0 M S (λs=>if s=A then NO else φ s) w (λb x=>∃i,V i b x):=λb x ⟨i,U⟩=>hfree b x (hVφ i b x U)
 have hA:U6 w S V [.ptr (bU cs u n0),.ptr (bU cs r n1)] ([Operand.tmp s0,.tmp s1].map a.eval):=by
  refine⟨?_,?_,tV1⟩
  ·show tM w S (V 0) _ (tvs a s0)
   rw[e0];exact zn ω C hf1 hf2 hf3 hXY
  show tM w S (V 1) _ (tvs a s1);rw[e1];exact zn ω C hf1 hf2 hf3 hXY
 have hrun:=hxs hc.1;have hy:FP P o a w λv w1=>∃F2,K F2/\St w0 M S0 N F2 (a.put o.dst v) w1:=by
  refine FP.enter hrun ?_;refine(hc.2 w S V _ (λb x hb=>(h'.sup b x hb).1) ψ hVd hA).mono λe w1 ⟨v,he,hk,X,V',S1,hX,hV',hS1,hVd',hXV,hXS,hVS1,hh,hr,hm⟩=>⟨v,he,?_⟩
  have h1:=h'.world hk hVall;have reg:∀Z:am,(∀b o,Z b o->(∃i,V i b o)\/(b<w1.heap.size/\w.heap.size<=b))->Free w0 M S (λs=>if s=A then NO else φ s) w1 Z:=λZ hZ b o y=>by
   rcases hZ b o y with y|y
   ·grind [C7,bM.size]
   exact⟨λt ht=>by have:=(h'.ex t b o ht).1;omega,λhS=>by have:=(h'.sup b o hS).1;omega,y.1,.inl (I9 h'.old.size y.2)⟩
  have h2:bv w0 M S0 N (λb o=>S b o\/S1 b o) (λs=>if s=A then NO else φ s) (kill F A) a w1:=by
   refine h1.addS (V:=λb o=>S1 b o/\((∃i,V i b o)\/(b<w1.heap.size/\w.heap.size<=b))) (reg _ λb o y=>y.2) ψ (λb o y=>?_);rcases y with y|y
   ·exact .inl y
   rcases hS1 b o y with⟨q1,q2⟩|q
   ·exact .inl q2
   exact .inr ⟨y,q⟩
  have frees:∀Z:am,(∀b o,Z b o->(∃i,V i b o)\/(b<w1.heap.size/\w.heap.size<=b))->(∀b o,Z b o->¬S1 b o)->Free w0 M (λb o=>S b o\/S1 b o) (λs=>if s=A then NO else φ s) w1 Z:=λZ hZ hn b o y=>by
   obtain⟨a1,a2,a3⟩:=reg Z hZ b o y
   grind
  have hm2:=hm.mono (S':=λb o=>S b o\/S1 b o) λb o y=>y
  unfold DZ at hK;split at hK
  case h_2=>exact hK.elim
  rename_i c0 c1 _;cases hl:(Nat.beq c0.length n0&&Nat.beq c1.length n1) with
  | false=>grind
  | true=>
  rw[hl]at hK;simp only[cond_true,dS]at hK;simp only[I0]at hl;have l0:=v4 hl.1;have l1:=v4 hl.2;have hm0:tM w1 (λb o=>S b o\/S1 b o) (V' 0) (.ptr c0) (tvs a s0):=hm2.1;have hm1:tM w1 (λb o=>S b o\/S1 b o) (V' 1) (.ptr c1) (tvs a s1):=hm2.2.1;rw[e0]at hm0;rw[e1]at hm1;obtain⟨Xa,Ya,ha1,ha2,ha3,⟨ga,oa,hea,ha4⟩,fa,ha5,ha6,ha7⟩:=hm0;obtain⟨Xb,Yb,hb1,hb2',hb3',⟨gb,ob,heb,hb4⟩,fb,hb5,hb6,hb7⟩:=hm1;obtain⟨rfl,rfl⟩ : g=ga/\q+u=oa:=by simpa using hea
  obtain⟨rfl,rfl⟩ : g=gb/\q+r=ob:=by simpa using heb
  let R:am:=λb x=>φ A b x/\¬∃i,V i b x
  let IR:Nat->Prop:=λj=>¬(u<=j/\j<u+n0)/\¬(r<=j/\j<r+n1)
  have hIRc:∀j,j<cs.length->IR j->R g (q+j):=λj D U=>⟨hX1 _ _ (C j D).1,λ⟨i,l⟩=>by
    simp only[V]at l;split at l
    · rcases l with⟨-,G,h4⟩|⟨H,G,h4,h5⟩
      · omega
      grind
    split at l
    · rcases l with⟨-,G,h4⟩|⟨H,G,h4,h5⟩
      · omega
      grind
    exact l⟩
  have E:∀j,j<cs.length->IR j->∀b x,ff j b x->R b x:=λj D U b x l=>⟨hY _ _ (hf2 j D b x l),λ⟨i,W⟩=>by
    have gen:∀lo n,lo+n<=cs.length->¬(lo<=j/\j<lo+n)->¬piece g q ff lo (lo+n) b x:=λlo n hn hno hp=>by
      rcases hp with⟨rfl,G,h4⟩|⟨H,G,h4,h5⟩
      · exact hXY _ _ (hcX x ω ω) (hf2 j D _ _ l)
      grind
    simp only[V]at W;split at W
    · exact gen _ _ ω U.1 W
    split at W
    · exact gen _ _ ω U.2 W
    exact W⟩
  have hRold:∀b x,R b x->b<w.heap.size:=ψ
  have hRsame:bB R w w1:=λb x l=>⟨hk.cel b x (hRold b x l) l.2,hk.fro b x (hRold b x l) l.2⟩
  have L:∀i b x,R b x->¬V' i b x:=λi b x l W=>by
   rcases hV' i b x W with G|G
   ·exact l.2 G
   grind
  have hRS1:∀b x,R b x->¬S1 b x:=λb x l J=>by
   rcases hS1 b x J with⟨-,G⟩|G|G
   ·grind
   ·exact l.2 G
   grind
  have hSsame:bB S w w1:=λb x hb=>⟨hk.cel b x (h.sup b x hb).1 (λ⟨i,U⟩=>h.disS A b x (hVφ i b x U) hb),hk.fro b x (h.sup b x hb).1 (λ⟨i,U⟩=>h.disS A b x (hVφ i b x U) hb)⟩
  let Z:am:=λb x=>V' 0 b x\/V' 1 b x\/R b x
  have hZ:Free w0 M (λb o=>S b o\/S1 b o) (λs=>if s=A then NO else φ s) w1 Z:=λb x y=>by
   rcases y with y|y|y
   ·exact frees (V' 0) (hV' 0) (hVS1 0) b x y
   ·exact frees (V' 1) (hV' 1) (hVS1 1) b x y
   obtain⟨a1,a2,a3,a4⟩:=hfree b x y.1;exact⟨a1,λhh=>hh.elim a2 (hRS1 b x y),C7 a3 hk.size,a4⟩
  have hget:∀j,(splice (splice cs u c0) r c1)[j]? = if r<=j/\j<r+n1 then c1[j - r]? else if u<=j/\j<u+n0 then c0[j - u]? else cs[j]?:=λj=>by
   rw[lv (by rw[de ω];omega),lv ω,l0,l1]
  have hlen:(splice (splice cs u c0) r c1).length=cs.length:=by rw[de (by rw[de ω];omega),de ω]
  have hsl:cZ w1 (λb o=>S b o\/S1 b o) (kill F A) (tvs a) Z (.Y .box (splice (splice cs u c0) r c1)) (tvs a A):=by
   refine⟨λb x=>(R b x/\∃j,j<cs.length/\IR j/\b=g/\x=q+j)\/Xa b x\/Xb b x,λb x=>(∃j,j<cs.length/\IR j/\ff j b x)\/Ya b x\/Yb b x,λb x l=>?_,λb x l=>?_,λb x l hy=>?_,⟨g,q,hv,λj D=>?_⟩,λj=>if r<=j/\j<r+n1 then fb (j - r) else if u<=j/\j<u+n0 then fa (j - u) else ff j,λj c D=>?_,λj D b x l=>?_,λj H D hj' hne b x l p=>?_⟩
   ·grind
   ·rcases l with⟨j,G,h4,h5⟩|l|l
    ·exact .inr (.inr (E j G h4 b x h5))
    ·grind
    grind
   ·rcases l with⟨l,j,G,h4,rfl,rfl⟩|l|l
    ·grind
    ·rcases hy with⟨H,h5,h6,h7⟩|hy|hy
     ·exact L 0 _ _ (E H h5 h6 b x h7) (ha1 _ _ l)
     ·exact ha3 _ _ l hy
     grind
    rcases hy with⟨H,h5,h6,h7⟩|hy|hy
    ·exact L 1 _ _ (E H h5 h6 b x h7) (hb1 _ _ l)
    ·grind
    grind
   ·rw[hlen]at D
    by_cases O:r<=j/\j<r+n1
    ·have:=hb4 (j - r) ω
     rw[show q+r+(j - r)=q+j by omega]at this;exact⟨.inr (.inr this.1),this.2⟩
    by_cases T:u<=j/\j<u+n0
    ·have:=ha4 (j - u) ω
     rw[show q+u+(j - u)=q+j by omega]at this;exact⟨.inr (.inl this.1),this.2⟩
    have hR:=hIRc j D ⟨T,O⟩;have J:=hRsame _ _ hR;refine⟨.inl ⟨hR,j,D,⟨T,O⟩,rfl,rfl⟩,?_,?_⟩
    ·rw[J.1];exact(C j D).2.1
    grind
   ·rw[hget]at D
    rw[hv];dsimp only;by_cases O:r<=j/\j<r+n1
    ·rw[CK O]at D |-
     have:=hb5 _ _ D
     rwa [Dn,show r+(j - r)=j by omega]at this
    rw[CJ O]at D |-;by_cases T:u<=j/\j<u+n0
    ·rw[CK T]at D |-
     have:=ha5 _ _ D
     rwa [Dn,show u+(j - u)=j by omega]at this
    rw[CJ T]at D |-;have hjl:=(C4.1 D).1;have G:=(hf1 j c D).keep hSsame (λb x l=>hRsame b x (E j hjl ⟨T,O⟩ b x l));have hce:=(hRsame _ _ (hIRc j hjl ⟨T,O⟩)).1;have:cz w1 .box (.pointer (some ⟨g,q,none⟩)) j=cz w .box (.pointer (some ⟨g,q,none⟩)) j:=by grind [cz]
    rw[this];exact G.mono (λ_ _ h=>.inl h) (λ_ _ h=>h)
   ·rw[hlen]at D
    split at l
    ·grind
    rename_i O;split at l
    ·grind
    rename_i T;exact .inl ⟨j,D,⟨T,O⟩,l⟩
   rw[hlen]at D hj';have fbV:∀i,i<n1->∀b x,fb i b x->V' 1 b x:=ψ
   have faV:∀i,i<n0->∀b x,fa i b x->V' 0 b x:=ψ
   by_cases c1:r<=j/\j<r+n1
   ·rw[CK c1]at l
    by_cases d1:r<=H/\H<r+n1
    ·rw[CK d1]at p
     exact hb7 _ _ ω ω ω b x l p
    rw[CJ d1]at p;by_cases d0:u<=H/\H<u+n0
    ·rw[CK d0]at p
     exact hVd' 0 1 ω b x (faV _ ω b x p) (fbV _ ω b x l)
    rw[CJ d0]at p;exact L 1 b x (E H hj' ⟨d0,d1⟩ b x p) (fbV _ ω b x l)
   rw[CJ c1]at l;by_cases c0':u<=j/\j<u+n0
   ·rw[CK c0']at l
    by_cases d1:r<=H/\H<r+n1
    ·rw[CK d1]at p
     exact hVd' 0 1 ω b x (faV _ ω b x l) (fbV _ ω b x p)
    rw[CJ d1]at p;by_cases d0:u<=H/\H<u+n0
    ·rw[CK d0]at p
     exact ha7 _ _ ω ω ω b x l p
    rw[CJ d0]at p;exact L 0 b x (E H hj' ⟨d0,d1⟩ b x p) (faV _ ω b x l)
   rw[CJ c0']at l;by_cases d1:r<=H/\H<r+n1
   ·rw[CK d1]at p
    exact L 1 b x (E j D ⟨c0',c1⟩ b x l) (fbV _ ω b x p)
   rw[CJ d1]at p;by_cases d0:u<=H/\H<u+n0
   ·rw[CK d0]at p
    exact L 0 b x (E j D ⟨c0',c1⟩ b x l) (faV _ ω b x p)
   rw[CJ d0]at p
   grind
  have G:=h2.revive (uR F A) hZ hsl;cases hd:o.dst with
  | none=>
   rw[hd]at hK;exact⟨_,hK,_,_,G⟩
  | some d=>
   rw[hd]at hK;have hXf:Free w0 M (λb o=>S b o\/S1 b o) (λs=>if s=A then Z else if s=A then NO else φ s) w1 X:=λb o y=>by
    obtain⟨a1,a2,a3⟩:=frees X hX hXS b o y;refine⟨λs J=>?_,a2,a3⟩;replace J:(if s=A then Z else if s=A then NO else φ s) b o:=J;split at J
    ·rcases J with J|J|J
     ·exact hXV 0 b o y J
     ·exact hXV 1 b o y J
     rcases hX b o y with h4|h4
     ·exact J.2 h4
     have:=hRold b o J;omega
    rename_i hne;exact a1 s (by dsimp only;rw[CJ hne];first|exact J|(rw[CJ hne]at J;exact J))
   exact G.putD_free (X:=X) ⟨NO,X,λ_ _ h=>h.elim,λ_ _ h=>h,λ_ _ h=>h.elim,hh,hr.mono (λ_ _ h=>.inr h) (λ_ _ h=>h)⟩ hXf hK
 exact hy Kc Q ψ
theorem bv.callM(h:bv w0 M S0 N S φ F a w)(c:PG P f->(execOp a.eval o).run P w=.ok (.enter f (xs.map a.eval).toArray) w)(e:mN P N F o.dst f xs modes K)(d:∀F' v b,K F'->St w0 M S0 N F' (a.put o.dst v) b->Kc (a.put o.dst v) b):o.wp P a w Kc Q:=by grind [bv.callP,bv.callO,mN]
end
open Go.ChangeMaps (setBlock)
def uB(TE:Nat->Option TI)(N:gw)(F:Nat->AV)(d T:Nat)(x:Operand)(K:(Nat->AV)->Prop):Prop:=
 match TE T with
 | some ⟨_,_,_,.mp _ _ _⟩=>iQ F x λa b c=>match b,c with
  | none,[.m es]=>ch N a d (.Y .one [.it none (es.map (·.1))]) K
  | _,_=>False
 | _=>False
inductive Nt(left:List Int)(K:Option (Int × List Int)->Prop):Prop
 |mk_ (h:(left=[]->K none)/\∀l1 k l2,left=l1++k::l2->K (some (k,l1++l2)))
variable{left:List Int}
theorem Nt.mk{K:Option (Int × List Int)->Prop}(c:left=[]->K none)(h1:∀a k b,left=a++k::b->K (some (k,a++b))):Nt left K:=.mk_ ⟨c,h1⟩
theorem Nt.out{K:Option (Int × List Int)->Prop}(h:Nt left K):(left=[]->K none)/\∀a k b,left=a++k::b->K (some (k,a++b)):=by
 obtain⟨h⟩:=h;exact h
def yO(N:gw)(F:Nat->AV)(d:Nat)(x:Operand)(K:(Nat->AV)->Prop):Prop:=
 match x with
 | .tmp s=>(match F s with
   | .Y .one [.it _ left]=>Nt left λr=>match r with
     | none=>ch N F d (.Y (.tup [none]) [.v (.bool false)]) K
     | some p=>ch N (updH F s .one [.it (some p.1) p.2]) d (.Y (.tup [none,none,none]) [.v (.bool true),.v (.int .i64 p.1),.x]) K
   | _=>False)
 | _=>False
def uM(N:gw)(F:Nat->AV)(d:Nat)(x:Operand)(K:(Nat->AV)->Prop):Prop:=
 match x with
 | .tmp s=>(match F s with
   | .Y .one [.it (some k) _]=>ch N F d (.Y (.tup [none,none]) [.v (.int .i64 k),.x]) K
   | _=>False)
 | _=>False
def kW(N:gw)(F:Nat->AV)(d:Nat)(x:Operand)(K:(Nat->AV)->Prop):Prop:=
 match x with
 | .tmp t=>(match F t with
   | .Y (.tup sh) b=>bif b6 b then ch N F d (.Y (.tup sh) b) K else ch N (updH F t (.tup sh) (splice b 0 (List.replicate b.length .x))) d (.Y (.tup sh) b) K
   | .Y .one _=>bS F (.tmp t) λa=>ch N F d a K
   | .Y .agg _=>bS F (.tmp t) λa=>ch N F d a K
   | .Y .box _=>bS F (.tmp t) λa=>ch N F d a K
   | .ref ..=>bS F (.tmp t) λa=>ch N F d a K
   | .b5 ..=>bS F (.tmp t) λa=>ch N F d a K
   | .iref ..=>bS F (.tmp t) λa=>ch N F d a K
   | .fn ..=>bS F (.tmp t) λa=>ch N F d a K
   | .fv _=>bS F (.tmp t) λa=>ch N F d a K
   | .dead=>bS F (.tmp t) λa=>ch N F d a K)
 | x=>bS F x λa=>ch N F d a K
section
variable{P:Program}{w0 w w1:World}{M S0 S:am}{N:gw}{φ:Nat->am}{F:Nat->AV}{a:Act}{TE:Nat->Option TI}
variable{v:Value}
theorem Wt{Y:am}{cur:Option Int}{left:List Int}(h:dw w S Y (.it cur left) v):∃(r b since f d:Nat)(seen:Array Nat)(a:Array MapEntry),v=.pointer (some ⟨r,0,none⟩)/\(∀o,Y r o/\Y b o)/\mp w r=some (.mapIter (some b) since seen f)/\mp w b=some (.map a d)/\
  ((a.toList.map (·.born)).Nodup/\∀x∈a.toList,x.born<since)/\(since<=f/\since<=d)/\(∀x∈a.toList,x.val.oneCell'=true)/\(leftOf a seen).toList.map (·.key)=left.map (Value.int .i64)/\(∀k,cur=some k->f=d/\∃e∈a.toList,∃i:Array Nat,seen=i.push e.born/\e.key=.int .i64 k):=by
 generalize j:C.it cur left=c at h;cases h with
 | it _ r b since f d seen a cur' left' p q t l n u y g=>grind
 | _=>cases j
theorem YB{b:Nat}{o:Obj}(h:mp w b=some o):b<w.heap.size:=by grind [mp]
theorem JC{b:Nat}{o:Obj}(h:b<w.heap.size):mp (w.alloc o) b=mp w b:=by grind [Go.heap_alloc_old,mp]
theorem Us{a:Array MapEntry}{b:List (Int × Value)}(d:a.toList.map (λe=>(e.key,e.val))=b.map (λp=>(Value.int .i64 p.1,p.2)))(c:∀p∈b,p.2.oneCell'=true):∀x∈a.toList,x.val.oneCell'=true:=by
 intro y f;have:(y.key,y.val)∈a.toList.map (λe=>(e.key,e.val)):=ψ
 grind
variable{K:(Nat->AV)->Prop}{x:Operand}{d:Nat}
theorem bv.rangeW(h:bv w0 M S0 N S φ F a w)(n:∀t i,TE t=some i->j7 P t i){T:Nat}(k:uB TE N F d T x K) :
  ∃v w1 F',K F'/\(Instr.range T (a.eval x)).run P w=.ok v w1/\St w0 M S0 N F' (a.put (some d) v) w1:=by
 unfold uB at k;split at k
 case h_2=>exact k.elim
 rename_i C;obtain⟨R,-,-,-⟩:=(n _ _ C).2.2;obtain⟨F',D,E,V,φ',p,l,G,U,W,H⟩:=h.taken k
 match D,E,p with
 | none,[.m es],p=>
  obtain⟨b,c,e,Y,A,f,B,q,r⟩:=WQ G.rep1;have u:=YB f
  let o:Obj:=.mapIter (some b) c #[] c
  have J:=l.world (w1:=w.alloc o) (di w _) (λ_ _ h=>h.elim);have g:leftOf e #[]=e:=by unfold leftOf;simp
  obtain⟨L,y,j⟩:=J.putD_free (X:=λb o=>V b o\/b=w.heap.size) (v:=.pointer (some ⟨w.heap.size,0,none⟩)) (F:=F')
   (iN (.it _ w.heap.size b c c c #[] e none (es.map (·.1)) ψ (by grind [Go.heap_alloc_new,mp]) ((JC u).trans f) r ω (Us B q)
     (by
       rw[g];have:=O1 (List.map Prod.fst) B
       grind [OB]) ψ)) (λb o f=>by
   rcases f with f|f
   · grind [ot]
   exact⟨λt O=>by have:=(l.ex t b o O).1;omega,λQ=>by have:=(l.sup b o Q).1;omega,by simp_all,.inl (by rw[f];exact l.old.size)⟩) p
  exact⟨_,_,L,y,by grind [Go.run_range_map,uT],j⟩
def zg(a:v.oneCell'=true):v.cells = #[v]:=by
 cases v<;>first|rfl|(cases a)
theorem RX{a:Array MapEntry}{seen:Array Nat}{e:MapEntry}(i:(a.toList.map (·.born)).Nodup)(g:e∈(leftOf a seen).toList):∃b c,(leftOf a seen).toList=b++e::c/\(leftOf a (seen.push e.born)).toList=b++c:=by
 obtain⟨b,c,d⟩:=List.append_of_mem g;refine⟨b,c,d,?_⟩;have h:(leftOf a (seen.push e.born)).toList=(leftOf a seen).toList.filter λy=>!(y.born == e.born):=by
  unfold leftOf;rw[Array.toList_filter,Array.toList_filter,List.filter_filter]
  grind
 have f:((leftOf a seen).toList.map (·.born)).Nodup:=by grind [Go.leftOf]
 rw[d]at f;rw[h,d,List.filter_append,List.filter_cons]
 grind [List.filter_eq_self]
variable{tv:Nat->Value}
def tup3{w:World}{S:am}{F:Nat->AV}{k:Int}(b:v.oneCell'=true):cZ w S F tv NO (.Y (.tup [none,none,none]) [.v (.bool true),.v (.int .i64 k),.x]) (.tuple #[.bool true,.int .i64 k,v]):=by
 have d:v.cells = #[v]:=zg b;refine⟨NO,NO,λ_ _ h=>h,λ_ _ h=>h,λ_ _ h=>h.elim,⟨_,rfl,⟨rfl,rfl,d,tV1⟩,rfl⟩,λ_=>NO,λj c a=>?_,λ_ _ _ _ h=>h,λ_ _ _ _ _ _ _ h=>h.elim⟩;have e:oT (.tuple #[.bool true,.int .i64 k,v])=[.bool true,.int .i64 k,v]:=by
  show #[Value.bool true].toList++(#[Value.int .i64 k].toList++(v.cells.toList++[]))=_;rw[d];rfl
 simp only[cz,e]
 match j,a with
 | 0,a=>simp at a;subst a;exact .v _ _ rfl
 | 1,a=>simp at a;subst a;exact .v _ _ rfl
 | 2,a=>simp at a;subst a;exact .x _ _ b
 | j+3,a=>simp at a
def tup2{w:World}{S:am}{F:Nat->AV}{k:Int}(b:v.oneCell'=true):cZ w S F tv NO (.Y (.tup [none,none]) [.v (.int .i64 k),.x]) (.tuple #[.int .i64 k,v]):=by
 have d:v.cells = #[v]:=zg b;refine⟨NO,NO,λ_ _ h=>h,λ_ _ h=>h,λ_ _ h=>h.elim,⟨_,rfl,⟨rfl,d,tV1⟩,rfl⟩,λ_=>NO,λj c a=>?_,λ_ _ _ _ h=>h,λ_ _ _ _ _ _ _ h=>h.elim⟩;have e:oT (.tuple #[.int .i64 k,v])=[.int .i64 k,v]:=by
  show #[Value.int .i64 k].toList++(v.cells.toList++[])=_;rw[d];rfl
 simp only[cz,e]
 match j,a with
 | 0,a=>simp at a;subst a;exact .v _ _ rfl
 | 1,a=>simp at a;subst a;exact .x _ _ b
 | j+2,a=>simp at a
theorem tup1{w:World}{S:am}{F:Nat->AV}(b:v.oneCell'=true):cZ w S F tv NO (.Y (.tup [none]) [.v v]) (.tuple #[v]):=by
 have d:v.cells = #[v]:=zg b;refine⟨NO,NO,λ_ _ h=>h,λ_ _ h=>h,λ_ _ h=>h.elim,⟨_,rfl,⟨d,tV1⟩,rfl⟩,λ_=>NO,λj c a=>?_,λ_ _ _ _ h=>h,ψ⟩;have e:oT (.tuple #[v])=[v]:=by
  show v.cells.toList++[]=_;rw[d];rfl
 simp only[cz,e]
 match j,a with
 | 0,a=>simp at a;subst a;exact .v _ _ b
 | j+1,a=>simp at a
theorem bv.entryW(h:bv w0 M S0 N S φ F a w)(c:uM N F d x K) :
  ∃v F',K F'/\(Instr.entry (a.eval x)).run P w=.ok v w/\St w0 M S0 N F' (a.put (some d) v) w:=by
 cases x with
 | tmp s=>
  simp only[uM]at c;have n:=h.slot s;split at c
  case h_2=>exact c.elim
  rename_i k left t;rw[t]at n;obtain⟨D,Y,E,G,H,J,f,u,L,O⟩:=n;obtain⟨r,b,since,Q,j,seen,o,p,q,R,T,y,A,l,U,g⟩:=Wt (u 0 _ rfl);obtain⟨rfl,e,B,V,rfl,W⟩:=g k rfl;have p:tvs a s=.pointer (some ⟨r,0,none⟩):=p;obtain⟨F',C,i⟩:=h.putD_new (v:=.tuple #[.int .i64 k,e.val]) (.same (tup2 (l e B))) c;refine⟨_,F',C,?_,i⟩;show(Instr.entry (tvs a s)).run P w=_
  grind [Go.run_entry_at,Jh,uT]
 | _=>exact c.elim
theorem bv.nextW(h:bv w0 M S0 N S φ F a w){ty:Nat}(y:yO N F d x K) :
  ∃v w1 F',K F'/\(Instr.next (a.eval x) false ty).run P w=.ok v w1/\St w0 M S0 N F' (a.put (some d) v) w1:=by
 cases x with
 | tmp s=>
  simp only[yO]at y;have hs:=h.slot s;split at y
  case h_2=>exact y.elim
  rename_i cur left hF;rw[hF]at hs;obtain⟨X1,Y,e1,e2,e3,e4,f,f1,f2,f3⟩:=hs;obtain⟨r,b,since,c0,g,seen,n,O,C,hr,hb,A,B,D,hl,hcur⟩:=Wt (f1 0 _ rfl);have O:tvs a s=.pointer (some ⟨r,0,none⟩):=O;obtain⟨p0,p1⟩:=y.out;show ∃v w1 F',K F'/\(Instr.next (tvs a s) false ty).run P w=.ok v w1/\St w0 M S0 N F' (a.put (some d) v) w1
  rw[O];rcases run_next_at (P:=P) w ty r b since c0 seen n g (Jh hr) (uT hb) A.2 B.1 with⟨hsz,E⟩|⟨e,he,l,G,E⟩
  ·have Q:left=[]:=by simp_all
   obtain⟨F',hK,H⟩:=h.putD_new (v:=.tuple #[.bool false]) (.same (tup1 rfl)) (p0 Q)
   grind
  obtain⟨l1,l2,q1,q2⟩:=RX A.1 he;have R:=(mem_left he).1;rw[q1,IB,SB]at hl;obtain⟨T,J,hm,hm1,q⟩:=List.map_eq_append_iff.1 hl.symm;cases J with
  | nil=>simp at q
  | cons k J=>
   simp only[SB,List.cons.injEq]at q;obtain⟨hk,q⟩:=q;have y:=p1 T k J hm;have h2:bv w0 M S0 N S φ F a l:=by
    rcases G with rfl|rfl
    ·exact h
    exact h.more (w1:={w with drawn:=w.drawn+1}) (λ_ _ h=>h) ψ ⟨rfl,rfl,rfl,z5 _,λ_ _ _=>rfl,λ_ _ _ _=>rfl,λ_ _ _ _=>rfl⟩
   have U:l.heap=w.heap:=by rcases G with rfl|rfl<;>rfl
   have V:mp l r=some (.mapIter (some b) since seen c0):=by grind [mp]
   have hb2:mp l b=some (.map n g):=by grind [mp]
   have W:r<l.heap.size:=YB V;have Z:b≠r:=ψ
   let o':Obj:=.mapIter (some b) since (seen.push e.born) g
   let p:World:=setBlock l r o'
   have hh:∀i,p.heap[i]? = if i=r then some o' else l.heap[i]?:=λi=>xK (w:=l) (b:=r) (o:=o') W i
   have hother:∀i,i≠r->∀o,cel p i o=cel l i o/\fro p i o=fro l i o:=λi hne o=>by grind [Go.World.cell?,Go.World.frozen?,mp]
   have hcelr:∀o,cel p r o=cel l r o:=λo=>by grind [Jh,Go.World.cell?]
   have hYr:∀o,φ s r o:=by simp_all
   have hk1:bM (φ s) l p:=by
    refine⟨rfl,rfl,rfl,by simp[p,setBlock],λi L hn=>(hh i).trans (CJ λe=>?_),ψ,ψ⟩
    ·simp_all
    all_goals grind
   have hsame:∀X:am,(∀i o,X i o->i≠r)->bB X l p:=λX hX i o L=>hother i (hX i o L) o
   have h3:bv w0 M S0 N S (λt=>if t=s then φ s else φ t) (updH F s .one [.it (some k) (T++J)]) a p:=by
    refine h2.upd (X:=φ s) hk1 hF ψ ⟨NO,Y,λ_ _ h=>h.elim,e2,λ_ _ h=>h.elim,rfl,f,λj c u=>?_,λj u=>f2 j u,ω⟩
    match j,u with
    | 0,u=>
     simp at u;subst u;show dw p S (f 0) _ (tvs a s);rw[O];refine .it _ r b since g g (seen.push e.born) n (some k) (T++J) C (by grind [mp]) (by
       have:mp p b=mp l b:=O1 Prod.snd (hother b Z 0).2
       grind) A ⟨B.2,B.2⟩ D ψ ψ
    | j+1,u=>simp at u
   obtain⟨F',hK,H⟩:=h3.putD_new (v:=.tuple #[.bool true,.int .i64 k,e.val]) (.same (tup3 (D e R))) y
   grind
 | _=>exact y.elim
theorem bv.moveW(h:bv w0 M S0 N S φ F a w)(c:kW N F d x K) :
  ∃F',K F'/\St w0 M S0 N F' (a.put (some d) (a.eval x)) w:=by
 have std:bS F x (λy=>ch N F d y K)->∃F',K F'/\St w0 M S0 N F' (a.put (some d) (a.eval x)) w:=λc=>by
  obtain⟨y,C,l⟩:=h.move c;exact h.putD_new (.same l) C
 cases x with
 | tmp t=>
  simp only[kW]at c;split at c
  ·rename_i D k A
   cases E:b6 k with
   | true=>
    grind [bS]
   | false=>
    rw[E]at c;simp only[cond_false]at c;have l:=h.slot t;rw[A]at l;obtain⟨O,P,-,-,-,G,-⟩:=l;obtain⟨V,X,p,Q,R,B,H⟩:=h.take (off:=0) (n:=k.length) A ω;have J:bU k 0 k.length=k:=by simp[bU]
    rw[J]at B;have i:Free w0 M S (λs=>if s=t then X else φ s) w V:=λb o q=>⟨λs j=>by
      simp only at j;by_cases e:s=t
      · grind
      rw[CJ e]at j;exact h.dis s t e b o j (p b o q),h.disS t b o (p b o q),h.ex t b o (p b o q)⟩
    obtain⟨L,r,u⟩:=H.putD_free (X:=V) (v:=tvs a t) ⟨NO,V,λ_ _ h=>h.elim,λ_ _ h=>h,λ_ _ h=>h.elim,(show gM w NO (.tup D) k.length (tvs a t) from G),B.congr ψ⟩ i c;exact⟨L,r,u⟩
  all_goals exact std c
 | const v=>exact std c
 | global g=>exact std c
 | func f=>exact std c
end
def oP(rows:List (List C)):C:=match rows with|[]=>.s .O []|_=>.s .own rows
def ZR(h:rows≠[]):oP rows=.s .own rows:=by cases rows with|nil=>exact absurd rfl h|cons=>rfl
def ZO(N:gw)(d:Nat):Bool:=N.mo.any λp=>Nat.beq p.1 (7000000+d)
def Li(TE:Nat->Option TI)(N:gw)(F:Nat->AV)(d T:Nat)(x b:Operand)(K:(Nat->AV)->Prop):Prop:=
 N5 TE T λ_ c=>F6 F b λn=>iQ F x λe f g=>match f,g with
  | none,[.s .own rows]=>Sl rows c.size none (some n) λa=>ch N e d (.Y .one [oP a]) K
  | _,_=>False
def MW(TE:Nat->Option TI)(N:gw)(F:Nat->AV)(d T:Nat)(x lo:Operand)(K:(Nat->AV)->Prop):Prop:=
 N5 TE T λ_ b=>F6 F lo λn=>iQ F x λc e f=>match e,f with
  | none,[.s .own rows]=>Sl rows b.size (some n) none λa=>ch N c d (.Y .one [.s .suf a]) K
  | _,_=>False
section
variable{P:Program}{w0 w w1:World}{M S0 S:am}{N:gw}{φ:Nat->am}{F:Nat->AV}{a:Act}{TE:Nat->Option TI}
variable{u:Nat->Value}{rows:List (List C)}
def dw.prefix{V:am}{g k n cap:Nat}{m:Nat}{f:Nat->am}(A:m<=n)(M:rows.length=n)(B:∀r∈rows,r.length=k)(t:n<=cap)(D:∀q,q<cap*k->V g q/\(∃z,cel w g q=some z/\z.oneCell'=true)/\fro w g q=NF)(E:∀q,q<n*k->cel w g q=some (u q))(F:∀q,q<n*k->∀b o,f q b o->V b o/\¬(b=g/\o<cap*k))(G:∀q h,q<n*k->h<n*k->q≠h->∀b o,f q b o->¬f h b o)(H:∀i j r c,rows[i]? = some r->r[j]? = some c->dw w S (f (i*k+j)) c (u (i*k+j))):dw w S V (oP (rows.take m)) (.slice (some ⟨g,0,none⟩) m cap):=by
 have J:m*k<=n*k:=SE k A;have a:(rows.take m).length=m:=by rw[I3];omega
 by_cases K:m=0
 ·subst K
  rw[List.take_zero];exact .O _ g 0 k 0 cap [] u rfl (λr l=>by cases l) (I1 _) (λq p=>ω) (λi j r c d y=>by simp at d)
 rw[ZR λe=>by rw[e]at a;simp at a;omega];refine .own _ .own g k m cap _ u f tV1 a (λr l=>B r (List.mem_of_mem_take l)) ω ω D (λq p=>E q ω) (λq p=>F q ω) (λq h p L=>G q h ω ω) (λi j r c d y=>?_);rw[List.getElem?_take]at d;split at d
 ·exact H i j r c d y
 cases d
variable{K:(Nat->AV)->Prop}
theorem bv.slW(h:bv w0 M S0 N S φ F a w)(G:∀t i,TE t=some i->j7 P t i){d T:Nat}{x r:Operand}(Z:Li TE N F d T x r K) :
  ∃F' v,K F'/\(Instr.sliceAt T (a.eval x) none (some (a.eval r)) none).run P w=.ok v w/\St w0 M S0 N F' (a.put (some d) v) w:=by
 obtain⟨e,D,q,z,j,he,hu,ht,-⟩:=kT G Z;obtain⟨ki,y,e1,j⟩:=h.int j;obtain⟨F',ag,cs,V,φ',j,h2,hv,hV,hφ,-⟩:=h.taken j
 match ag,cs,j with
 | none,[.s .own rows],j=>
  obtain⟨m,n,g1,g2,g3,g4,g5,A⟩:=j.out;have hm:m=0:=ψ
  subst hm;have hy:y=(n:Nat):=ψ
  subst hy;rw[List.drop_zero]at A;have H:((some r:Option Operand)=none/\(some ((n:Nat):Int))=none)\/∃o k l,some r=some o/\a.eval o=.int k l/\(some ((n:Nat):Int))=some l:=.inr ψ
  have J:((none:Option Operand)=none/\(none:Option Int)=none)\/∃o k l,(none:Option Operand)=some o/\a.eval o=.int k l/\(none:Option Int)=some l:=.inl ⟨rfl,rfl⟩
  have fin:∀(len cap:Nat)(ad:Option Addr),a.eval x=.slice ad len cap->len=rows.length->len<=cap->dw w S V (oP (rows.take n)) (sliced ad 0 n cap D.size)->
    ∃F' v,K F'/\(Instr.sliceAt T (a.eval x) none (some (a.eval r)) none).run P w=.ok v w/\St w0 M S0 N F' (a.put (some d) v) w:=λlen cap ad hx hl c E=>by
   have W:=qG (w:=w) (a:=a) (P:=P) (ad:=ad) (cap:=cap) (len:=len) hu ht.size J H (x:=0) (y:=n) ω (.inr rfl) (I1 _) ω c;have B:bD w S V none [oP (rows.take n)] (sliced ad 0 n cap D.size):=⟨rfl,λ_=>sliced ad 0 n cap D.size,rfl,λ_=>V,ψ,λ_ _ _ _ h=>h,ψ⟩
   obtain⟨F2,hK2,hst⟩:=h2.putD_taken B hV A
   grind
  have E:=hv.rep1;generalize b:C.s .own rows=c0 at E;generalize hvx:a.eval x=vx at E fin;cases E with
  | v=>cases b
  | x=>cases b
  | z=>cases b
  | m=>cases b
  | it=>cases b
  | O=>cases b
  | suf _ X g off k l cap p u f L=>cases b;exact L.elim
  | nil _ X ad L=>
   cases b;have O:n=0:=by simp at g4;omega
   subst O;exact fin 0 0 ad rfl rfl (z5 0) (.nil _ .O _ tV1)
  | own _ X g k l cap p u f L hn Q c Y hF R hf hd hc=>
   cases b;have U:sliced (some ⟨g,0,none⟩) 0 n cap D.size=.slice (some ⟨g,0,none⟩) n cap:=by grind [jP,Go.sliced]
   refine fin l cap _ rfl ω c ?_;rw[U];exact dw.prefix ω hn Q c hF R hf hd hc
 | none,[],j=>exact j.elim
 | none,[.v _],j=>exact j.elim
def dw.suffix{V:am}{g k n cap:Nat}{m:Nat}{f:Nat->am}(E:m<=n)(T:rows.length=n)(F:∀r∈rows,r.length=k)(a:n<=cap)(A:∀q,q<cap*k->V g q/\(∃z,cel w g q=some z/\z.oneCell'=true)/\fro w g q=NF)(G:∀q,q<n*k->cel w g q=some (u q))(H:∀q,q<n*k->∀b o,f q b o->V b o/\¬(b=g/\o<cap*k))(J:∀q l,q<n*k->l<n*k->q≠l->∀b o,f q b o->¬f l b o)(K:∀i j r c,rows[i]? = some r->r[j]? = some c->dw w S (f (i*k+j)) c (u (i*k+j))):dw w S V (.s .suf (rows.drop m)) (.slice (some ⟨g,m*k,none⟩) (n - m) (cap - m)):=by
 have L:m*k<=n*k:=SE k E;have M:n*k<=cap*k:=SE k a;have e:(n - m)*k=n*k - m*k:=Nat.sub_mul ..;refine .suf _ .suf g (m*k) k (n - m) (cap - m) _ (λq=>u (m*k+q)) (λq=>f (m*k+q)) tV1 (by rw[O5];omega) (λr N=>F r (List.mem_of_mem_drop N)) ω (λq p=>?_) (λq p=>?_) (λq p b o O=>?_) (λq l p P Q=>J _ _ ω ω ω) (λi j r c B R=>?_)
 ·obtain⟨t,-,y⟩:=A (m*k+q) ω
  exact⟨t,y⟩
 ·obtain⟨-,⟨z,d,y⟩,-⟩:=A (m*k+q) ω
  have D:=G (m*k+q) ω;rw[D]at d;exact⟨D,by simp only[C2]at d;rw[d];exact y⟩
 ·obtain⟨t,d⟩:=H (m*k+q) ω b o O
  exact⟨t,λh=>d ⟨h.1,ω⟩⟩
 rw[List.getElem?_drop]at B;have:=K _ _ _ _ B R
 rwa [show(m+i)*k+j=m*k+(i*k+j) by rw[Nat.add_mul,Nat.add_assoc]]at this
theorem bv.suW(h:bv w0 M S0 N S φ F a w)(H:∀t i,TE t=some i->j7 P t i){d T:Nat}{x lo:Operand}(hp:MW TE N F d T x lo K) :
  ∃F' v,K F'/\(Instr.sliceAt T (a.eval x) (some (a.eval lo)) none none).run P w=.ok v w/\St w0 M S0 N F' (a.put (some d) v) w:=by
 obtain⟨e,D,q,z,j,E,hu,ht,-⟩:=kT H hp;obtain⟨ki,y,Y,j⟩:=h.int j;obtain⟨F',ag,cs,V,φ',j,h2,hv,hV,hφ,-⟩:=h.taken j
 match ag,cs,j with
 | none,[.s .own rows],j=>
  obtain⟨m,n,g1,g2,g3,g4,g5,r⟩:=j.out;have J:n=rows.length:=ψ
  subst J;have hy:y=(m:Nat):=ψ
  subst hy;rw[S9]at r;have L:((some lo:Option Operand)=none/\(some ((m:Nat):Int))=none)\/∃o k l,some lo=some o/\a.eval o=.int k l/\(some ((m:Nat):Int))=some l:=.inr ψ
  have O:((none:Option Operand)=none/\(none:Option Int)=none)\/∃o k l,(none:Option Operand)=some o/\a.eval o=.int k l/\(none:Option Int)=some l:=.inl ⟨rfl,rfl⟩
  have fin:∀(len cap:Nat)(ad:Option Addr),a.eval x=.slice ad len cap->len=rows.length->len<=cap->dw w S V (.s .suf (rows.drop m)) (sliced ad m len cap D.size)->
    ∃F' v,K F'/\(Instr.sliceAt T (a.eval x) (some (a.eval lo)) none none).run P w=.ok v w/\St w0 M S0 N F' (a.put (some d) v) w:=λlen cap ad hx hl c G=>by
   have Z:=qG (w:=w) (a:=a) (P:=P) (ad:=ad) (cap:=cap) (len:=len) hu ht.size L O (x:=m) (y:=len) (.inr rfl) (.inl ⟨rfl,rfl⟩) ω (z5 _) c;have A:bD w S V none [.s .suf (rows.drop m)] (sliced ad m len cap D.size):=⟨rfl,λ_=>sliced ad m len cap D.size,rfl,λ_=>V,ψ,λ_ _ _ _ h=>h,ψ⟩
   obtain⟨F2,hK2,hst⟩:=h2.putD_taken A hV r
   grind
  have G:=hv.rep1;generalize b:C.s .own rows=c0 at G;generalize hvx:a.eval x=vx at G fin;cases G with
  | v=>cases b
  | x=>cases b
  | z=>cases b
  | m=>cases b
  | it=>cases b
  | O=>cases b
  | suf _ o' g off k l cap p u f Q=>cases b;exact Q.elim
  | nil _ o' ad Q=>
   cases b;have R:m=0:=by simp at g3;omega
   subst R;exact fin 0 0 ad rfl rfl (z5 0) (.nil _ .suf _ tV1)
  | own _ o' g k l cap p u f Q U B c hpos hF W hf hd hc=>
   cases b;have X:k=D.size:=by
    have h0:rows[0]? = some rows[0]:=ψ
    rw[<-B _ (t4 h0),g5 _ (t4 h0)]
   refine fin l cap _ rfl U.symm c ?_;by_cases E:cap=m
   ·have Y:l=m:=ω
    subst Y;rw[show rows.drop l=[] by rw[<-U];exact List.drop_length ..];unfold sliced;rw[CK E,E,Nat.sub_self];exact .nil _ .suf _ tV1
   unfold sliced;rw[CJ E];simp only[CA,jP,CE];rw[<-X];exact dw.suffix ω U B c hF W hf hd hc
 | none,[],j=>exact j.elim
 | none,[.v _],j=>exact j.elim
end
def Le(F:Nat->AV)(d:Nat)(b:Bool):Nat->AV:=λt=>bif Nat.beq t d then .Y .one [.v (.bool b)] else F t
def hJ(F:Nat->AV)(ops:Array Oper)(g:Option (Nat × Bool))(K1 a:(Nat->AV)->Prop):Prop:=
 match g with
 | none=>K1 F
 | some (j,want)=>match(ops[j]?).bind (·.dst) with
  | some d=>(match F d with
    | .Y .one [.v (.bool b)]=>Bf b (bif want then K1 (Le F d true) else a (Le F d true)) (bif want then a (Le F d false) else K1 (Le F d false))
    | .Y (.tup _) _=>a F
    | _=>False)
  | none=>False
def vA(c:Call):Option (Nat × Operand × Operand):=
 match c.callee with
 | .builtin .append=>(match c.args.toList,c.argTypes.toList with|[x,y],[T,a]=>bif Nat.beq T a then some (T,x,y) else none|_,_=>none)
 | _=>none
def Nu(N:gw)(F:Nat->AV)(d:Nat)(x:Operand):Option (Nat × List C):=
 match x with
 | .tmp t=>(match F t with
   | .Y .box a=>bif N.mo.any λp=>Nat.beq p.1 (3000000+d) then some (t,a) else none
   | _=>none)
 | _=>none
def WG(N:gw)(d:Nat)(x:Operand):Bool:=
 match x with
 | .const (.slice none 0 0)=>N.mo.any λp=>Nat.beq p.1 (6000000+d)
 | _=>false
def Q4(N:gw)(F:Nat->AV)(d:Nat)(x:Operand)(K:(Nat->AV)->Prop):Prop:=
 match Nu N F d x with
 | some p=>ch N (kill F p.1) d (.Y .box p.2) K
 | none=>nH N F d x K
def HA(N:gw)(F:Nat->AV)(d:Nat)(x:Operand)(K:(Nat->AV)->Prop):Prop:=bif WG N d x then ch N F d (.Y .one [.v (.slice none 0 0)]) K else Q4 N F d x K
variable{x:Operand}{N:gw}
theorem Xi{d:Nat}(h:WG N d x=true):x=.const (.slice none 0 0):=by grind [WG]
theorem Hj{d:Nat}{p:Nat × List C}(h:Nu N F d x=some p):x=.tmp p.1/\F p.1=.Y .box p.2:=by
 unfold Nu at h
 grind
def kM(P:Program)(TE:Nat->Option TI)(N:gw)(d:Nat)(b:Op)(K:(Nat->AV)->Prop)(F:Nat->AV):Prop:=
 match b with
 | .assign x=>HA N F d x K
 | .box _ x=>VL N F d x K
 | .build T ps=>n8 TE N F d T ps.toList K
 | .buildSlice T n ps=>ix TE N F d T n ps.toList K
 | .range T x=>uB TE N F d T x K
 | .move x=>kW N F d x K
 | .next x str=>bif str then False else yO N F d x K
 | .entry x=>uM N F d x K
 | .call c=>(match vA c with
   | some p=>GW TE N F d p.1 p.2.1 p.2.2 K
   | none=>dJ P TE F (.call c) λa=>ch N F d a K)
 | .slice T x none (some e) none=>bif ZO N d then Li TE N F d T x e K else dJ P TE F (.slice T x none (some e) none) λa=>ch N F d a K
 | .slice T x (some f) none none=>bif ZO N d then MW TE N F d T x f K else dJ P TE F (.slice T x (some f) none none) λa=>ch N F d a K
 | b=>dJ P TE F b λa=>ch N F d a K
def Rk:List (Nat × List Nat)->Nat->Option (List Nat)
 | [],_=>none
 | p::l,f=>bif Nat.beq f p.1 then some p.2 else Rk l f
def Gh(N:gw)(F:Nat->AV)(b:Op):Option (Nat × List Operand × List Nat):=
 match b with
 | .call c=>(match c.callee with
   | .value (.func f)=>(match Rk N.mo f with|some a=>some (f,c.args.toList,a)|none=>none)
   | .value (.tmp t)=>(match F t with
     | .fn f caps=>(match Rk N.mo f with|some a=>some (f,c.args.toList++caps.map .tmp,a)|none=>none)
     | _=>none)
   | _=>none)
 | _=>none
def UC(N:gw)(a:Op):Bool:=
 match a with
 | .call c=>(match c.args.toList with
   | .tmp t::_=>N.mo.any λp=>Nat.beq p.1 (4000000+t)
   | _=>false)
 | _=>false
inductive Ch(A B:Prop):Prop
 |pl (h:A)
 |lt (h:B)
def mE(P:Program)(TE:Nat->Option TI)(N:gw)(o:Oper)(K:(Nat->AV)->Prop)(F:Nat->AV):Prop:=
 match o.dst with
 | none=>(match o.op with|.store T x y=>pW TE F T x y K|.mapUpdate T m x y=>rJ TE F T m x y K|_=>False)
 | some d=>kM P TE N d o.op K F
def rvL:List (Nat × List Nat)->List Nat
 | []=>[]
 | p::l=>bif Nat.ble 5000000 p.1&&Nat.ble p.1 5999999 then(p.1 - 5000000)::rvL l else rvL l
def dne:Option Nat->Nat->Bool
 | none,_=>true
 | some d,s=>!Nat.beq d s
def rv1(F:Nat->AV)(d:Option Nat)(s:Nat)(a:Nat->AV):Nat->AV:=
 match F s with
 | .ref t off []=>bif dne d s&&dne d t then(match a t with|.Y .box _=>(match a s with|.dead=>setH a s (.ref t off [])|_=>a)|_=>a) else a
 | _=>a
def rvE(F:Nat->AV)(d:Option Nat):List Nat->(Nat->AV)->Nat->AV
 | [],a=>a
 | s::l,a=>rvE F d l (rv1 F d s a)
def rvs(F:Nat->AV)(d:Option Nat):List Nat->((Nat->AV)->Prop)->(Nat->AV)->Prop
 | [],K,a=>K a
 | s::l,K,a=>match F s with
  | .ref t off []=>bif dne d s&&dne d t then(match a t with|.Y .box _=>(match a s with|.dead=>rvs F d l K (setH a s (.ref t off []))|_=>rvs F d l K a)|_=>rvs F d l K a) else rvs F d l K a
  | _=>rvs F d l K a
theorem sC{F:Nat->AV}{d:Option Nat}{K:(Nat->AV)->Prop} : ∀{l:List Nat}{a:Nat->AV},rvs F d l K a=K (rvE F d l a)
 | [],a=>rfl
 | s::l,a=>by
  simp only[rvs,rvE];unfold rv1;split
  ·cases b:(dne d s&&dne d _) with
   | false=>exact sC
   | true=>
    simp only[cond_true];split
    ·split
     ·exact sC
     exact sC
    exact sC
  exact sC
def yi(P:Program)(N:gw)(F:Nat->AV)(d:Option Nat)(f:Nat)(args:List Operand)(modes:List Nat)(K:(Nat->AV)->Prop):Prop:=
 mN P N F d f args modes (rvs F d (rvL N.mo) K)
def k7(P:Program)(TE:Nat->Option TI)(N:gw)(ops:Array Oper)(o:Oper)(K:(Nat->AV)->Prop)(F:Nat->AV):Prop:=
 hJ F ops o.guard (λF=>match Gh N F o.op with
   | some p=>bif UC N o.op then Ch (mE P TE N o K F) (yi P N F o.dst p.1 p.2.1 p.2.2 K) else yi P N F o.dst p.1 p.2.1 p.2.2 K
   | none=>match o.dst with
     | none=>(match o.op with|.store T x y=>pW TE F T x y K|.mapUpdate T m x y=>rJ TE F T m x y K|_=>False)
     | some d=>kM P TE N d o.op K F)
  (λF=>match o.dst with|none=>K F|some d=>ch N F d (.Y (.tup []) []) K)
def Tk(P:Program)(TE:Nat->Option TI)(N:gw)(ops:Array Oper):List Oper->((Nat->AV)->Prop)->(Nat->AV)->Prop
 | [],K,F=>K F
 | o::rest,K,F=>k7 P TE N ops o (Tk P TE N ops rest K) F
section
variable{P:Program}{w0 w w1:World}{M S0 S:am}{N:gw}{φ:Nat->am}{F:Nat->AV}{a:Act}{TE:Nat->Option TI}
variable{K:(Nat->AV)->Prop}
theorem bv.asg(h:bv w0 M S0 N S φ F a w){d:Nat}{x:Operand}(f:HA N F d x K):∃F',K F'/\St w0 M S0 N F' (a.put (some d) (a.eval x)) w:=by
 unfold HA at f;cases g:WG N d x with
 | true=>
  rw[g]at f;obtain rfl:=Xi g;exact h.putD_new (pi.same (lU rfl)) f
 | false=>
 rw[g]at f;simp only[cond_false]at f;unfold Q4 at f;cases k:Nu N F d x with
 | none=>grind [bv.assign]
 | some p=>
  rw[k]at f;obtain⟨rfl,l⟩:=Hj k;have c:=h.slot p.1;rw[l]at c;have i:Free w0 M S (λs=>if s=p.1 then NO else φ s) w (φ p.1):=λb o j=>by
   refine⟨λs c=>?_,h.disS p.1 b o j,h.ex p.1 b o j⟩;replace c:(if s=p.1 then NO else φ s) b o:=c;by_cases e:s=p.1
   ·rw[CK e]at c;exact c
   rw[CJ e]at c;exact h.dis s p.1 e b o c j
  have n:cZ w S (kill F p.1) (tvs a) (φ p.1) (.Y .box p.2) (tvs a p.1):=c;exact(h.forget p.1).putD_free n i f
variable{o:Oper}{ops:Array Oper}
theorem EH(h:bv w0 M S0 N S φ F a w){K1 r:(Nat->AV)->Prop}(c:hJ F ops o.guard K1 r) :
  (Region.wanted o (yielded ops a.tmps)=true/\K1 F)\/(Region.wanted o (yielded ops a.tmps)=false/\r F):=by
 unfold hJ at c;unfold Region.wanted;cases A:o.guard with
 | none=>grind
 | some p=>
  obtain⟨j,want⟩:=p;rw[A]at c;simp only at c |-;cases k:(ops[j]?).bind (·.dst) with
  | none=>grind
  | some d=>
   rw[k]at c;simp only at c;split at c
   case h_3=>exact c.elim
   case h_2=>
    rename_i E G l;have i:=h.slot d;rw[l]at i;obtain⟨B,Y,-,-,-,⟨q,g,-,-⟩,-⟩:=i;have e:yielded ops a.tmps j=none:=by
     unfold yielded;rw[k];simp only[Option.bind_some];cases n:a.tmps[d]? with
     | none=>rfl
     | some x=>
      have:tvs a d=x:=by simp[tvs,ID,n]
      grind
    rw[e];exact .inr ⟨rfl,c⟩
   rename_i b l;have i:=h.slot d;rw[l]at i;obtain⟨B,Y,-,-,-,-,f,C,-⟩:=i;have t:=C 0 _ rfl;have g:tvs a d=.bool b:=by
    generalize D:cz w Kd.one (tvs a d) 0=y at t;cases t;exact D
   have e:yielded ops a.tmps j=some b:=by
    unfold yielded;rw[k];simp only[Option.bind_some];cases n:a.tmps[d]? with
    | none=>
     have:tvs a d=undef:=by grind [tvs]
     rw[this]at g;cases g
    | some x=>
     have:tvs a d=x:=by simp[tvs,ID,n]
     grind
   have u:Le F d b=F:=by grind [v4,Le]
   grind [Bf.out]
theorem Vr{w:World}{S:am}{F:Nat->AV}{tv:Nat->Value} : cZ w S F tv NO (.Y (.tup []) []) undef:=
 ⟨NO,NO,λ_ _ h=>h,λ_ _ h=>h,λ_ _ h=>h.elim,⟨#[],rfl,tV1,rfl⟩,λ_=>NO,ψ,ψ,ψ⟩
theorem DJ{c:Call}{p:Nat × Operand × Operand}(h:vA c=some p):c = ⟨.builtin .append,#[p.2.1,p.2.2],#[p.1,p.1]⟩:=by
 obtain⟨callee,args,b⟩:=c;unfold vA at h;simp only at h;split at h
 ·split at h
  ·rename_i x y T d g i
   cases a:Nat.beq T d with
   | false=>grind
   | true=>
    rw[a]at h;simp only[cond_true,C2]at h;have:=v4 a;subst this h;have e:args = #[x,y]:=ψ
    have f:b = #[T,T]:=ψ
    rw[e,f]
  cases h
 cases h
variable{Q:Exit->Act->World->Prop}{Kc:Act->World->Prop}
theorem bv.dst(h:bv w0 M S0 N S φ F a w)(l:∀t i,TE t=some i->j7 P t i){d:Nat}(B:o.dst=some d)(f:kM P TE N d o.op K F)(C:∀F' D r,K F'->St w0 M S0 N F' D r->Kc D r):o.wp P a w Kc Q:=by
 have pure1:dJ P TE F o.op (λE=>ch N F d E K)->o.wp P a w Kc Q:=λf=>by
  obtain⟨E,j,L⟩:=h.pure_ l f;refine L Kc Q λv r O=>?_
  obtain⟨F',u,b⟩:=h.putD_new O j;rw[B];exact C F' _ r u b
 have val:∀{v:Value}{w1:World}{F':Nat->AV},(execOp a.eval o).run P w=.ok (.value v) w1->K F'->St w0 M S0 N F' (a.put (some d) v) w1->o.wp P a w Kc Q:=fun {v w1 F'} k j b=>by
  have:=FP.value (P:=P) (o:=o) (a:=a) (w:=w) (w1:=w1) (v:=v) (R:=λG r=>G=v/\r=w1) k ⟨rfl,rfl⟩;refine this Kc Q λG r ⟨U,e⟩=>?_
  rw[e,U,B];exact C F' _ w1 j b
 cases g:o.op with
 | assign x=>
  rw[g]at f;obtain⟨F',j,b⟩:=h.asg f;exact val (by simp[execOp,g]) j b
 | box T x=>
  rw[g]at f;obtain⟨v,w1,F',j,k,b⟩:=h.boxW (P:=P) (T:=T) f;exact val (by simp[execOp,g,k]) j b
 | build T V=>
  rw[g]at f;obtain⟨v,F',j,k,b⟩:=h.buildW l f;exact val (by simp only[execOp,g];rw[Sem.run_bind,k];rfl) j b
 | buildSlice T n V=>
  rw[g]at f;obtain⟨v,w1,F',j,k,b⟩:=h.buildSW l f;exact val (by simp only[execOp,g];rw[Sem.run_bind,k];rfl) j b
 | move x=>
  rw[g]at f;obtain⟨F',j,b⟩:=h.moveW f;exact val (by simp[execOp,g]) j b
 | range T x=>
  rw[g]at f;obtain⟨v,w1,F',j,k,b⟩:=h.rangeW l f;exact val (by simp[execOp,g,k]) j b
 | next x str=>
  rw[g]at f;cases str with
  | true=>exact f.elim
  | false=>
   obtain⟨v,w1,F',j,k,b⟩:=h.nextW (P:=P) (ty:=o.type) f;exact val (by simp[execOp,g,k]) j b
 | entry x=>
  rw[g]at f;obtain⟨v,F',j,k,b⟩:=h.entryW (P:=P) f;exact val (by simp[execOp,g,k]) j b
 | call c=>
  rw[g]at f;simp only[kM]at f;cases y:vA c with
  | none=>rw[y]at f;exact pure1 (by rw[g];exact f)
  | some p=>
   rw[y]at f;obtain⟨v,w1,F',j,k,b⟩:=h.appW (ty:=o.type) l f;have:=DJ y;subst this;exact val (by simp[execOp,g,resolve,invoke,builtin,k]) j b
 | slice T x H A J=>
  rw[g]at f;cases H with
  | some H=>
   cases A with
   | some _=>exact pure1 (by rw[g];exact f)
   | none=>
    cases J with
    | some _=>exact pure1 (by rw[g];exact f)
    | none=>
     simp only[kM]at f;cases q:ZO N d with
     | false=>rw[q]at f;exact pure1 (by rw[g];exact f)
     | true=>
      rw[q]at f;obtain⟨F',v,j,k,b⟩:=h.suW l f;exact val (by simp[execOp,g,k]) j b
  | none=>
   cases A with
   | none=>exact pure1 (by rw[g];exact f)
   | some A=>
    cases J with
    | some _=>exact pure1 (by rw[g];exact f)
    | none=>
     simp only[kM]at f;cases q:ZO N d with
     | false=>rw[q]at f;exact pure1 (by rw[g];exact f)
     | true=>
      rw[q]at f;obtain⟨F',v,j,k,b⟩:=h.slW l f;exact val (by simp[execOp,g,k]) j b
 | _=>rw[g]at f;exact pure1 (by rw[g];exact f)
variable{p:Nat × List Operand × List Nat}
theorem UH(h:bv w0 M S0 N S φ F a w)(b:Gh N F o.op=some p):PG P p.1->(execOp a.eval o).run P w=.ok (.enter p.1 (p.2.1.map a.eval).toArray) w:=by
 intro e;unfold Gh at b;split at b
 case h_2=>cases b
 rename_i c g;obtain⟨callee,args,k⟩:=c;simp only at b;split at b
 ·rename_i f
  split at b
  ·cases b
   have:=Nc (a:=a) (w:=w) g e;rw[this]
   congr 2
   grind
  cases b
 ·rename_i t
  have i:=h.slot t;split at b
  ·rename_i f caps j
   rw[j]at i;split at b
   ·cases b
    have d:=yx (a:=a) (w:=w) (caps:=caps.map (tvs a)) g e i;rw[d]
    congr 2
    rw[IB,List.map_map]
    rfl
   cases b
  cases b
 cases b
theorem wo{v:Value}{d:Option Nat}{s:Nat}(h:dne d s=true):tvs (a.put d v) s=tvs a s:=by
 cases d with
 | none=>rfl
 | some d=>
  have b:d≠s:=λe=>by subst e;simp[dne]at h
  simp only[tvs,Act.put,ID,Array.getElem?_setIfInBounds];rw[CJ b]
theorem QY{a:World}{u:Nat->Value}{top:Option (Nat × Nat)}{off:Nat} : plc a u top off []=top.map λp=>(p.1,p.2+off):=by
 cases top with
 | none=>rfl
 | some p=>rfl
theorem bv.rv1(h:bv w0 M S0 N S φ F a w){d:Option Nat}{v:Value}{A:World}{B:Nat->AV}(h2:St w0 M S0 N B (a.put d v) A)(s:Nat):St w0 M S0 N (rv1 F d s B) (a.put d v) A:=by
 unfold Ab.rv1;split
 case h_2=>exact h2
 rename_i t i E;cases c:(dne d s&&dne d t) with
 | false=>exact h2
 | true=>
  rw[I0]at c;simp only[cond_true];split
  case h_2=>exact h2
  rename_i l n;split
  case h_2=>exact h2
  rename_i G;obtain⟨S2,φ2,h2⟩:=h2;have H:t≠s:=ψ
  have C:=h.slot s;rw[E]at C;obtain⟨k,cs0,r,j,g,o,L,O,P,Q⟩:=C;have f:=h2.slot t;rw[n]at f;obtain⟨R,Y,-,-,-,⟨T,U,p,-⟩,-⟩:=f;rw[wo c.2]at p;have J:k=.box:=by
   cases k with
   | box=>rfl
   | _=>grind [QY,uo]
  subst J;refine⟨S2,λq=>if q=s then NO else φ2 q,λq=>?_,λq D u b o c e=>?_,λq b o c=>?_,λq b o c=>?_,h2.sub,h2.sup,h2.old,h2.size,h2.defers,h2.par⟩
  ·by_cases y:q=s
   ·subst y
    rw[uA];refine⟨.box,l,l,i,g,o,by grind [gN],rfl,?_,by grind [wo]⟩
    grind [QY,wo]
   rw[gN _ _ y,CJ y];refine(h2.slot q).keep (φ:=φ2) (λt _ _ _=>h2.slot t) (λD K=>⟨λk l V=>?_,rfl,λ_ _ _=>⟨rfl,rfl⟩⟩) (λ_ _ _=>⟨rfl,rfl⟩) (λ_ _ _=>⟨rfl,rfl⟩) (λ_ _ h=>h) (λ_ _ h=>h)
   grind [gN]
  ·split at c
   ·exact c.elim
   split at e
   ·exact e.elim
   exact h2.dis q D u b o c e
  ·split at c
   ·exact c.elim
   exact h2.disS q b o c
  split at c
  ·exact c.elim
  exact h2.ex q b o c
def bv.rvE(h:bv w0 M S0 N S φ F a w){d:Option Nat}{v:Value}{c:World} : ∀{l:List Nat}{e:Nat->AV},St w0 M S0 N e (a.put d v) c->St w0 M S0 N (rvE F d l e) (a.put d v) c
 | [],_,b=>b
 | s::l,_,b=>h.rvE (l:=l) (h.rv1 b s)
theorem bv.lent(h:bv w0 M S0 N S φ F a w)(f:Gh N F o.op=some p)(g:yi P N F o.dst p.1 p.2.1 p.2.2 K)(i:∀F' d b,K F'->St w0 M S0 N F' d b->Kc d b):o.wp P a w Kc Q:=
 h.callM (UH h f) g λF' v b e c=>by
  rw[sC]at e;exact i _ _ b e (h.rvE c)
theorem bv.plain(h:bv w0 M S0 N S φ F a w)(j:∀t i,TE t=some i->j7 P t i)(f:mE P TE N o K F)(p:∀F' q c,K F'->St w0 M S0 N F' q c->Kc q c):o.wp P a w Kc Q:=by
 unfold mE at f;cases k:o.dst with
 | none=>
  rw[k]at f;simp only at f;split at f
  ·rename_i T x y l
   obtain⟨F',w1,n,b,g⟩:=h.storeOp j f;have:=FP.skip (P:=P) (o:=o) (a:=a) (w:=w) (w1:=w1) (R:=λv c=>v=undef/\c=w1) (by simp[execOp,l,b]) ⟨rfl,rfl⟩;refine this Kc Q λv c ⟨_,e⟩=>?_
   rw[e,k];exact p F' a w1 n g
  ·rename_i T m x y l
   obtain⟨F',w1,n,b,g⟩:=h.mapUpd j f;have:=FP.skip (P:=P) (o:=o) (a:=a) (w:=w) (w1:=w1) (R:=λv c=>v=undef/\c=w1) (by simp[execOp,l,b]) ⟨rfl,rfl⟩;refine this Kc Q λv c ⟨_,e⟩=>?_
   rw[e,k];exact p F' a w1 n g
  exact f.elim
 | some d=>
  grind [bv.dst]
theorem bv.one(h:bv w0 M S0 N S φ F a w)(c:∀t i,TE t=some i->j7 P t i)(b:k7 P TE N ops o K F)(f:∀F' g j,K F'->St w0 M S0 N F' g j->Kc g j) :
  if Region.wanted o (yielded ops a.tmps) then o.wp P a w Kc Q else Kc (a.put o.dst undef) w:=by
 unfold k7 at b;rcases EH h b with⟨e,b⟩|⟨e,b⟩
 ·rw[e,CK rfl]
  cases k:Gh N F o.op with
  | some p=>
   rw[k]at b;simp only at b;cases n:UC N o.op with
   | false=>grind [bv.lent]
   | true=>
    rw[n]at b;rcases b with b|b
    all_goals grind [bv.plain,bv.lent]
  | none=>
  rw[k]at b;exact h.plain c b f
 rw[e,CJ (by simp)];cases l:o.dst with
 | none=>rw[l]at b;exact f F a w b ⟨S,φ,h⟩
 | some d=>
  rw[l]at b;obtain⟨F',r,q⟩:=h.putD_new (v:=undef) (pi.same (av:=.Y (.tup []) []) Vr) b
  grind
theorem Ms(b:∀t i,TE t=some i->j7 P t i){ops:Array Oper}{K:(Nat->AV)->Prop}{Q:Exit->Act->World->Prop}(g:∀F' c d,K F'->St w0 M S0 N F' c d->Q .normal c d) :
  ∀(l:List Oper)(F:Nat->AV)(a:Act)(w:World),Tk P TE N ops l K F->St w0 M S0 N F a w->wpList P ops Q l a w
 | [],F,a,w,e,f=>g F a w e f
 | o::l,F,a,w,e,⟨S,φ,h⟩=>by
  have:=h.one b e (Kc:=wpList P ops Q l) (Q:=Q) λF' c d j f=>Ms b g l F' c d j f
  grind [Go.wpList]
end
def tm:Operand->List Nat
 | .tmp t=>[t]
 | _=>[]
def jz(F F':Nat->AV)(ts:List Nat):Prop:=∀t,t∈ts->F' t=F t/\∀a,(F t).uses a=true->∀k b,F a=.Y k b->F' a=.Y k b
variable{F':Nat->AV}
theorem jz.mono{ts a:List Nat}(h:jz F F' ts)(b:∀t,t∈a->t∈ts):jz F F' a:=λt c=>h t (b t c)
theorem jz.ev(h:jz F F' (tm x)):qZ F' x=qZ F x:=by
 cases x with
 | tmp t=>exact(h t (by simp[tm])).1
 | _=>rfl
def fV(F:Nat->AV)(ts:List Nat)(av:AV):Prop:=∀d,av.uses d=true->d∈ts\/∃t,t∈ts/\(F t).uses d=true
def fV.Y(F:Nat->AV)(ts:List Nat)(k:Kd)(cs:List C):fV F ts (.Y k cs):=λd h=>by cases h
theorem Ca:type_of% @fV.Y:=@fV.Y
def fV.iref(F:Nat->AV)(ts:List Nat)(r:List C)(o:Nat):fV F ts (.iref r o):=λd h=>by cases h
def sX(p:(Nat->AV)->(AV->Prop)->Prop)(F:Nat->AV)(ts:List Nat)(K:AV->Prop):Prop:=∃a,K a/\fV F ts a/\∀b,jz F b ts->∀c:AV->Prop,c a->p b c
section
variable{F:Nat->AV}{K:AV->Prop}{TE:Nat->Option TI}{P:Program}
variable{st:cT}{t off:Nat}
theorem Ew{k:List C->Nat->Prop}(h:A3 F t off st k):∃r j,k r j/\∀F':Nat->AV,(∀k cs,F t=.Y k cs->F' t=.Y k cs)->∀a:List C->Nat->Prop,a r j->A3 F' t off st a:=by grind [uC,Rw.mk,A3]
theorem pw(v:Value)(d:Nat):(qn v).uses d=false:=by
 cases v with
 | agg arr=>
  simp only[qn];cases arr.all (·.oneCell')<;>rfl
 | pointer p=>cases p<;>rfl
 | _=>rfl
variable{x:Operand}
theorem cJ{k:Option Nat->List C->Prop}(h:jU F (qZ F x) k):∃ag cs,k ag cs/\∀F':Nat->AV,jz F F' (tm x)->∀d:Option Nat->List C->Prop,d ag cs->jU F' (qZ F' x) d:=by
 cases a:qZ F x with
 | Y l cs=>
  rw[a]at h;cases l with
  | one=>exact⟨_,_,h,λF' b d e=>by rw[b.ev,a];exact e⟩
  | agg=>exact⟨_,_,h,λF' b d e=>by rw[b.ev,a];exact e⟩
  | _=>exact h.elim
 | b5 t i n ag=>
  rw[a]at h;replace h:A3 F t i n λr j=>k ag (bU r j (ag.getD 1)):=h
  obtain⟨r,j,e,u⟩:=Ew h;refine⟨_,_,e,λF' b d o=>?_⟩;rw[b.ev,a];refine u F' (λl cs w=>?_) (λr j=>d ag (bU r j (ag.getD 1))) o;cases x with
  | tmp q=>
   have p:F q=.b5 t i n ag:=a;exact(b q (by simp[tm])).2 t (by rw[p];simp[AV.uses]) l cs w
  | const v=>
   have:=pw v t;rw[show qn v=.b5 t i n ag from a]at this;simp[AV.uses]at this
  | global g=>cases a
  | func f=>cases a
 | dead=>rw[a]at h;exact h.elim
 | ref=>rw[a]at h;exact h.elim
 | iref=>rw[a]at h;exact h.elim
 | fn f caps=>
  rw[a]at h;cases caps with
  | cons c cs=>exact h.elim
  | nil=>exact⟨_,_,h,λF' b d e=>by rw[b.ev,a];exact e⟩
 | fv=>rw[a]at h;exact h.elim
def kD{k:Value->Prop}(h:NT F x k):∃z,k z/\∀F':Nat->AV,jz F F' (tm x)->∀a:Value->Prop,a z->NT F' x a:=by
 obtain⟨d,e,b,f⟩:=cJ h
 match d,e,b with
 | none,[.v z],b=>exact⟨z,b,λF' g a c=>f F' g _ c⟩
theorem Tt{F':Nat->AV}(h:F' t=F t):bS F' (.tmp t) K=bS F (.tmp t) K:=by grind [bS]
theorem my(h:bS F x K):sX (λF K=>bS F x K) F (tm x) K:=by
 cases x with
 | tmp t=>
  have l:t∈tm (.tmp t):=by simp[tm]
  have fin:∀j,K j->fV F (tm (.tmp t)) j->(∀a:AV->Prop,a j->bS F (.tmp t) a)->sX (λF K=>bS F (.tmp t) K) F (tm (.tmp t)) K:=λj w y A=>
   ⟨j,w,y,λn B a i=>by
     show bS n (.tmp t) _;rw[Tt (B t l).1];exact A a i⟩
  have loc:∀d,d=t->d∈tm (.tmp t):=ψ
  cases o:F t with
  | Y k p=>
   cases k with
   | box=>
    have e:∀a,bS F (.tmp t) a=a (.ref t 0 []):=λa=>by grind [bS]
    rw[e]at h;exact fin _ h (λd b=>.inl (loc d (by simp[AV.uses]at b;exact b.symm))) ψ
   | one=>
    cases C:b6 p with
    | true=>
     grind [Ca,bS]
    | false=>
     have e:∀a,bS F (.tmp t) a=a (.b5 t 0 [] none):=λa=>by grind [bS]
     rw[e]at h;exact fin _ h (λd b=>.inl (loc d (by simp[AV.uses]at b;exact b.symm))) ψ
   | agg=>
    cases C:b6 p with
    | true=>
     grind [Ca,bS]
    | false=>
     have e:∀a,bS F (.tmp t) a=a (.b5 t 0 [] (some p.length)):=λa=>by grind [bS]
     rw[e]at h;exact fin _ h (λd b=>.inl (loc d (by simp[AV.uses]at b;exact b.symm))) ψ
   | tup E=>
    grind [Ca,bS]
  | dead=>
   have e:∀a,bS F (.tmp t) a=a .dead:=λa=>by grind [bS]
   rw[e]at h;exact fin _ h (λd b=>by cases b) ψ
  | ref q c u=>
   have e:∀a,bS F (.tmp t) a=a (.ref q c u):=λa=>by grind [bS]
   rw[e]at h;exact fin _ h (λd b=>.inr ⟨t,l,by rw[o];exact b⟩) ψ
  | b5 q c u D=>
   have e:∀a,bS F (.tmp t) a=a (.b5 q c u D):=λa=>by grind [bS]
   rw[e]at h;exact fin _ h (λd b=>.inr ⟨t,l,by rw[o];exact b⟩) ψ
  | iref r c=>
   have e:∀a,bS F (.tmp t) a=a (.iref r c):=λa=>by grind [bS]
   rw[e]at h;exact fin _ h (λd b=>by cases b) ψ
  | fn f caps=>
   have e:∀a,bS F (.tmp t) a=a (.fn f caps):=λa=>by grind [bS]
   rw[e]at h;exact fin _ h (λd b=>.inr ⟨t,l,by rw[o];exact b⟩) ψ
  | fv Ok=>
   have e:∀a,bS F (.tmp t) a=a (.fv Ok):=λa=>by grind [bS]
   rw[e]at h;exact fin _ h (λd b=>by cases b) ψ
 | const v=>
  refine⟨_,h,λd b=>?_,λn _ a i=>i⟩
  grind [pw]
 | global g=>exact⟨_,h,(λd b=>by cases b),λn _ a i=>i⟩
 | func f=>exact⟨_,h,(λd b=>by cases b),λn _ a i=>i⟩
variable{ts:List Nat}
theorem Ry{i:TI}(p:t∈ts\/∃l,l∈ts/\(F l).uses t=true)(h:Zw F i t off st K) :
  ∃av,K av/\fV F ts av/\∀F':Nat->AV,(∀k cs,F t=.Y k cs->F' t=.Y k cs)->∀b:AV->Prop,b av->Zw F' i t off st b:=by
 obtain⟨r,j,a,n⟩:=Ew h;cases e:Nat.beq (bU r j i.size).length i.size with
 | false=>grind
 | true=>
  rw[e]at a;simp only[cond_true]at a;cases c:b6 (bU r j i.size) with
  | true=>rw[c]at a;exact⟨_,a,Ca _ _ _ _,λF' f b g=>n F' f _ (by rw[e,c];exact g)⟩
  | false=>rw[c]at a;exact⟨_,a,λd o=>by simp[AV.uses]at o;subst o;exact p,λF' f b g=>n F' f _ (by rw[e,c];exact g)⟩
variable{T:Nat}
theorem Vq(h:zP TE F T x K):sX (λF K=>zP TE F T x K) F (tm x) K:=by
 unfold zP at h;cases y:TE T with
 | none=>grind
 | some i=>
  rw[y]at h;simp only at h;cases A:(i.agg || Nat.beq i.size 1) with
  | false=>grind
  | true=>
   rw[A]at h;simp only[cond_true]at h;cases x with
   | tmp t=>
    have g:t∈tm (.tmp t):=by simp[tm]
    simp only at h;have same:∀{b},jz F b (tm (.tmp t))->b t=F t:=λc=>(c t g).1
    have unf:∀{b}{d:AV->Prop},jz F b (tm (.tmp t))->(match F t with|.Y .box _=>Zw b i t 0 [] d|.ref t a u=>Zw b i t a u d|.iref r a=>bif Nat.beq (bU r a i.size).length i.size then d (.Y (mu (vk i)) (bU r a i.size)) else False|_=>False)->zP TE b T (.tmp t) d:=λe f=>by grind [zP]
    cases c:F t with
    | Y k j=>
     rw[c]at h;cases k with
     | box=>
      obtain⟨l,n,o,p⟩:=Ry (ts:=tm (.tmp t)) (.inl g) h;exact⟨l,n,o,λb e d q=>unf e (by rw[c];exact p b (λk j f=>(same e).trans f) d q)⟩
     | _=>exact h.elim
    | ref w a u=>
     rw[c]at h;have B:(F t).uses w=true:=by rw[c];simp[AV.uses]
     obtain⟨l,n,o,p⟩:=Ry (ts:=tm (.tmp t)) ψ h;exact⟨l,n,o,λb e d q=>unf e (by rw[c];exact p b (λk j f=>(e t g).2 w B k j f) d q)⟩
    | iref r a=>
     rw[c]at h;simp only at h;cases C:Nat.beq (bU r a i.size).length i.size with
     | false=>grind
     | true=>
      rw[C]at h;exact⟨_,h,Ca _ _ _ _,ψ⟩
    | dead=>grind
    | b5=>grind
    | fn=>grind
    | fv=>grind
   | _=>exact h.elim
theorem P6{o:Nat}(h:tU F x o K):sX (λF K=>tU F x o K) F (tm x) K:=by
 cases x with
 | tmp t=>
  have b:t∈tm (.tmp t):=by simp[tm]
  simp only[tU]at h;cases a:F t with
  | Y k l=>
   rw[a]at h;cases k with
   | box=>exact⟨_,h,λd f=>.inl (by simp[AV.uses]at f;subst f;exact b),λi c j e=>by simp only[tU,(c t b).1,a];exact e⟩
   | _=>exact h.elim
  | ref n g p=>rw[a]at h;exact⟨_,h,λd f=>.inr ⟨t,b,by rw[a];exact f⟩,λi c j e=>by simp only[tU,(c t b).1,a];exact e⟩
  | iref r g=>rw[a]at h;exact⟨_,h,fV.iref _ _ _ _,λi c j e=>by simp only[tU,(c t b).1,a];exact e⟩
  | dead=>grind
  | b5=>grind
  | fn=>grind
  | fv=>grind
 | _=>exact h.elim
theorem Fs{f:Nat}(h:jY TE F T x f K):sX (λF K=>jY TE F T x f K) F (tm x) K:=by
 unfold jY at h;unfold sX jY;split at h
 case h_2=>exact h.elim
 split at h
 case h_2=>exact h.elim
 rename_i o c _;split at h
 case h_2=>exact h.elim
 rename_i a _;cases b:Nat.beq a.size 0 with
 | true=>grind
 | false=>
  rw[b]at h;simp only[cond_false]at h |-;exact P6 h
variable{size:Nat}
theorem MZ{c:C}{i:Int}(n:t∈ts\/∃e,e∈ts/\(F e).uses t=true)(h:Py size t off st c i K):∃av,K av/\fV F ts av/\∀b:AV->Prop,b av->Py size t off st c i b:=by
 cases c with
 | s o f=>
  obtain⟨g,r,j,a⟩:=Ix.out h;cases p:Nat.beq r.length size with
  | false=>grind
  | true=>
   rw[p]at a;simp only[cond_true]at a;cases k:o.mine with
   | true=>rw[k]at a;exact⟨_,a,λd l=>by simp[AV.uses]at l;subst l;exact n,λb q=>CS g j ψ⟩
   | false=>rw[k]at a;exact⟨_,a,fV.iref _ _ _ _,λb q=>CS g j ψ⟩
 | _=>exact h.elim
theorem KO{i:Int}(h:rQ F size x i K):sX (λF K=>rQ F size x i K) F (tm x) K:=by
 cases x with
 | tmp t=>
  have b:t∈tm (.tmp t):=by simp[tm]
  simp only[rQ]at h;cases a:F t with
  | Y E g=>
   rw[a]at h;cases E with
   | one=>
    match g,h,a with
    | [c],h,a=>
     obtain⟨l,o,p,u⟩:=MZ (ts:=tm (.tmp t)) (.inl b) h;exact⟨l,o,p,λw e y A=>by simp only[rQ,(e t b).1,a];exact u y A⟩
   | _=>exact h.elim
  | b5 f d B G=>
   rw[a]at h;cases G with
   | none=>
    replace h:A3 F f d B λr j=>match r[j]? with|some c=>Py size f d B c i K|none=>False:=h
    obtain⟨r,j,C,q⟩:=Ew h;have D:(F t).uses f=true:=by rw[a];simp[AV.uses]
    cases H:r[j]? with
    | none=>grind
    | some c=>
     rw[H]at C;obtain⟨l,o,p,u⟩:=MZ (ts:=tm (.tmp t)) (.inr ⟨t,b,D⟩) C;exact⟨l,o,p,λw e y A=>by simp only[rQ,(e t b).1,a];exact q w (λk g J=>(e t b).2 f D k g J) _ ψ⟩
   | some n=>exact h.elim
  | dead=>grind
  | ref=>grind
  | iref=>grind
  | fn=>grind
  | fv=>grind
 | _=>exact h.elim
theorem FG{y:Operand}(h:jT TE F T x y K):sX (λF K=>jT TE F T x y K) F (tm x++tm y) K:=by
 unfold jT at h;unfold sX jT;split at h
 case h_2=>exact h.elim
 split at h
 case h_2=>exact h.elim
 rename_i j b;obtain⟨z,a,k⟩:=kD h;cases z with
 | int l i=>
  obtain⟨c,e,f,n⟩:=KO a;refine⟨c,e,λd g=>(f d g).imp ψ ψ,λo p q r=>?_⟩
  grind [jz.mono]
 | _=>exact a.elim
end
inductive Nw(bs:List C)(off:Nat)(K:List C->Prop):Prop
 |mk_ (h:∃o rows rows' bs',bs[off]? = some (.s o rows)/\fz (.s o rows)=.s .O rows'/\bs'=splice bs off [.s .O rows']/\K bs')
theorem Nw.mk{b:List C}{rows':List (List C)}(h1:b[off]? = some (.s o rows))(h2:fz (.s o rows)=.s .O rows')(c:a=splice b off [.s .O rows'])(d:K a):Nw b off K:=by refine .mk_ ?_;grind
theorem Nw.out(h:Nw a off K):∃o rows,a[off]? = some (.s o rows)/\K (splice a off [fz (.s o rows)]):=by
 obtain⟨h⟩:=h;grind
def yl(t:Nat):List Nat->((Nat->AV)->Prop)->(Nat->AV)->Prop
 | [],K,F=>K F
 | a::l,K,F=>(match F t with
   | .Y k bs=>Nw bs a λb=>yl t l K (updH F t k b)
   | _=>False)
theorem Ks{c a:C}(h:off<cs.length):splice (splice cs off [c]) off [a]=splice cs off [a]:=by
 apply List.ext_getElem?
 grind [lv,splice]
theorem TJ(t:Nat)(v:AV):wU t (wU t v)=wU t v:=by
 cases v with
 | b5 c a b d=>grind [wU]
 | ref c a b=>
  cases b with
  | nil=>rfl
  | cons s b=>grind [wU]
 | _=>rfl
theorem NV(F:Nat->AV)(t:Nat)(k:Kd)(x y:List C):updH (updH F t k x) t k y=updH F t k y:=by grind [kc,iY,TJ]
theorem bv.fzCell{w0:World}{M S0:am}{φ:Nat->am}{a:Act}(h:bv w0 M S0 N S φ F a w){f:List C}(A:F t=.Y k f)(g:f[off]? = some (.s o rows)):St w0 M S0 N (updH F t k (splice f off [fz (.s o rows)])) a w:=by
 have l:off<f.length:=ψ
 have p:bU f off 1=[.s o rows]:=by grind [List.drop_eq_getElem_cons,bU]
 obtain⟨V,X,q,H,J,u,B⟩:=h.take A (off:=off) (n:=1) ω;rw[p]at u;have D:Free w0 M S (λs=>if s=t then X else φ s) w V:=λb o g=>by
  refine⟨λs i=>?_,h.disS t b o (q b o g),h.ex t b o (q b o g)⟩;replace i:(if s=t then X else φ s) b o:=i;by_cases e:s=t
  ·grind
  rw[CJ e]at i;exact h.dis s t e b o i (q b o g)
 have E:=B.addS (S':=λb o=>S b o\/V b o) D ψ (λ_ _ h=>h);have G:(splice f off (List.replicate 1 C.x)).length=f.length:=by grind [splice]
 obtain⟨φ',y,-⟩:=E.back (out:=[fz (.s o rows)]) (off:=off) (j:=off) (st:=[]) (r:=splice f off (List.replicate 1 .x)) (kc ..) rfl tV1 ψ (V:=NO) (λ_ _ h=>h.elim) (u.freeze.congr λd _=>rfl);rw[NV]at y;rw[<-Ks (c:=.x) l];exact⟨_,φ',y⟩
theorem D7{w0 w:World}{M S0:am}{N:gw}{a:Act}{t:Nat}{K:(Nat->AV)->Prop} : ∀{offs:List Nat}{F:Nat->AV},yl t offs K F->St w0 M S0 N F a w->∃F',K F'/\St w0 M S0 N F' a w
 | [],F,b,c=>⟨F,b,c⟩
 | f::l,F,b,c=>by
  unfold yl at b;cases d:F t with
  | Y k j=>
   rw[d]at b;obtain⟨o,e,g,i⟩:=Nw.out b;obtain⟨S,φ,h⟩:=c;exact D7 i (h.fzCell d g)
  | _=>grind
def Vp(mo:List (Nat × List Nat))(id:Nat)(K:(Nat->AV)->Prop)(F:Nat->AV):Prop:=
 match Rk mo (id+2000000) with
 | some l=>(match l with
   | t::offs=>yl t offs K F
   | []=>K F)
 | none=>K F
theorem Z5{w0:World}{M S0:am}{a:Act}{mo:List (Nat × List Nat)}{id:Nat}{K:(Nat->AV)->Prop}(b:Vp mo id K F)(c:St w0 M S0 N F a w):∃F',K F'/\St w0 M S0 N F' a w:=by grind [D7,Vp]
def lay:List (Nat × AV)->Nat->AV
 | [],_=>.dead
 | p::l,t=>bif Nat.beq t p.1 then p.2 else lay l t
def WW:C->C->Prop
 | _,.x=>True
 | .z,.s .O rows=>rows=[]
 | .z,.s .own rows=>rows=[]
 | .s (.tag _) rows,.s .own rows'=>rows=rows'
 | .z,.s .suf rows=>rows=[]
 | c,a=>c=a
def Tl:List C->List C->Prop
 | [],[]=>True
 | c::cs,a::cs'=>WW c a/\Tl cs cs'
 | _,_=>False
def ZH(F F1:Nat->AV)(t:Nat)(av:AV):Prop:=
 match av with
 | .dead=>True
 | .Y k cs=>(match F t with|.Y k' cs'=>k'=k/\Tl cs' cs|_=>False)
 | .ref t' off st=>F t=.ref t' off st/\F1 t'=F t'
 | .b5 t' off st ag=>F t=.b5 t' off st ag/\F1 t'=F t'
 | .iref r off=>F t=.iref r off
 | .fn f caps=>F t=.fn f caps
 | .fv Ok=>F t=.fv Ok
def WT(F F1:Nat->AV):List (Nat × AV)->Prop
 | []=>True
 | p::l=>ZH F F1 p.1 p.2/\WT F F1 l
def Wk(F:Nat->AV)(L:List (Nat × AV)):Prop:=WT F (lay L) L
def By{F F1:Nat->AV} : ∀{L:List (Nat × AV)},WT F F1 L->∀t,lay L t=.dead\/ZH F F1 t (lay L t)
 | [],_,t=>.inl rfl
 | p::L,h,t=>by
  simp only[lay];cases a:Nat.beq t p.1 with
  | true=>
   have:=v4 a;subst this;exact .inr h.1
  | false=>exact By h.2 t
def fz1(t:Nat)(F:Nat->AV):Nat->AV:=λs=>bif Nat.beq s t then(match F s with|.Y k a=>.Y k (du a)|.dead=>.dead|.ref ..=>.dead|.b5 ..=>.dead|.iref ..=>.dead|.fn ..=>.dead|.fv _=>.dead) else kl t (F s)
def fzA:List Nat->(Nat->AV)->Nat->AV
 | [],F=>F
 | t::ts,F=>fzA ts (fz1 t F)
def a1r(F:Nat->AV)(x:Operand)(K:Bool->Prop):Prop:=NT F x λv=>match v with|.bool b=>K b|_=>False
def YC(K:(Nat->AV)->Prop)(Q:Exit->(Nat->AV)->Prop):Exit->(Nat->AV)->Prop:=λe F=>match e with|.normal=>K F|e=>Q e F
def exB(id:Nat)(Q:Exit->(Nat->AV)->Prop):Exit->(Nat->AV)->Prop:=λe F=>match e with|.exit i=>bif Nat.beq i id then Q .normal F else Q (.exit i) F|e=>Q e F
inductive Nx(ι:Type)(L:ι->List (Nat × AV))(inv:ι->Prop)(μ:ι->Nat)(i:ι)(F:Nat->AV):Prop
 |mk_ (h:∃i',inv i'/\μ i'<μ i/\Wk F (L i'))
variable{ι:Type}
theorem Nx.mk{L:ι->List (Nat × AV)}{inv:ι->Prop}{μ:ι->Nat}{i:ι}(a:ι)(h1:inv a)(h2:μ a<μ i)(b:Wk F (L a)):Nx ι L inv μ i F:=by refine .mk_ ?_;grind
def CQ:type_of% @Nx.mk:=@Nx.mk
def Nx.out{L:ι->List (Nat × AV)}{inv:ι->Prop}{μ:ι->Nat}{i:ι}(h:Nx ι L inv μ i F):∃a,inv a/\μ a<μ i/\Wk F (L a):=by obtain⟨h⟩:=h;exact h
inductive Lp(body:(Exit->(Nat->AV)->Prop)->(Nat->AV)->Prop)(Q:Exit->(Nat->AV)->Prop)(F:Nat->AV):Prop
 |mk_ (h:∃(ts:List Nat)(ι:Type)(L:ι->List (Nat × AV))(inv:ι->Prop)(μ:ι->Nat)(i0:ι),Wk (fzA ts F) (L i0)/\inv i0/\∀i,inv i->body (YC (Nx ι L inv μ i) Q) (lay (L i)))
variable{Q:Exit->(Nat->AV)->Prop}{body:(Exit->(Nat->AV)->Prop)->(Nat->AV)->Prop}
def Lp.mk(L:ι->List (Nat × AV))(inv:ι->Prop)(μ:ι->Nat)(a:ι)(b:Wk F (L a))(h1:inv a)(h2:∀i,inv i->body (YC (Nx ι L inv μ i) Q) (lay (L i))):Lp body Q F:=by refine .mk_ ?_;exact⟨[],ι,L,inv,μ,a,b,h1,h2⟩
def CV:type_of% @Lp.mk:=@Lp.mk
def Lp.fz(t:Nat)(L:ι->List (Nat × AV))(inv:ι->Prop)(μ:ι->Nat)(a:ι)(b:Wk (fz1 t F) (L a))(h1:inv a)(h2:∀i,inv i->body (YC (Nx ι L inv μ i) Q) (lay (L i))):Lp body Q F:=by refine .mk_ ?_;exact⟨[t],ι,L,inv,μ,a,b,h1,h2⟩
def Lp.out(h:Lp body Q F):∃(ts:List Nat)(ι:Type)(L:ι->List (Nat × AV))(inv:ι->Prop)(μ:ι->Nat)(a:ι),Wk (fzA ts F) (L a)/\inv a/\∀i,inv i->body (YC (Nx ι L inv μ i) Q) (lay (L i)):=by obtain⟨h⟩:=h;exact h
def aw(P:Program)(TE:Nat->Option TI)(N:gw)(D:Nat->Array Oper->((Nat->AV)->Prop)->(Nat->AV)->Prop):Code->(Exit->(Nat->AV)->Prop)->(Nat->AV)->Prop
 | .skip,Q,F=>Q .normal F
 | .region id ops draw,Q,F=>bif draw then D id ops (Q .normal) F else Vp N.mo id (Tk P TE N ops ops.toList (Q .normal)) F
 | .seq x y,Q,F=>aw P TE N D x (YC (aw P TE N D y Q) Q) F
 | .cond c x y,Q,F=>a1r F c λb=>Bf b (aw P TE N D x Q F) (aw P TE N D y Q F)
 | .block id c,Q,F=>aw P TE N D c (exB id Q) F
 | .loop c,Q,F=>Lp (aw P TE N D c) Q F
 | .exit id,Q,F=>Q (.exit id) F
 | .ret,Q,F=>Q .ret F
 | _,_,_=>False
section
variable{P:Program}{w0 w w1:World}{M S0 S:am}{N:gw}{φ:Nat->am}{F:Nat->AV}{a:Act}{TE:Nat->Option TI}
theorem Xj{Y:am}{c r:C}{v:Value}(e:WW c r)(h:dw w S Y c v):dw w S Y r v:=by
 unfold WW at e;split at e
 ·exact .x _ _ h.one
 ·subst e
  obtain⟨b,rfl⟩:=zz h;exact .nil _ _ _ tV1
 ·subst e
  obtain⟨b,rfl⟩:=zz h;exact .nil _ _ _ tV1
 ·subst e
  rename_i t d;generalize i:C.s (.tag t) d=c0 at h;cases h with
  | nil F o a q=>cases i;exact .nil _ _ _ tV1
  | O=>cases i
  | own F o g k n j d u f q y A l p B D E G e=>cases i;exact .own _ .own g k n j d u f tV1 y A l p B D E G e
  | suf F o g H k n j d u f q=>cases i;exact q.elim
  | _=>cases i
 ·subst e
  obtain⟨b,rfl⟩:=zz h;exact .nil _ _ _ tV1
 grind
theorem xz:∀{cs a:List C},Tl cs a->cs.length=a.length/\∀(j:Nat)(b:C),a[j]? = some b->∃c,cs[j]? = some c/\WW c b
 | [],[],_=>(ψ)
 | c::cs,b::a,h=>by
  obtain⟨e,f⟩:=xz h.2;refine⟨by simp[e],λj y d=>?_⟩;cases j with
  | zero=>simp at d;subst d;exact⟨c,rfl,h.1⟩
  | succ j=>grind
 | [],_::_,h=>h.elim
 | _::_,[],h=>h.elim
theorem HN{Y:am}{cs a:List C}{u:Nat->Value}(b:Tl cs a)(h:cD w S Y cs u):cD w S Y a u:=by
 obtain⟨d,e⟩:=xz b;obtain⟨f,g,i,k⟩:=h;exact⟨f,λj c l=>by grind [Xj],ψ,ψ⟩
theorem St.weaken{L:List (Nat × AV)}(h:St w0 M S0 N F a w)(q:Wk F L):St w0 M S0 N (lay L) a w:=by
 obtain⟨S,φ,h⟩:=h;refine⟨S,φ,λt=>?_,h.dis,h.disS,h.ex,h.sub,h.sup,h.old,h.size,h.defers,h.par⟩;rcases By q t with b|b
 ·rw[b];trivial
 have d:=h.slot t;cases c:lay L t with
 | dead=>trivial
 | Y k n=>
  rw[c]at b;simp only[ZH]at b;split at b
  case h_2=>exact b.elim
  rename_i G u y;obtain⟨rfl,p⟩:=b;rw[y]at d;obtain⟨A,Y,i,l,B,H,C⟩:=d;exact⟨A,Y,i,l,B,by grind [xz],HN p C⟩
 | ref D e E=>
  rw[c]at b;rw[b.1]at d;obtain⟨k,n,r,j,g,o,i,l⟩:=d;exact⟨k,n,r,j,g,o,by rw[b.2];exact i,l⟩
 | b5 D e E J=>
  rw[c]at b;rw[b.1]at d;obtain⟨k,n,r,j,i,l⟩:=d;exact⟨k,n,r,j,by rw[b.2];exact i,l⟩
 | iref r e=>
  rw[c]at b;have b:F t=.iref r e:=b;rw[b]at d;exact d
 | fn f caps=>
  rw[c]at b;have b:F t=.fn f caps:=b;rw[b]at d;exact d
 | fv Ok=>
  rw[c]at b;have b:F t=.fv Ok:=b;rw[b]at d;exact d
theorem St.fz1(h:St w0 M S0 N F a w)(t:Nat):St w0 M S0 N (Ab.fz1 t F) a w:=by
 obtain⟨S,φ,h⟩:=h;have p:∀{s},s≠t->Ab.fz1 t F s=kl t (F s):=fun {s} e=>by
  have:Nat.beq s t=false:=by grind [Nat.beq_eq]
  simp[Ab.fz1,this]
 have q:∀(r:am),(∀b o,S b o->r b o)->∀s,s≠t->cZ w r (Ab.fz1 t F) (tvs a) (φ s) (Ab.fz1 t F s) (tvs a s):=λr j s e=>by
  rw[p e,G4];cases L:(F s).uses t with
  | true=>trivial
  | false=>
   simp only[cond_false];refine(h.slot s).keep (φ:=φ) (λt _ _ _=>h.slot t) (λC D=>?_) (λ_ _ _=>⟨rfl,rfl⟩) (λ_ _ _=>⟨rfl,rfl⟩) (λ_ _ h=>h) j;have E:C≠t:=ψ
   exact⟨λk l O=>by grind [Kq],rfl,λ_ _ _=>⟨rfl,rfl⟩⟩
 have u:(∀k l,F t≠.Y k l)->St w0 M S0 N (Ab.fz1 t F) a w:=λE=>by
  refine⟨S,λs=>if s=t then NO else φ s,λs=>?_,λs i g b o c d=>?_,λs b o c=>?_,λs b o c=>?_,h.sub,h.sup,h.old,h.size,h.defers,h.par⟩
  ·by_cases e:s=t
   ·subst e
    have:Ab.fz1 s F s=.dead:=by
     unfold Ab.fz1
     grind [Nat.beq_refl]
    rw[this];trivial
   grind
  ·split at c
   ·exact c.elim
   split at d
   ·exact d.elim
   exact h.dis s i g b o c d
  ·split at c
   ·exact c.elim
   exact h.disS s b o c
  split at c
  ·exact c.elim
  exact h.ex s b o c
 cases G:F t with
 | Y k l=>
  have e:=h.slot t;rw[G]at e;obtain⟨B,Y,n,y,H,P,J⟩:=e;have A:Ab.fz1 t F t=.Y k (du l):=by
   unfold Ab.fz1
   simp_all
  refine⟨λb o=>S b o\/Y b o,λs=>if s=t then B else φ s,λs=>?_,λs i g b o c d=>?_,λs b o c j=>?_,λs b o c=>?_,λb o c=>.inl (h.sub b o c),λb o c=>?_,h.old,h.size,h.defers,h.par⟩
  ·by_cases e:s=t
   ·subst e
    rw[A,CK rfl];exact⟨B,NO,λ_ _ h=>h,λ_ _ h=>h.elim,λ_ _ _ h=>h,by grind [cf],J.freeze⟩
   grind
  ·by_cases e:s=t
   ·rw[CK e]at c
    by_cases f:i=t
    ·omega
    rw[CJ f]at d;exact h.dis t i (Ne.symm f) b o (n b o c) d
   rw[CJ e]at c;by_cases f:i=t
   ·rw[CK f]at d;exact h.dis s t e b o c (n b o d)
   rw[CJ f]at d;exact h.dis s i g b o c d
  ·by_cases e:s=t
   ·rw[CK e]at c
    exact j.elim (h.disS t b o (n b o c)) (H b o c)
   rw[CJ e]at c;exact j.elim (h.disS s b o c) λK=>h.dis s t e b o c (y b o K)
  ·split at c
   ·exact h.ex t b o (n b o c)
   exact h.ex s b o c
  rcases c with c|c
  ·exact h.sup b o c
  exact⟨(h.ex t b o (y b o c)).1,.inr (h.ex t b o (y b o c)).2⟩
 | _=>grind
def St.fzA:∀(ts:List Nat){F:Nat->AV},St w0 M S0 N F a w->St w0 M S0 N (Ab.fzA ts F) a w
 | [],_,h=>h
 | t::ts,_,h=>St.fzA ts (h.fz1 t)
def iJ(a:Nat->Array Oper->Bool):Code->Bool
 | .region id ops draw=>bif draw then a id ops else true
 | .seq x y=>iJ a x&&iJ a y
 | .cond _ x y=>iJ a x&&iJ a y
 | .block _ c=>iJ a c
 | .loop c=>iJ a c
 | _=>true
def BL(P:Program)(N:gw)(e:Nat->Array Oper->Bool)(D:Nat->Array Oper->((Nat->AV)->Prop)->(Nat->AV)->Prop):Prop:=
 ∀(id:Nat)(ops:Array Oper),e id ops=true->∀(K:(Nat->AV)->Prop)(w0:World)(M S0:am)(F:Nat->AV)(a:Act)(w:World)(Q:Exit->Act->World->Prop),D id ops K F->St w0 M S0 N F a w->(∀b c d,K b->St w0 M S0 N b c d->Q .normal c d)->(Code.region id ops true).wp P Q a w
theorem kP(k:∀t i,TE t=some i->j7 P t i){D:Nat->Array Oper->((Nat->AV)->Prop)->(Nat->AV)->Prop}{B:Nat->Array Oper->Bool}(q:BL P N B D):∀(c:Code),iJ B c=true->∀(QA:Exit->(Nat->AV)->Prop)(Q:Exit->Act->World->Prop)(F:Nat->AV)(a:Act)(w:World),
  aw P TE N D c QA F->St w0 M S0 N F a w->(∀e F' o p,QA e F'->St w0 M S0 N F' o p->Q e o p)->c.wp P Q a w
 | .skip,_,QA,Q,F,a,w,d,f,g=>wp_skip (g _ _ _ _ d f)
 | .region id ops draw,l,QA,Q,F,a,w,d,f,g=>by
  cases draw with
  | false=>
   obtain⟨W,H,J⟩:=Z5 d f
   grind [Go.wp_region_list,Ms]
  | true=>exact q id ops l _ w0 M S0 F a w Q d f ψ
 | .seq x y,l,QA,Q,F,a,w,d,f,g=>by
  simp only[iJ,I0]at l;refine wp_seq (kP k q x l.1 _ _ F a w d f λe F' o p r j=>?_);cases e with
  | normal=>exact kP k q y l.2 QA Q F' o p r j g
  | _=>exact g _ F' o p r j
 | .cond c x y,u,QA,Q,F,a,w,d,⟨S,φ,h⟩,g=>by
  simp only[iJ,I0]at u;obtain⟨l,-⟩:=h.scalar d;cases C:a.eval c<;>rw[C]at l<;>try exact l.elim
  rename_i b;exact wp_cond_split C (λK=>kP k q x u.1 QA Q F a w (by grind [Bf.out]) ⟨S,φ,h⟩ g) (λK=>kP k q y u.2 QA Q F a w (by grind [Bf.out]) ⟨S,φ,h⟩ g)
 | .block id c,l,QA,Q,F,a,w,d,f,g=>by
  refine wp_block (kP k q c l _ _ F a w d f λe F' o p r j=>?_);cases e with
  | exit i=>
   grind [Nat.beq_eq,exB,Go.Exit.inBlock]
  | _=>exact g _ F' o p r j
 | .loop c,l,QA,Q,F,a,w,d,f,g=>by
  obtain⟨O,ι,L,inv,μ,E,R,A,hround⟩:=Lp.out d;refine wp_loop_ghost (λn a w=>∃i,μ i=n/\inv i/\St w0 M S0 N (lay (L i)) a w) (μ E) ⟨E,rfl,A,(f.fzA O).weaken R⟩ λn a w ⟨i,X,T,f⟩=>?_
  refine kP k q c l _ _ (lay (L i)) a w (hround i T) f λe F' o p r j=>?_
  cases e with
  | normal=>
   obtain⟨G,U,Y,V⟩:=Nx.out r;exact⟨μ G,ω,G,rfl,U,j.weaken V⟩
  | _=>exact g _ F' o p r j
 | .exit id,_,QA,Q,F,a,w,d,f,g=>wp_exit (g _ _ _ _ d f)
 | .ret,_,QA,Q,F,a,w,d,f,g=>wp_ret (g _ _ _ _ d f)
 | .rangeFunc ..,_,_,_,_,_,_,d,_,_=>d.elim
 | .scope _,_,_,_,_,_,_,d,_,_=>d.elim
 | .label _,_,_,_,_,_,_,d,_,_=>d.elim
 | .goto _,_,_,_,_,_,_,d,_,_=>d.elim
 | .refuse _,_,_,_,_,_,_,d,_,_=>d.elim
end
section
variable{F:Nat->AV}{K:AV->Prop}{TE:Nat->Option TI}{P:Program}
theorem Ux{g:BinOp}{x y:Value}{K e:Value->Prop}(h:JM g x y K)(n:∀v,K v->e v):JM g x y e:=by
 cases x<;>cases y<;>try exact h.elim
 rename_i k a o b;have c:∀{X Y:Prop},(bif jI k o then X else False)->(X->Y)->(bif jI k o then Y else False):=ψ
 have d:∀{k:IntKind}{x:Int},Wr k x (λz=>K (.int k z))->Wr k x (λz=>e (.int k z)):=λh=>by
  obtain⟨z,i,j⟩:=h.out;exact CT i (n _ j)
 have q:∀{k:IntKind}{x:Int},Ev x (λz=>K (.int k z))->Ev x (λz=>e (.int k z)):=λh=>by
  obtain⟨z,i,j⟩:=h.out;exact CY i (n _ j)
 have f:∀{p X Y:Prop},Cd p X->(X->Y)->Cd p Y:=λh l=>CU h.out.1 (l h.out.2)
 cases g<;>simp only[JM]at h |-
 case add=>exact c h d
 case sub=>exact c h d
 case mul=>exact c h d
 case quo=>exact c h λh=>f h d
 case rem=>exact c h λh=>f h q
 case and=>exact c h d
 case or=>exact c h d
 case xor=>exact c h d
 case andNot=>exact c h d
 case shl=>exact f h d
 case shr=>exact f h q
 all_goals grind
theorem Wc{f:BinOp}{x y:Value}{K:Value->Prop}(h:JM f x y K):∃v,K v/\JM f x y (· = v):=by
 cases x<;>cases y<;>try exact h.elim
 rename_i k a g b;have e:∀{X:Prop},(bif jI k g then X else False)->X/\∀Y:Prop,Y->(bif jI k g then Y else False):=ψ
 cases f<;>simp only[JM]at h |-
 case add=>obtain⟨h,b⟩:=e h;obtain⟨z,c,d⟩:=h.out;exact⟨_,d,b _ (CT c rfl)⟩
 case sub=>obtain⟨h,b⟩:=e h;obtain⟨z,c,d⟩:=h.out;exact⟨_,d,b _ (CT c rfl)⟩
 case mul=>obtain⟨h,b⟩:=e h;obtain⟨z,c,d⟩:=h.out;exact⟨_,d,b _ (CT c rfl)⟩
 case quo=>obtain⟨h,b⟩:=e h;obtain⟨z,c,d⟩:=h.out.2.out;exact⟨_,d,b _ (CU h.out.1 (CT c rfl))⟩
 case rem=>obtain⟨h,b⟩:=e h;obtain⟨z,c,d⟩:=h.out.2.out;exact⟨_,d,b _ (CU h.out.1 (CY c rfl))⟩
 case and=>obtain⟨h,b⟩:=e h;obtain⟨z,c,d⟩:=h.out;exact⟨_,d,b _ (CT c rfl)⟩
 case or=>obtain⟨h,b⟩:=e h;obtain⟨z,c,d⟩:=h.out;exact⟨_,d,b _ (CT c rfl)⟩
 case xor=>obtain⟨h,b⟩:=e h;obtain⟨z,c,d⟩:=h.out;exact⟨_,d,b _ (CT c rfl)⟩
 case andNot=>obtain⟨h,b⟩:=e h;obtain⟨z,c,d⟩:=h.out;exact⟨_,d,b _ (CT c rfl)⟩
 case shl=>obtain⟨z,c,d⟩:=h.out.2.out;exact⟨_,d,CU h.out.1 (CT c rfl)⟩
 case shr=>obtain⟨z,c,d⟩:=h.out.2.out;exact⟨_,d,CU h.out.1 (CY c rfl)⟩
 all_goals grind
variable{T:Nat}
theorem UQ{b:BinOp}{x y:Value}{K:Value->Prop}(h:MY TE b T x y K):∃v,K v/\∀a:Value->Prop,a v->MY TE b T x y a:=by
 unfold MY at h;split at h
 ·grind [MY]
 ·cases b<;>simp only at h<;>try exact h.elim
  case add=>obtain⟨d,e⟩:=h.out;obtain⟨z,f,g⟩:=e.out;exact⟨_,g,λa c=>CU d (Es.mk f c)⟩
  all_goals exact⟨_,h,λa c=>c⟩
 grind [Wc,Ux,MY]
def Wh{a:UnOp}{x:Value}{K b:Value->Prop}(h:Xq a x K)(c:∀v,K v->b v):Xq a x b:=by
 unfold Xq at h |-;split at h
 ·exact c _ h
 ·obtain⟨z,d,e⟩:=Wr.out h;exact CT d (c _ e)
 exact h.elim
def Y3{a:UnOp}{x:Value}{K:Value->Prop}(h:Xq a x K):∃v,K v/\Xq a x (· = v):=by
 unfold Xq at h;split at h
 ·exact⟨_,h,rfl⟩
 ·obtain⟨z,b,c⟩:=Wr.out h;exact⟨_,c,CT b rfl⟩
 exact h.elim
variable{x y:Operand}
theorem Wg{c:Operand}(h:RB F c x y K):sX (λF K=>RB F c x y K) F (tm c++tm x++tm y) K:=by
 obtain⟨z,f,p⟩:=kD h;cases z with
 | bool b=>
  cases b with
  | true=>
   obtain⟨g,i,j,k⟩:=my (Bf.out f);refine⟨g,i,λd l=>(j d l).imp ψ ψ,λa e n o=>p a (e.mono (by simp +contextual)) _ (Bf.in_ (k a (e.mono (by simp +contextual)) n o))⟩
  | false=>
   obtain⟨g,i,j,k⟩:=my (Bf.out f);refine⟨g,i,λd l=>(j d l).imp ψ ψ,λa e n o=>p a (e.mono (by simp +contextual)) _ (Bf.in_ (k a (e.mono (by simp +contextual)) n o))⟩
 | _=>exact f.elim
theorem Yn(h:XQ F x K):sX (λF K=>XQ F x K) F (tm x) K:=by
 obtain⟨i,c,a,d⟩:=cJ h;cases b:b6 c with
 | false=>grind
 | true=>rw[b]at a;exact⟨_,a,Ca _ _ _ _,λe f j g=>d e f _ (by rw[b];exact g)⟩
theorem KR{i:Nat}(h:mn F x i K):sX (λF K=>mn F x i K) F (tm x) K:=by
 cases x with
 | tmp t=>
  have b:t∈tm (.tmp t):=by simp[tm]
  simp only[mn]at h;cases c:F t with
  | Y k l=>
   rw[c]at h;cases k with
   | tup n=>
    simp only at h;cases e:H9 n i with
    | none=>grind
    | some p=>
     rw[e]at h;simp only at h;cases a:b6 (bU l p.1 (p.2.getD 1)) with
     | true=>rw[a]at h;exact⟨_,h,Ca _ _ _ _,λo f q g=>by simp only[mn,(f t b).1,c,e,a,cond_true];exact g⟩
     | false=>rw[a]at h;exact⟨_,h,λd j=>.inl (by simp[AV.uses]at j;subst j;exact b),λo f q g=>by simp only[mn,(f t b).1,c,e,a,cond_false];exact g⟩
   | _=>exact h.elim
  | _=>grind
 | _=>exact h.elim
theorem XZ(h:Qh TE F T x K):sX (λF K=>Qh TE F T x K) F (tm x) K:=by
 unfold Qh at h;unfold sX Qh;split at h
 ·obtain⟨f,g,a,b⟩:=cJ h
  match f,g,a with
  | none,[.s o rows],a=>exact⟨_,Ln.out a,Ca _ _ _ _,λc d i e=>b c d _ (Cc rfl e)⟩
  | none,[.z],a=>exact⟨_,a,Ca _ _ _ _,ψ⟩
 ·obtain⟨z,a,b⟩:=kD h
  cases z with
  | string s=>exact⟨_,Ln.out a,Ca _ _ _ _,λc d i e=>b c d _ (Cc rfl e)⟩
  | _=>exact a.elim
 exact h.elim
theorem XG(h:Ps TE F T x K):sX (λF K=>Ps TE F T x K) F (tm x) K:=by
 unfold Ps at h;unfold sX Ps;split at h
 all_goals grind [cJ,Nn.out,Ca]
theorem X5{d:BinOp}(h:PL P F d T x y K):sX (λF K=>PL P F d T x y K) F (tm x++tm y) K:=by
 unfold PL at h;unfold sX PL;obtain⟨g,q,i,j⟩:=cJ h;obtain⟨ag2,ds,a,b⟩:=cJ i
 match g,ag2,a with
 | some n,some m,c=>
  obtain⟨t,k,u⟩:=u7 c;obtain⟨w,l,A⟩:=u7 k;obtain⟨r,B,o⟩:=l.out;exact⟨_,o,Ca _ _ _ _,λe f C p=>j e (f.mono ψ) _ (b e (f.mono ψ) _ (by grind [UT,ZM.mk]))⟩
variable{F':Nat->AV}
theorem GC(a:jz F F' (tm x)):isAgg F' x=isAgg F x:=by
 cases x with
 | tmp t=>unfold isAgg;simp only;rw[(a t (by simp[tm])).1]
 | _=>rfl
def tms(xs:List Operand):List Nat:=xs.flatMap tm
variable{k:Bool->RA->Prop}
theorem VI(h:argV F x k):∃b A,k b A/\∀F':Nat->AV,jz F F' (tm x)->∀c:Bool->RA->Prop,c b A->argV F' x c:=by
 have key:∀F':Nat->AV,jz F F' (tm x)->qZ F' x=qZ F x:=λF' l=>l.ev
 have n:∀i,qZ F x=i->jU F i (FL k)->(∀F' c,qZ F' x=i->(argV F' x c=jU F' i (FL c)))->∃b A,k b A/\∀F':Nat->AV,jz F F' (tm x)->∀c:Bool->RA->Prop,c b A->argV F' x c:=λi a y B=>by grind [cJ,FL]
 have d:=h;unfold argV at d;cases a:qZ F x with
 | Y p o=>
  rw[a]at d;cases p with
  | box=>grind [argV]
  | one=>exact n _ a d λF' c e=>by unfold argV;rw[e];rfl
  | agg=>exact n _ a d λF' c e=>by unfold argV;rw[e];rfl
  | tup C=>exact d.elim
 | b5 t j q D=>grind [argV]
 | ref t j q=>
  rw[a]at d;simp only at d;split at d
  ·rename_i o u
   refine⟨false,_,d,λF' l c w=>?_⟩;unfold argV;rw[key F' l,a];have:F' t=.Y .box o:=by
    cases x with
    | tmp s=>exact(l s (by simp[tm])).2 t (by show AV.uses t (F s)=true;rw[show F s=_ from a];simp[AV.uses]) _ _ u
    | const v=>simp only[qZ]at a;have:=pw v t;rw[a]at this;simp[AV.uses]at this
    | global g=>cases a
    | func f=>cases a
   grind
  exact d.elim
 | iref r j=>
  grind [argV]
 | fv Ok=>grind [argV]
 | fn f caps=>grind
 | dead=>grind
theorem tw:∀{cs:List Nat}{k:List RA->Prop},qH F cs k->∃D,k D/\∀F':Nat->AV,(∀t,t∈cs->∀a xs,F t=.Y a xs->F' t=.Y a xs)->∀b:List RA->Prop,b D->qH F' cs b
 | [],k,h=>⟨[],h,λ_ _ _ h=>h⟩
 | c::cs,k,h=>by
  simp only[qH]at h;split at h
  ·rename_i xs d
   obtain⟨D,e,f⟩:=tw h
   grind [qH]
  ·rename_i xs d
   obtain⟨D,e,f⟩:=tw h
   grind [qH]
  ·rename_i xs d
   obtain⟨D,e,f⟩:=tw h
   grind [qH]
  exact h.elim
variable{ts:List Nat}
theorem R8{t:Nat}{f:FuncId}{caps:List Nat}(b:jz F F' ts)(d:t∈ts)(e:F t=.fn f caps):∀c,c∈caps->∀a xs,F c=.Y a xs->F' c=.Y a xs:=λc g a xs h=>
 (b t d).2 c (by grind [Nat.beq_refl,AV.uses]) a xs h
theorem Vu(h:argA P F x k):∃b A,k b A/\∀F':Nat->AV,jz F F' (tm x)->∀d:Bool->RA->Prop,d b A->argA P F' x d:=by
 have e:=h;unfold argA at e;split at e
 ·rename_i f caps a
  obtain⟨D,l,n⟩:=tw e;obtain⟨Q,o,p,q⟩:=l;refine⟨false,_,q,λF' j d i=>?_⟩;unfold argA;rw[j.ev,a];refine n F' ?_ _ ⟨Q,o,p,i⟩;cases x with
  | tmp s=>exact R8 j (t:=s) (by simp[tm]) a
  | const v=>
   intro c r;simp only[qZ]at a;have:=pw v c
   grind [Nat.beq_refl,AV.uses]
  | global g=>cases a
  | func f=>cases a;grind
 grind [VI,jz.ev,argA]
theorem ES:∀{xs:List Operand}{k:Bool->List RA->Prop},GB P F xs k->∃b A,k b A/\∀F':Nat->AV,jz F F' (tms xs)->∀c:Bool->List RA->Prop,c b A->GB P F' xs c
 | [],k,h=>⟨true,[],h,λ_ _ _ h=>h⟩
 | x::xs,k,h=>by
  obtain⟨l,A,d,g⟩:=Vu h;obtain⟨b,As,d,e⟩:=ES d;have i:∀{F':Nat->AV},jz F F' (tms (x::xs))->jz F F' (tm x):=λa=>a.mono (by grind [tms])
  have j:∀{F':Nat->AV},jz F F' (tms (x::xs))->jz F F' (tms xs):=λa=>a.mono (λt n=>by grind [tms])
  exact⟨_,_,d,λF' a c f=>g F' (i a) _ (e F' (j a) _ f)⟩
theorem GO:∀{xs:List Operand}{k:List (Option Nat × List C)->Prop},argsV F xs k->∃L,k L/\∀F':Nat->AV,jz F F' (tms xs)->∀b:List (Option Nat × List C)->Prop,b L->argsV F' xs b
 | [],k,h=>⟨[],h,λ_ _ _ h=>h⟩
 | x::xs,k,h=>by
  obtain⟨j,l,c,f⟩:=cJ h;obtain⟨L,c,d⟩:=GO c;have g:∀{F':Nat->AV},jz F F' (tms (x::xs))->jz F F' (tm x):=λa=>a.mono (by grind [tms])
  have i:∀{F':Nat->AV},jz F F' (tms (x::xs))->jz F F' (tms xs):=λa=>a.mono (λt n=>by grind [tms])
  exact⟨_,c,λF' a b e=>f F' (g a) _ (d F' (i a) _ e)⟩
variable{xs:List Operand}
theorem U7{f:Nat}(h:Rp P F f xs K):sX (λF K=>Rp P F f xs K) F (tms xs) K:=by
 obtain⟨b,A,a,c⟩:=ES h;obtain⟨i,k,rcs,j,l,d⟩:=a.out;exact⟨_,d,Ca _ _ _ _,λe g n o=>c e g _ (.mk_ ψ)⟩
theorem U5{t:Nat}(h:qm P F t xs K):sX (λF K=>qm P F t xs K) F (t::tms xs) K:=by
 have d:=h;unfold qm at d;split at d
 ·rename_i f caps g
  obtain⟨b,A,e,i⟩:=ES d;obtain⟨D,e,j⟩:=tw e;obtain⟨r,k,rcs,o,p,l⟩:=e.out;refine⟨_,l,Ca _ _ _ _,λa c n q=>?_⟩;show qm P a t xs n;unfold qm;rw[(c t ψ).1,g];exact i a (c.mono ψ) _ (j a (R8 c ψ g) _ (.mk_ ψ))
 ·rename_i Ok g
  obtain⟨L,e,i⟩:=GO d;obtain⟨Q,k,rcs,o,p,l⟩:=e;refine⟨_,l,Ca _ _ _ _,λa c n q=>?_⟩;show qm P a t xs n;unfold qm;rw[(c t ψ).1,g];exact i a (c.mono ψ) _ ⟨Q,k,rcs,o,p,q⟩
 exact d.elim
theorem iP{k:Nat->TI->Prop}(h:N5 TE T k):∃e a,k e a/\∀b:Nat->TI->Prop,b e a->N5 TE T b:=by
 unfold N5 at h
 grind [N5]
def nA{k:Int->Prop}(h:F6 F x k):∃n,k n/\∀F':Nat->AV,jz F F' (tm x)->∀a:Int->Prop,a n->F6 F' x a:=by
 obtain⟨z,b,c⟩:=kD h;cases z with
 | int f n=>exact⟨n,b,λF' d a e=>c F' d _ e⟩
 | _=>exact b.elim
def otm(x:Option Operand):List Nat:=x.toList.flatMap tm
theorem Q3{x:Option Operand}{k:Option Int->Prop}(h:VD F x k):∃n,k n/\∀F':Nat->AV,jz F F' (otm x)->∀a:Option Int->Prop,a n->VD F' x a:=by
 cases x with
 | none=>exact⟨none,h,λ_ _ _ b=>b⟩
 | some x=>
  obtain⟨n,c,d⟩:=nA h;exact⟨some n,c,λF' e a b=>d F' (e.mono (by grind [otm])) _ b⟩
theorem yU{c:Nat->Option (Nat × Nat)} : ∀{parts:List (Nat × Operand)}{cs:List C}{k:List C->Prop},fillP F c parts cs k->∃a,k a/\∀F':Nat->AV,jz F F' (tms (parts.map (·.2)))->∀d:List C->Prop,d a->fillP F' c parts cs d
 | [],cs,k,h=>⟨cs,h,λ_ _ _ h=>h⟩
 | p::rest,cs,k,h=>by
  simp only[fillP]at h;split at h
  case h_2=>exact h.elim
  rename_i q i;obtain⟨j,xs,b,l⟩:=cJ h;cases e:(b6 xs&&Nat.beq xs.length q.2&&Nat.ble (q.1+q.2) cs.length) with
  | false=>grind
  | true=>
   rw[e]at b;simp only[cond_true,dS]at b;obtain⟨a,f,g⟩:=yU b
   grind [jz.mono,dS,fillP,tms]
variable{parts:List (Nat × Operand)}
theorem Ur(h:zt TE F T parts K):sX (λF K=>zt TE F T parts K) F (tms (parts.map (·.2))) K:=by grind [yU,Ca,zt,sX]
theorem PR{n:Nat}(h:Bb TE F T n parts K):sX (λF K=>Bb TE F T n parts K) F (tms (parts.map (·.2))) K:=by
 obtain⟨e,g,a,c⟩:=iP h;cases d:Nat.ble (n*g.size) 16777216 with
 | false=>grind
 | true=>
  rw[d]at a;simp only[cond_true]at a;split at a
  ·exact⟨_,a,Ca _ _ _ _,λi j k f=>c _ (by rw[d];exact f)⟩
  ·rw[dS]at a
   obtain⟨l,b,o⟩:=yU a;rw[tf]at b;exact⟨_,b,Ca _ _ _ _,λi j k f=>c _ (by grind [dS,tf])⟩
  exact a.elim
theorem Vo(h:QZ TE F T x y K):sX (λF K=>QZ TE F T x y K) F (tm x++tm y) K:=by
 obtain⟨e,r,a,g⟩:=iP h;obtain⟨j,k,a,i⟩:=cJ a
 match j,k,a with
 | none,[.z],a=>
  obtain⟨ag2,cs2,a,b⟩:=cJ a
  match ag2,cs2,a with
  | none,[.s o rows],a=>
   obtain⟨l,n,p,a⟩:=a.out;exact⟨_,a,Ca _ _ _ _,λc d q f=>g _ (i c (d.mono (by simp +contextual)) _ (b c (d.mono (by simp +contextual)) _ (Fl.mk l n p f)))⟩
  | none,[.z],a=>
   exact⟨_,a,Ca _ _ _ _,λc d q f=>g _ (i c (d.mono (by simp +contextual)) _ (b c (d.mono (by simp +contextual)) _ f))⟩
def Wb(h:R7 TE F T x y K):sX (λF K=>R7 TE F T x y K) F (tm x++tm y) K:=by
 obtain⟨e,r,a,g⟩:=iP h;obtain⟨l,a,i⟩:=nA a;obtain⟨c,a,b⟩:=nA a;obtain⟨n,j,k,o,p,a⟩:=a.out;exact⟨_,a,Ca _ _ _ _,λd f t q=>g _ (i d (f.mono (by simp +contextual)) _ (b d (f.mono (by simp +contextual)) _ (Mk.mk n j k o p rfl q)))⟩
def VY{ok:Bool}(h:DH TE F T x y ok K):sX (λF K=>DH TE F T x y ok K) F (tm x++tm y) K:=by
 unfold DH at h;split at h
 case h_2=>exact h.elim
 rename_i i;cases ok with
 | true=>exact h.elim
 | false=>
  simp only[cond_false]at h;obtain⟨j,k,b,c⟩:=cJ h
  match j,k,b,c with
  | none,[.m es],b,c=>
   obtain⟨v,d,a⟩:=kD b
   match v,d,a with
   | .int .i64 z,d,a=>
    refine⟨_,d.out,Ca _ _ _ _,λf g l e=>?_⟩;simp only[DH,i,cond_false];exact c f (g.mono (by simp +contextual)) _ (a f (g.mono (by simp +contextual)) _ (Ml.mk rfl e))
def RM{lo j:Option Operand}(h:HW TE F T x lo j K):sX (λF K=>HW TE F T x lo j K) F (tm x++otm lo++otm j) K:=by
 obtain⟨e,q,b,t⟩:=iP h;obtain⟨l,b,u⟩:=Q3 b;obtain⟨r,b,g⟩:=Q3 b;obtain⟨w,A,b,i⟩:=cJ b;have back:∀(c:List (List C))(k:List (List C)->Prop),Sl c q.size l r k->∃a,k a/\∀n:List (List C)->Prop,n a->Sl c q.size l r n:=λc k h=>by
  obtain⟨x,y,B,D,E,G,H,J⟩:=h.out;exact⟨_,J,λn b=>by refine .mk_ ?_;exact⟨x,y,B,D,E,G,H,_,rfl,b⟩⟩
 match w,A,b with
 | none,[.s .O c],b=>
  obtain⟨a,b,o⟩:=back _ _ b;exact⟨_,b,Ca _ _ _ _,λd f L p=>t _ (u d (f.mono (by simp +contextual)) _ (g d (f.mono (by simp +contextual)) _ (i d (f.mono (by simp +contextual)) _ (o _ p))))⟩
 | none,[.z],b=>
  obtain⟨a,b,o⟩:=back _ _ b;exact⟨_,b,Ca _ _ _ _,λd f L p=>t _ (u d (f.mono (by simp +contextual)) _ (g d (f.mono (by simp +contextual)) _ (i d (f.mono (by simp +contextual)) _ (o _ p))))⟩
theorem PZ{b c:Operand}(h:Xr TE F T x b c K):sX (λF K=>Xr TE F T x b c K) F (tm x) K:=by
 obtain⟨e,q,a,j⟩:=iP h;cases d:YA b&&YA c with
 | false=>grind
 | true=>
  rw[d]at a;obtain⟨l,n,a,k⟩:=cJ a
  match l,n,a with
  | none,[.s o rows],a=>exact⟨_,a,Ca _ _ _ _,λf g p i=>j _ (by rw[d];exact k f g _ i)⟩
  | none,[.z],a=>exact⟨_,a,Ca _ _ _ _,λf g p i=>j _ (by rw[d];exact k f g _ i)⟩
theorem Tn{f:Nat}(h:vY TE F T x f K):sX (λF K=>vY TE F T x f K) F (tm x) K:=by
 unfold vY at h;split at h
 case h_2=>exact h.elim
 rename_i flds g;split at h
 case h_2=>exact h.elim
 rename_i p j;split at h
 case h_2=>exact h.elim
 rename_i i k;obtain⟨c,b,a,l⟩:=cJ h;cases d:(c.isSome&&(i.agg || Nat.beq i.size 1)&&Nat.ble (p.1+i.size) b.length) with
 | false=>grind
 | true=>
  rw[d]at a;simp only[cond_true]at a;cases e:b6 (bU b p.1 i.size) with
  | false=>grind
  | true=>
   rw[e]at a;simp only[cond_true,dS]at a;exact⟨_,a,Ca _ _ _ _,λn o q r=>by grind [dS,vY]⟩
def V6{b c:Nat}(h:E0 TE F b c x K):sX (λF K=>E0 TE F b c x K) F (tm x) K:=by
 unfold E0 at h;split at h
 ·rename_i d e
  obtain⟨n,a,f⟩:=nA h;obtain⟨z,g,a⟩:=a.out;exact⟨_,a,Ca _ _ _ _,λi j l k=>by unfold E0;simp only[d,e];exact f i j _ (CT g k)⟩
 exact h.elim
def VH{c:Bool}(h:aMM c F x y K):sX (λF K=>aMM c F x y K) F (tm x++tm y) K:=by
 obtain⟨z,d,g⟩:=kD h;cases z with
 | int k n=>
  obtain⟨m,a,b⟩:=nA d;obtain⟨z,i,a⟩:=a.out;exact⟨_,a,Ca _ _ _ _,λe f l j=>g e (f.mono (by simp +contextual)) _ (b e (f.mono (by simp +contextual)) _ (CY i j))⟩
 | _=>exact d.elim
theorem fV.mono{a:List Nat}{av:AV}(h:fV F ts av)(b:∀t,t∈ts->t∈a):fV F a av:=λd c=>(h d c).imp (b d) ψ
def sX.mono{p:(Nat->AV)->(AV->Prop)->Prop}{a:List Nat}(h:sX p F ts K)(b:∀t,t∈ts->t∈a):sX p F a K:=by
 obtain⟨c,d,e,f⟩:=h;exact⟨c,d,e.mono b,λg i j k=>f g (i.mono b) j k⟩
def ew(o:Op):List Nat:=o.operands.toList.flatMap tm
theorem mz{o:Op}(h:dJ P TE F o K):sX (λF K=>dJ P TE F o K) F (ew o) K:=by
 cases o with
 | move x=>exact(my h).mono (by grind [ew,Go.Op.operands])
 | assign x=>exact(my h).mono (by grind [ew,Go.Op.operands])
 | nilCheck x=>
  cases x with
  | tmp t=>
   have G:t∈tm (.tmp t):=by simp[tm]
   have key:∀a:Nat->AV,a t=F t->∀b,dJ P TE a (.nilCheck (.tmp t)) b=(match F t with|.ref ..=>bS a (.tmp t) b|.iref ..=>bS a (.tmp t) b|.Y .box _=>bS a (.tmp t) b|_=>False):=λa e b=>by grind [dJ]
   rw[key F rfl]at h;have fin:bS F (.tmp t) K->(∀b (a:Nat->AV),a t=F t->bS a (.tmp t) b->dJ P TE a (.nilCheck (.tmp t)) b)->sX (λF K=>dJ P TE F (.nilCheck (.tmp t)) K) F (ew (.nilCheck (.tmp t))) K:=λR H=>by
    obtain⟨k,p,q,w⟩:=my R;exact⟨k,p,q.mono (by grind [ew,Go.Op.operands]),λa j b g=>H _ a (j t (by grind [ew,Go.Op.operands])).1 (w a (j.mono (by grind [ew,Go.Op.operands])) b g)⟩
   grind
  | _=>exact h.elim
 | load T x=>exact(Vq h).mono (by grind [ew,Go.Op.operands])
 | fieldAddr T x f=>exact(Fs h).mono (by grind [ew,Go.Op.operands])
 | indexAddr T x y=>exact(FG h).mono (by grind [ew,Go.Op.operands])
 | binOp A T x y yT=>
  simp only[dJ]at h;cases J:Eh A y with
  | true=>
   rw[J]at h;obtain⟨k,p,q,w⟩:=XG h;exact⟨k,p,q.mono (by grind [ew,Go.Op.operands]),λa j b g=>by grind [jz.mono,dJ,ew,Go.Op.operands]⟩
  | false=>
   rw[J]at h;have L:∀t,t∈tm x->t∈ew (.binOp A T x y yT):=λt G=>by grind [ew,Go.Op.operands]
   cases M:isAgg F x with
   | true=>
    rw[M]at h;obtain⟨k,p,q,w⟩:=X5 h;exact⟨k,p,q.mono (by grind [ew,Go.Op.operands]),λa j b g=>by grind [GC,jz.mono,dJ,ew,Go.Op.operands]⟩
   | false=>
   rw[M]at h;obtain⟨z,B,C⟩:=kD h;obtain⟨z2,D,S⟩:=kD B;obtain⟨v,E,N⟩:=UQ D;refine⟨_,E,Ca _ _ _ _,λa j b g=>by grind [GC,jz.mono,dJ,ew,Go.Op.operands]⟩
 | unOp A T x=>
  obtain⟨z,B,C⟩:=kD h;obtain⟨v,E,N⟩:=Y3 B;exact⟨_,E,Ca _ _ _ _,λa j b g=>C a (j.mono (by grind [ew,Go.Op.operands])) _ (Wh N ψ)⟩
 | pick c x y=>exact(Wg h).mono (by simp[ew,Op.operands])
 | alloc T=>
  simp only[dJ]at h;unfold Ex at h;split at h
  ·rename_i i U
   exact⟨_,h,Ca _ _ _ _,λa _ b g=>by grind [dJ,Ex]⟩
  exact h.elim
 | box T x=>exact(Yn h).mono (by grind [ew,Go.Op.operands])
 | extract x i=>exact(KR h).mono (by grind [ew,Go.Op.operands])
 | build T V=>exact(Ur h).mono (by grind [ew,Go.Op.operands,tms])
 | buildSlice T n V=>exact(PR h).mono (by grind [ew,Go.Op.operands,tms])
 | makeSlice T x y=>exact(Wb h).mono (by grind [ew,Go.Op.operands])
 | makeMap T r=>
  simp only[dJ,xO]at h |-;split at h
  case h_2=>exact h.elim
  exact⟨_,h,Ca _ _ _ _,ψ⟩
 | lookup T x y ok=>exact(VY h).mono (by grind [ew,Go.Op.operands])
 | slice T x W X Y=>
  cases Y with
  | none=>exact(RM h).mono (by grind [ew,Go.Op.operands,otm])
  | some m=>
   cases W with
   | some _=>exact h.elim
   | none=>
    cases X with
    | none=>exact h.elim
    | some y=>exact(PZ h).mono (by simp +contextual [ew,Op.operands])
 | field T x f=>exact(Tn h).mono (by grind [ew,Go.Op.operands])
 | convert T1 T2 x=>exact(V6 h).mono (by grind [ew,Go.Op.operands])
 | makeFunc fn fs cs=>
  simp only[dJ]at h;split at h
  ·rename_i f Z
   obtain⟨l,g,C⟩:=wn h;refine⟨_,g,λd O=>.inl ?_,λa _ b hK'=>?_⟩
   ·simp only[AV.uses,I7]at O
    obtain⟨c,H,he⟩:=O;have:=v4 he;subst this;simp only[ew,Op.operands,List.mem_flatMap];refine⟨.tmp c,?_,by simp[tm]⟩
    grind
   grind [Ma,dJ]
  exact h.elim
 | call c=>
  obtain⟨callee,args,ts⟩:=c;simp only[dJ]at h;split at h
  ·rename_i f
   exact(U7 h).mono (by grind [ew,Go.Op.operands,Go.Call.operands,tms])
  ·exact(U5 h).mono (λt G=>by grind [ew,Go.Op.operands,Go.Call.operands,tm,tms])
  ·split at h
   ·rename_i x T Q U
    have u:args = #[x]:=ψ
    have e2:ts = #[T]:=ψ
    subst u e2;exact(XZ h).mono (by grind [ew,Go.Op.operands,Go.Call.operands])
   exact h.elim
  ·split at h
   all_goals grind [Vo,ew,Go.Op.operands,Go.Call.operands,dJ]
  ·split at h
   ·rename_i x y Q
    have u:args = #[x,y]:=ψ
    subst u;exact(VH h).mono (by simp[ew,Op.operands,Call.operands])
   exact h.elim
  ·split at h
   ·rename_i x y Q
    have u:args = #[x,y]:=ψ
    subst u;exact(VH h).mono (by simp[ew,Op.operands,Call.operands])
   exact h.elim
  exact h.elim
 | _=>exact h.elim
end
end Go.Proofs.YtcblmfpcekokjaaGreat.Ab
