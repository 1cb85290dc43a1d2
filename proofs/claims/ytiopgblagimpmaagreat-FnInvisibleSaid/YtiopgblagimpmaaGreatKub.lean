/- Calls that only read what they are handed, on abstract frames; all slot-only operations together. No condition. -/
import Derived.Test.YtiopgblagimpmaaGreatKua
import Derived.Deep.LoopGhost
set_option linter.unusedVariables false
set_option linter.defProp false
set_option linter.unusedSimpArgs false
set_option linter.constructorNameAsVariable false
namespace Go.Proofs.YtiopgblagimpmaaGreat.Ab
open Go.RowKit
inductive RA where
 |val (ag:Option Nat) (cs:List C)
 |ptr (cs:List C)
 |fn (Ok:ah->World->Value->Prop)
def nX(w:World)(S:ah):RA->Value->Prop
 | .val ag cs,v=>br w S NO ag cs v
 | .ptr cs,v=>∃g b u,v=.pointer (some ⟨g,b,none⟩)/\(∀d,d<cs.length->S g (b+d)/\cel w g (b+d)=some (u d))/\cK w S NO cs u
 | .fn Ok,v=>∃(S1:ah)(w1:World),(∀b o,S1 b o->S b o)/\bq S1 w1 w/\Ok S1 w1 v
def zR(w:World)(S:ah):List RA->List Value->Prop
 | [],[]=>True
 | A::As,v::vs=>nX w S A v/\zR w S As vs
 | _,_=>False
def LH(P : Program)(f : Nat) : Prop := ∃a, P.funcs[f]? = some a /\ (a.name == "runtime.NumGoroutine") = false /\ a.body.isSome = true
structure ar(P:Program)(f:Nat)(sh:Bool)(A:List RA)(k:Kd)(rcs:List C):Prop where
 has:LH P f
 run:∀(w:World)(S:ah)(vs:List Value),(∀b o,S b o->b<w.heap.size)->zR w S A vs->
  Calls P f vs.toArray w λe w1=>∃v,e=.returned v/\bw NO w w1/\∃X S1:ah,(∀b o,X b o->b<w1.heap.size/\w.heap.size<=b)/\
   (∀b o,S1 b o->(sh=true/\S b o)\/(b<w1.heap.size/\w.heap.size<=b))/\(∀b o,X b o->¬S1 b o)/\fN w1 NO k rcs.length v/\cK w1 S1 X rcs (cn w1 k v)
structure sC(P:Program)(f:Nat)(sh:Bool)(A:List RA)(k:Kd)(rcs:List C):Prop where
 has:LH P f
 run:∀(w:World)(S:ah)(vs:List Value),(∀b o,S b o->b<w.heap.size)->zR w S A vs->
  Calls P f vs.toArray w λe w1=>∃v,e=.returned v/\bw NO w w1/\∃X S1:ah,(∀b o,X b o->b<w1.heap.size/\w.heap.size<=b)/\
   (∀b o,S1 b o->(sh=true/\S b o)\/(b<w1.heap.size/\w.heap.size<=b))/\(∀b o,X b o->¬S1 b o)/\∃X1 Y:ah,(∀b o,X1 b o->X b o)/\(∀b o,Y b o->X b o)/\(∀b o,X1 b o->¬Y b o)/\fN w1 X1 k rcs.length v/\cK w1 S1 Y rcs (cn w1 k v)
variable{rcs:List C}{k:Kd}{A:List RA}{f:Nat}{P:Program}
def ar.toG{sh:Bool}(h:ar P f sh A k rcs):sC P f sh A k rcs:=
 ⟨h.has,λw S a b c=>(h.run w S a b c).mono λ_ _ ⟨v,d,e,X,S1,g,i,j,l,n⟩=>⟨v,d,e,X,S1,g,i,j,NO,X,λ_ _ h=>h.elim,λ_ _ h=>h,λ_ _ h=>h.elim,l,n⟩⟩
def Az(K:Bool->RA->Prop)(ag:Option Nat)(cs:List C):Prop:=bif bp cs then K true (.val ag cs) else K false (.val ag (ed cs))
def argV(F:Nat->AV)(x:Operand)(K:Bool->RA->Prop):Prop:=
 match nM F x with
 | .H .box cs=>K false (.ptr (ed cs))
 | .H .one cs=>Az K none cs
 | .H .agg cs=>Az K (some cs.length) cs
 | .H (.tup _) _=>False
 | .c1 t a b ag=>iN F (.c1 t a b ag) (Az K)
 | .ref t a b=>(match a,b,F t with|0,[],.H .box cs=>K false (.ptr (ed cs))|_,_,_=>False)
 | .iref r a=>bif Nat.beq a 0 then K true (.ptr r) else False
 | .fv Ok=>K true (.fn Ok)
 | .fn _ _=>False
 | .dead=>False
def ny(F:Nat->AV):List Nat->(List RA->Prop)->Prop
 | [],K=>K []
 | c::cs,K=>(match F c with
   | .H .box xs=>ny F cs λD=>K (.ptr (ed xs)::D)
   | .H .one xs=>ny F cs λD=>K (.val none (ed xs)::D)
   | .H .agg xs=>ny F cs λD=>K (.val (some xs.length) (ed xs)::D)
   | _=>False)
def kI(P:Program)(Q:List (Option Nat × List C)->Kd->List C->Prop)(S1:ah)(w1:World)(v:Value):Prop:=
 ∃(f:Nat)(caps:List Value),v=.func (.func f) #[] caps.toArray/\LH P f/\∀L k rcs,Q L k rcs->∀(w:World)(S:ah)(a:List Value),(∀b o,S1 b o->S b o)->bq S1 w1 w->(∀b o,S b o->b<w.heap.size)->zR w S (L.map λp=>.val p.1 p.2) a->
  Calls P f (a++caps).toArray w λe w1=>∃v,e=.returned v/\bw NO w w1/\∃X S1:ah,(∀b o,X b o->b<w1.heap.size/\w.heap.size<=b)/\
   (∀b o,S1 b o->(false=true/\S b o)\/(b<w1.heap.size/\w.heap.size<=b))/\(∀b o,X b o->¬S1 b o)/\fN w1 NO k rcs.length v/\cK w1 S1 X rcs (cn w1 k v)
inductive Cq(P:Program)(f:Nat)(D:List RA)(K:(ah->World->Value->Prop)->Prop):Prop
 | mk_ (h:∃Q:List (Option Nat × List C)->Kd->List C->Prop,LH P f/\(∀L k rcs,Q L k rcs->ar P f false (L.map (λp=>RA.val p.1 p.2)++D) k rcs)/\K (kI P Q))
def Cq.mk{D:List RA}{K:(ah->World->Value->Prop)->Prop}(Q:List (Option Nat × List C)->Kd->List C->Prop)(h1:LH P f)(a:∀L k rcs,Q L k rcs->ar P f false (L.map (λp=>RA.val p.1 p.2)++D) k rcs)(b:K (kI P Q)):Cq P f D K:=.mk_ ⟨Q,h1,a,b⟩
inductive Fv(P:Program)(Ok:ah->World->Value->Prop)(L:List (Option Nat × List C))(K:AV->Prop):Prop
 |mk_ (h:∃(Q:List (Option Nat × List C)->Kd->List C->Prop)(k:Kd)(rcs:List C),Ok=kI P Q/\Q L k rcs/\K (.H k rcs))
variable{K:AV->Prop}
theorem Fv.mk{Q:List (Option Nat × List C)->Kd->List C->Prop}{L:List (Option Nat × List C)}(h:Q L k rcs)(a:K (.H k rcs)):Fv P (kI P Q) L K:=.mk_ ψ
def argA(P:Program)(F:Nat->AV)(x:Operand)(K:Bool->RA->Prop):Prop:=
 match nM F x with
 | .fn f caps=>ny F caps λD=>Cq P f D λOk=>K false (.fn Ok)
 | _=>argV F x K
def Dc(P:Program)(F:Nat->AV):List Operand->(Bool->List RA->Prop)->Prop
 | [],K=>K true []
 | x::xs,K=>argA P F x λa A=>Dc P F xs λb As=>K (bif a then b else false) (A::As)
def argsV(F:Nat->AV):List Operand->(List (Option Nat × List C)->Prop)->Prop
 | [],K=>K []
 | x::xs,K=>iN F (nM F x) λa cs=>argsV F xs λL=>K ((a,bif bp cs then cs else ed cs)::L)
inductive Cl(P:Program)(f:Nat)(b:Bool)(A:List RA)(K:AV->Prop):Prop
 |mk_ (h:∃sh k rcs,sC P f sh A k rcs/\(sh=false\/b=true)/\K (.H k rcs))
variable{b:Bool}
def Cl.mk(h:ar P f false A k rcs)(a:K (.H k rcs)):Cl P f b A K:=by refine .mk_ ?_;exact⟨false,k,rcs,h.toG,.inl rfl,a⟩
theorem CB:type_of% @Cl.mk:=@Cl.mk
def Cl.sh(h:ar P f true A k rcs)(a:b=true)(c:K (.H k rcs)):Cl P f b A K:=by refine .mk_ ?_;exact⟨true,k,rcs,h.toG,.inr a,c⟩
theorem Cl.g{sh:Bool}(h:sC P f sh A k rcs)(a:sh=false\/b=true)(c:K (.H k rcs)):Cl P f b A K:=by refine .mk_ ?_;grind
def Cl.out(h:Cl P f b A K):∃sh k rcs,sC P f sh A k rcs/\(sh=false\/b=true)/\K (.H k rcs):=by obtain⟨h⟩:=h;exact h
def KR(P:Program)(F:Nat->AV)(f:Nat)(args:List Operand)(K:AV->Prop):Prop:=
 Dc P F args λb A=>Cl P f b A K
def mT(P:Program)(F:Nat->AV)(t:Nat)(args:List Operand)(K:AV->Prop):Prop:=
 match F t with
 | .fn f caps=>Dc P F args λ_ A=>ny F caps λD=>Cl P f false (A++D) K
 | .fv Ok=>argsV F args λL=>Fv P Ok L K
 | _=>False
section
variable{P:Program}{w0 w w1:World}{M S0 S:ah}{N:fm}{φ:Nat->ah}{F:Nat->AV}{a:Act}
variable{v:Value}{cs:List C}{ag:Option Nat}{S':ah}
def br.mono{S Y a:ah}(h:br w S Y ag cs v)(c:∀b o,S b o->S' b o)(d:∀b o,Y b o->a b o):br w S' a ag cs v:=
 ⟨h.1,h.2.choose,h.2.choose_spec.1,h.2.choose_spec.2.mono c d⟩
def br.freeze{Y:ah}(h:br w S Y ag cs v):br w (λb o=>S b o\/Y b o) NO ag (ed cs) v:=
 ⟨by rw[cg,O1];exact h.1,h.2.choose,h.2.choose_spec.1,h.2.choose_spec.2.freeze⟩
def oe(S:ah)(φ:Nat->ah):ah:=λb o=>S b o\/∃t,φ t b o
def br.keepS(h:br w S NO ag cs v)(a:bq S w w1)(c:∀b o,S b o->S' b o):br w1 S' NO ag cs v:=by
 obtain⟨d,u,e,f⟩:=h;exact⟨d,u,e,(f.keep a (λ_ _ h=>h.elim)).mono c (λ_ _ h=>h)⟩
theorem nX.keep{A:RA}(h:nX w S A v)(c:bq S w w1)(i:∀b o,S b o->S' b o):nX w1 S' A v:=by
 cases A with
 | val n cs=>exact br.keepS h c i
 | ptr cs=>
  obtain⟨g,b,u,e,a,j⟩:=h;exact⟨g,b,u,e,λd k=>⟨i _ _ (a d k).1,(c _ _ (a d k).1).1.trans (a d k).2⟩,(j.keep c (λ_ _ h=>h.elim)).mono i (λ_ _ h=>h)⟩
 | fn Ok=>
  obtain⟨S1,l,e,a,j⟩:=h;exact⟨S1,l,ψ,λb o f=>⟨(c b o (e b o f)).1.trans (a b o f).1,(c b o (e b o f)).2.trans (a b o f).2⟩,j⟩
def zR.keep{S':ah}(a:bq S w w1)(c:∀b o,S b o->S' b o):∀{A:List RA}{vs:List Value},zR w S A vs->zR w1 S' A vs
 | [],[],_=>trivial
 | _::_,_::_,h=>⟨h.1.keep a c,zR.keep a c h.2⟩
 | [],_::_,h=>h.elim
 | _::_,[],h=>h.elim
def zR.append:∀{A B:List RA}{vs a:List Value},zR w S A vs->zR w S B a->zR w S (A++B) (vs++a)
 | [],_,[],_,_,h=>h
 | _::_,_,_::_,_,h,b=>⟨h.1,zR.append h.2 b⟩
 | [],_,_::_,_,h,_=>h.elim
 | _::_,_,[],_,h,_=>h.elim
def bq.rfl'(X:ah)(w:World):bq X w w:=λ_ _ _=>⟨rfl,rfl⟩
theorem EM{X:ah}{tv:Nat->Value}(h:cN w S F tv X (.H .box cs) v){T:ah}(e:∀b o,S b o\/X b o->T b o):nX w T (.ptr (ed cs)) v:=by
 obtain⟨f,Y,i,j,k,⟨g,o,a,l⟩,c⟩:=h;refine⟨g,o,cn w .box v,a,λd n=>?_,c.freeze.mono ψ (λ_ _ h=>h)⟩
 grind [cg,cn]
theorem bf.argVal(h:bf w0 M S0 N S φ F a w){av:AV}{X:ah}(g:∀b o,X b o->oe S φ b o)(i:cN w S F (tvs a) X av v){K:Bool->RA->Prop}(j:iN F av (Az K)) :
  ∃b A,K b A/\nX w (oe S φ) A v/\(b=true->nX w S A v):=by
 obtain⟨n,cs,Y,c,e,k⟩:=h.val i j;have f:∀b o,Y b o->oe S φ b o:=λb o l=>(k b o l).elim (g b o) .inr
 unfold Az at c;cases d:bp cs with
 | true=>
  rw[d]at c;exact⟨true,_,c,(e.bare d).mono (λ_ _ h=>.inl h) (λ_ _ h=>h),λ_=>e.bare d⟩
 | false=>
  rw[d]at c;exact⟨false,_,c,e.freeze.mono (λb o h=>h.elim .inl (f b o)) (λ_ _ h=>h),ψ⟩
variable{x:Operand}
theorem bf.argV(h:bf w0 M S0 N S φ F a w){K:Bool->RA->Prop}(c:Ab.argV F x K):∃b A,K b A/\nX w (oe S φ) A (a.eval x)/\(b=true->nX w S A (a.eval x)):=by
 have e:=h.ev x;have q:∀b o,Ws φ x b o->oe S φ b o:=λb o d=>by
  cases x with
  | tmp t=>exact .inr ⟨t,d⟩
  | _=>exact d.elim
 unfold Ab.argV at c;cases i:nM F x with
 | H k cs=>
  rw[i]at c e;cases k with
  | box=>exact⟨false,_,c,EM e λb o d=>d.elim .inl (q b o),ψ⟩
  | one=>exact h.argVal q e (show iN F (.H .one cs) (Az K) from c)
  | agg=>exact h.argVal q e (show iN F (.H .agg cs) (Az K) from c)
  | tup J=>exact c.elim
 | c1 t l G L=>grind [bf.argVal]
 | ref t l G=>
  rw[i]at c e;simp only at c;split at c
  ·rename_i cs B
   have y:=h.slot t;rw[B]at y;obtain⟨k,H,r,j,g,o,p,C,D,O⟩:=e;rw[B]at p;cases p;have E:a.eval x=tvs a t:=by
    obtain⟨P,Y,-,-,-,⟨Q,R,E,-⟩,-⟩:=y
    grind [plc,pb]
   rw[E];exact⟨false,_,c,EM y λb o d=>d.elim .inl (λd=>.inr ⟨t,d⟩),ψ⟩
  exact c.elim
 | iref r l=>
  rw[i]at c e;simp only at c;cases d:Nat.beq l 0 with
  | false=>grind
  | true=>
   rw[d]at c;have:=C3 d;subst this;have n:nX w S (.ptr r) (a.eval x):=by
    obtain⟨g,b,u,p,C,D⟩:=e;exact⟨g,b,u,by rw[p,Nat.add_zero],C,D⟩
   exact⟨true,_,c,n.keep (bq.rfl' _ _) (λ_ _ h=>.inl h),λ_=>n⟩
 | fv Ok=>
  rw[i]at c e;have n:nX w S (.fn Ok) (a.eval x):=e;exact⟨true,_,c,n.keep (bq.rfl' _ _) (λ_ _ h=>.inl h),λ_=>n⟩
 | fn f caps=>grind
 | dead=>grind
def bf.caps(h:bf w0 M S0 N S φ F a w):∀{cs:List Nat}{K:List RA->Prop},ny F cs K->∃D,K D/\zR w (oe S φ) D (cs.map (tvs a))
 | [],K,e=>⟨[],e,trivial⟩
 | c::cs,K,e=>by
  have p:=h.slot c;have f:∀(k:Kd)(xs:List C)(q:Option Nat),F c=.H k xs->iN F (.H k xs) (λi j=>i=q/\j=xs)->nX w (oe S φ) (.val q (ed xs)) (tvs a c):=λk xs q g r=>by
   rw[g]at p;obtain⟨i,j,Y,⟨rfl,rfl⟩,r,t⟩:=h.val p r;exact r.freeze.mono (λb o d=>d.elim .inl (λd=>(t b o d).elim (λd=>.inr ⟨c,d⟩) .inr)) (λ_ _ h=>h)
  simp only[ny]at e;split at e
  ·rename_i xs g
   obtain⟨D,l,n⟩:=bf.caps h e;rw[g]at p;exact⟨_,l,EM p (λb o d=>d.elim .inl λd=>.inr ⟨c,d⟩),n⟩
  ·rename_i xs g
   obtain⟨D,l,n⟩:=bf.caps h e;exact⟨_,l,f _ _ _ g ⟨rfl,rfl⟩,n⟩
  ·rename_i xs g
   obtain⟨D,l,n⟩:=bf.caps h e;exact⟨_,l,f _ _ _ g ⟨rfl,rfl⟩,n⟩
  exact e.elim
theorem bf.argA(h:bf w0 M S0 N S φ F a w){K:Bool->RA->Prop}(e:Ab.argA P F x K):∃b A,K b A/\nX w (oe S φ) A (a.eval x)/\(b=true->nX w S A (a.eval x)):=by
 unfold Ab.argA at e;split at e
 ·rename_i f caps g
  have l:=h.ev x;rw[g]at l;obtain⟨D,n,o⟩:=h.caps e;obtain⟨Q,p,q,r⟩:=n;refine⟨false,_,r,⟨oe S φ,w,λ_ _ h=>h,bq.rfl' _ _,f,caps.map (tvs a),l,p,λL k rcs t w' u y d c i j=>?_⟩,ψ⟩;exact(q L k rcs t).run w' u _ i (zR.append j (zR.keep c d o))
 exact h.argV e
def bf.args(h:bf w0 M S0 N S φ F a w):∀{xs:List Operand}{K:Bool->List RA->Prop},Dc P F xs K->∃b A,K b A/\zR w (oe S φ) A (xs.map a.eval)/\(b=true->zR w S A (xs.map a.eval))
 | [],K,c=>⟨true,[],c,trivial,λ_=>trivial⟩
 | x::xs,K,c=>by
  obtain⟨f,A,d,g,i⟩:=h.argA c;obtain⟨b,As,d,j,k⟩:=bf.args h d;refine⟨_,_,d,⟨g,j⟩,λe=>?_⟩;cases f with
  | false=>cases e
  | true=>exact⟨i rfl,k e⟩
def bf.argsV(h:bf w0 M S0 N S φ F a w):∀{xs:List Operand}{K:List (Option Nat × List C)->Prop},Ab.argsV F xs K->∃L,K L/\zR w (oe S φ) (L.map λp=>.val p.1 p.2) (xs.map a.eval)
 | [],K,d=>⟨[],d,trivial⟩
 | x::xs,K,d=>by
  obtain⟨l,cs,Y,e,g,i⟩:=h.val (h.ev x) d;obtain⟨L,e,j⟩:=bf.argsV h e;have f:∀b o,Y b o->oe S φ b o:=λb o c=>by
   rcases i b o c with c|c
   ·cases x with
    | tmp t=>exact .inr ⟨t,c⟩
    | _=>exact c.elim
   exact .inr c
  refine⟨_,e,?_,j⟩;cases k:bp cs with
  | true=>exact(g.bare k).mono (λ_ _ h=>.inl h) (λ_ _ h=>h)
  | false=>exact g.freeze.mono (λb o h=>h.elim .inl (f b o)) (λ_ _ h=>h)
variable{ts:Array TypeId}{f:Nat}{o:Oper}
theorem GY{args:Array Operand}(c:o.op=.call ⟨.value (.func f),args,ts⟩)(d:LH P f) :
  (execOp a.eval o).run P w=.ok (.enter f (args.map a.eval)) w:=by
 obtain⟨e,g,h,i⟩:=d;have b : ¬ e.name = "runtime.NumGoroutine" := by simpa using h
 simp[execOp,c,resolve,Act.eval,Deferred.ofValue,invoke,callFunc,g,b]
 grind
theorem ux{t:Nat}{args:Array Operand}{caps:List Value}(d:o.op=.call ⟨.value (.tmp t),args,ts⟩)(e:LH P f)(g:tvs a t=.func (.func f) #[] caps.toArray) :
  (execOp a.eval o).run P w=.ok (.enter f (args.toList.map a.eval++caps).toArray) w:=by
 obtain⟨h,i,j,l⟩:=e;have b : ¬ h.name = "runtime.NumGoroutine" := by simpa using j
 have c:a.tmps.getD t undef=.func (.func f) #[] caps.toArray:=g;have k:args.map a.eval++caps.toArray=(args.toList.map a.eval++caps).toArray:=ψ
 rw[<-k];simp[execOp,d,resolve,Act.eval,c,Deferred.ofValue,invoke,callFunc,i,b]
 grind
variable{rcs:List C}{vs:List Value}
theorem bf.enterG(h:bf w0 M S0 N S φ F a w){k:Kd}{sh:Bool}(c:(execOp a.eval o).run P w=.ok (.enter f vs.toArray) w){S2:ah}(l:sh=true->∀b o,S2 b o->S b o)(n:Calls P f vs.toArray w λe w1=>∃v,e=.returned v/\bw NO w w1/\∃X S1:ah,(∀b o,X b o->b<w1.heap.size/\w.heap.size<=b)/\
    (∀b o,S1 b o->(sh=true/\S2 b o)\/(b<w1.heap.size/\w.heap.size<=b))/\(∀b o,X b o->¬S1 b o)/\∃d Y:ah,(∀b o,d b o->X b o)/\(∀b o,Y b o->X b o)/\(∀b o,d b o->¬Y b o)/\fN w1 d k rcs.length v/\cK w1 S1 Y rcs (cn w1 k v)):Ag P o a w (m8 w S F a (.H k rcs)):=by
 refine Ag.enter c ?_;refine n.mono λe w1 ⟨v,p,q,X,S1,r,t,D,d,Y,i,u,j,y,A⟩=>⟨v,p,q,X,λb o=>S b o\/S1 b o,r,λ_ _ h=>.inl h,λb o B=>?_,λb o B g=>?_,?_⟩
 ·grind
 ·rcases g with g|g
  ·have:=(h.sup b o g).1;grind
  grind
 exact⟨d,Y,i,u,j,y,A.mono ψ (λ_ _ h=>h)⟩
def bf.enter(h:bf w0 M S0 N S φ F a w){k:Kd}{sh:Bool}(c:(execOp a.eval o).run P w=.ok (.enter f vs.toArray) w){S2:ah}(d:sh=true->∀b o,S2 b o->S b o)(g:Calls P f vs.toArray w λe w1=>∃v,e=.returned v/\bw NO w w1/\∃X S1:ah,(∀b o,X b o->b<w1.heap.size/\w.heap.size<=b)/\
    (∀b o,S1 b o->(sh=true/\S2 b o)\/(b<w1.heap.size/\w.heap.size<=b))/\(∀b o,X b o->¬S1 b o)/\fN w1 NO k rcs.length v/\cK w1 S1 X rcs (cn w1 k v)):Ag P o a w (m8 w S F a (.H k rcs)):=
 h.enterG c d (g.mono λ_ _ ⟨v,i,j,X,S1,l,n,p,q,r⟩=>⟨v,i,j,X,S1,l,n,p,NO,X,λ_ _ h=>h.elim,λ_ _ h=>h,λ_ _ h=>h.elim,q,r⟩)
def bf.all_lt(h:bf w0 M S0 N S φ F a w):∀b o,oe S φ b o->b<w.heap.size:=λb o d=>d.elim (λc=>(h.sup b o c).1) (λ⟨t,c⟩=>(h.ex t b o c).1)
variable{K:AV->Prop}
theorem bf.call(h:bf w0 M S0 N S φ F a w){args:Array Operand}(l:o.op=.call ⟨.value (.func f),args,ts⟩)(n:KR P F f args.toList K) :
  ∃av,K av/\Ag P o a w (m8 w S F a av):=by
 obtain⟨b,A,e,p,q⟩:=h.args n;obtain⟨t,k,rcs,g,i,r⟩:=e.out;have d:args.map a.eval=(args.toList.map a.eval).toArray:=ψ
 have c:=GY (a:=a) (w:=w) l g.1;rw[d]at c;refine⟨_,r,?_⟩;rcases i with rfl|j
 ·exact h.enterG c (S2:=oe S φ) ψ (g.2 w _ _ h.all_lt p)
 exact h.enterG c (S2:=S) (λ_ _ _ h=>h) (g.2 w S _ (λb o j=>(h.sup b o j).1) (q j))
theorem bf.callT(h:bf w0 M S0 N S φ F a w){t:Nat}{args:Array Operand}(n:o.op=.call ⟨.value (.tmp t),args,ts⟩)(c:mT P F t args.toList K) :
  ∃av,K av/\Ag P o a w (m8 w S F a av):=by
 have d:=h.slot t;unfold mT at c;split at c
 ·rename_i f caps e
  rw[e]at d;obtain⟨b,A,c,g,-⟩:=h.args c;obtain⟨D,i,q⟩:=h.caps c;obtain⟨sh,k,rcs,p,r,j⟩:=i.out;have l:sh=false:=ψ
  subst l;exact⟨_,j,h.enterG (ux n p.1 d) (S2:=oe S φ) ψ (p.2 w _ _ h.all_lt (zR.append g q))⟩
 ·rename_i Ok e
  rw[e]at d;obtain⟨L,u,g⟩:=h.argsV c;obtain⟨Q,k,rcs,rfl,y,j⟩:=u;obtain⟨S1,w1,B,C,f,caps,E,G,H⟩:=d;exact⟨_,j,h.enter (ux n G E) (S2:=oe S φ) (sh:=false) ψ (H L k rcs y w _ _ (λb o J=>.inl (B b o J)) C h.all_lt g)⟩
 exact c.elim
def Ej:List (Option Nat)->Nat->Option (Nat × Option Nat)
 | [],_=>none
 | a::_,0=>some (0,a)
 | a::b,i+1=>(Ej b i).map λp=>(a.getD 1+p.1,p.2)
def kK(F:Nat->AV)(x:Operand)(i:Nat)(K:AV->Prop):Prop:=
 match x with
 | .tmp t=>match F t with
  | .H (.tup sh) cs=>match Ej sh i with
   | some (s,a)=>bif bp (bE cs s (a.getD 1)) then K (.H (m7 a) (bE cs s (a.getD 1))) else K (.c1 t s [] a)
   | none=>False
  | _=>False
 | _=>False
def rD(ag:Option Nat)(sh:List (Option Nat)):yN (ag::sh)=ag.getD 1+yN sh:=by cases ag<;>rfl
theorem K6{sh:List (Option Nat)}(h:zH (ag::sh) (v::vs)):v.cells.toList.length=ag.getD 1/\(v=mkv ag λj=>v.cells.toList.getD j undef)/\zH sh vs:=by
 cases ag with
 | none=>
  have a:v.cells = #[v]:=h.1;exact⟨by rw[a];rfl,by rw[a];rfl,h.2⟩
 | some n=>
  obtain⟨⟨arr,rfl,b⟩,c⟩:=h
  grind [qn,Go.Value.cells]
def NX:∀{sh:List (Option Nat)}{vs:List Value}{i s:Nat}{ag:Option Nat},zH sh vs->Ej sh i=some (s,ag)->
  ∃v,vs[i]? = some v/\s+ag.getD 1<=yN sh/\v=mkv ag λj=>(vs.flatMap λv=>v.cells.toList).getD (s+j) undef
 | [],_,i,s,ag,_,a=>by cases a
 | ag0::sh,[],i,s,ag,h,_=>by cases ag0<;>exact h.elim
 | ag0::sh,c::vs,i,s,ag,h,a=>by
  obtain⟨k,d,e⟩:=K6 h;cases i with
  | zero=>
   simp only[Ej,I1,Prod.mk.injEq]at a;obtain⟨rfl,rfl⟩:=a;refine⟨c,rfl,by rw[rD];omega,d.trans (jU λj l=>?_)⟩;simp only[O9,W9,List.getD];rw[O6 ω]
  | succ i=>
   simp only[Ej]at a;cases b:Ej sh i with
   | none=>rw[b]at a;cases a
   | some p=>
    rw[b]at a;simp only[O7,I1,Prod.mk.injEq]at a;obtain⟨rfl,rfl⟩:=a;obtain⟨v,f,n,g⟩:=NX e (show Ej sh i=some (p.1,p.2) from b);refine⟨v,by simpa using f,by rw[rD];omega,g.trans (jU λj _=>?_)⟩;simp only[O9,List.getD];rw[S6 ω]
    congr 2
    omega
theorem bf.extract(h:bf w0 M S0 N S φ F a w){i:Nat}(b:kK F x i K) :
  ∃av v,K av/\(Instr.extract (a.eval x) i).run P w=.ok v w/\cN w S F (tvs a) NO av v:=by
 cases x with
 | tmp t=>
  have n:=h.slot t;show ∃av v,K av/\(Instr.extract (tvs a t) i).run P w=.ok v w/\_
  simp only[kK]at b;cases o:F t with
  | H k cs=>
   rw[o]at b n;cases k with
   | tup e=>
    simp only at b;obtain⟨D,Y,E,G,H,⟨u,q,y,J⟩,A⟩:=n;cases d:Ej e i with
    | none=>grind
    | some p=>
     obtain⟨s,f⟩:=p;rw[d]at b;simp only at b;obtain⟨v,B,C,g⟩:=NX y d;have c:(Instr.extract (tvs a t) i).run P w=.ok v w:=by
      have:u[i]? = some v:=ψ
      simp[q,Instr.extract,this]
     have r:v=mkv f λj=>cn w (.tup e) (tvs a t) (s+j):=by rw[g,q];rfl
     cases l:bp (bE cs s (f.getD 1)) with
     | true=>
      rw[l]at b;refine⟨_,v,b,c,br.slot ⟨by simp[bE];omega,_,r,?_⟩⟩;exact(A.part s (f.getD 1)).bare l
     | false=>
      rw[l]at b;exact⟨_,v,b,c,.tup e,cs,cs,s,o,rfl,ω,r⟩
   | _=>exact b.elim
  | _=>grind
 | _=>exact b.elim
inductive Es(x:ByteArray)(K:ByteArray->Prop):Prop
 |mk_ (h:∃z,x=z/\K z)
theorem Es.mk{x z:ByteArray}{K:ByteArray->Prop}(h:x=z)(a:K z):Es x K:=by refine .mk_ ?_;grind
def Es.out{x:ByteArray}{K:ByteArray->Prop}(h:Es x K):∃z,x=z/\K z:=by obtain⟨h⟩:=h;exact h
def Je(TE:Nat->Option TI)(c:BinOp)(T:Nat)(d e:Value)(K:Value->Prop):Prop:=
 match d,e with
 | .bool a,.bool b=>(match TE T with
   | some ⟨_,_,_,.sc .bool⟩=>(match c with
     | .eql=>K (.bool (a == b))
     | .neq=>K (.bool (a != b))
     | _=>False)
   | _=>False)
 | .string a,.string b=>(match c with
   | .eql=>K (.bool (a.toList == b.toList))
   | .neq=>K (.bool (!(a.toList == b.toList)))
   | .add=>Cd (((a.size+b.size:Nat):Int)<=9223372036854775807) (Es (a++b) λz=>K (.string z))
   | _=>False)
 | d,e=>EN c d e K
variable{y:Operand}{T:Nat}{TE:Nat->Option TI}
theorem PH(e:∀t i,TE t=some i->iv P t i){d:BinOp}{f g:Value}{K:Value->Prop}(c:Je TE d T f g K):∃v,K v/\v.oneCell'=true/\(do eqGuard d T x y f g;binOp d T f g:Sem Value).run P w=.ok v w:=by
 unfold Je at c;split at c
 ·rename_i a b
  split at c
  case h_2=>exact c.elim
  rename_i k;have l:P.underlying T=some .bool:=(e _ _ k).2.2.1;have h:(eqGuard d T x y (.bool a) (.bool b)).run P w=.ok () w:=by
   unfold eqGuard;split<;>rfl
  rw[Sem.run_bind,h];have n:(Op.equal T (.bool a) (.bool b)).run P w=.ok (a == b) w:=by
   unfold Op.equal;rw[show Op.maxDepth=(Op.maxDepth - 1)+1 from rfl,Op.equalIn];rw[Sem.run_bind,run_underlying l]
   rfl
  cases d<;>simp only at c<;>try exact c.elim
  case eql=>exact⟨_,c,rfl,by grind [Go.Result.andThen_ok,Go.Sem.run_bind,Go.Sem.run_pure,Go.binOp]⟩
  case neq=>exact⟨_,c,rfl,by grind [Go.Result.andThen_ok,Go.Sem.run_bind,Go.Sem.run_pure,Go.binOp]⟩
 ·rename_i a b
  have h:(eqGuard d T x y (.string a) (.string b)).run P w=.ok () w:=by
   unfold eqGuard;split<;>rfl
  rw[Sem.run_bind,h];cases d<;>simp only at c<;>try exact c.elim
  case eql=>exact⟨_,c,rfl,by simp[binOp,Op.stringOp]⟩
  case neq=>exact⟨_,c,rfl,by simp[binOp,Op.stringOp]⟩
  case add=>
   obtain⟨o,j⟩:=c.out;obtain⟨z,rfl,j⟩:=j.out;refine⟨_,j,rfl,?_⟩;have:¬((a.size+b.size:Nat):Int) > IntKind.i64.max:=by simp_all
   simp only[Result.andThen_ok,binOp,Op.stringOp];rw[CC this]
   rfl
 exact QS c
inductive Nn(rows:List (List C))(K:Prop):Prop
 |mk_ (h:rows≠[]/\K)
variable{rows:List (List C)}
def Nn.mk{K:Prop}(h:rows≠[])(a:K):Nn rows K:=by refine .mk_ ?_;exact⟨h,a⟩
theorem Nn.out{K:Prop}(h:Nn rows K):rows≠[]/\K:=by obtain⟨h⟩:=h;exact h
def Ul:Operand->Bool
 | .const (.slice none 0 0)=>true
 | _=>false
def yC(a:BinOp)(y:Operand):Bool:=
 match a with
 | .eql=>Ul y
 | _=>false
def K7(TE:Nat->Option TI)(F:Nat->AV)(T:Nat)(x:Operand)(K:AV->Prop):Prop:=
 match TE T with
 | some ⟨_,_,_,.sl _⟩=>iN F (nM F x) λa cs=>match a,cs with
  | none,[.s _ rows]=>Nn rows (K (.H .one [.v (.bool false)]))
  | none,[.v (.slice A _ _)]=>K (.H .one [.v (.bool A.isNone)])
  | _,_=>False
 | _=>False
theorem M0{a:BinOp}(h:yC a y=true):a=.eql/\y=.const (.slice none 0 0):=by grind [yC,Ul]
theorem dK.slice_some{w:World}{S F:ah}{o:dQ}(h:dK w S F (.s o rows) v)(b:rows≠[]):∃ad cap,v=.slice (some ad) rows.length cap:=by
 generalize a:C.s o rows=c at h;cases h with
 | v=>cases a
 | x=>cases a
 | z=>cases a
 | m=>cases a
 | it=>cases a
 | nil=>grind
 | own=>grind
 | S=>simp_all
def dK.val_v{w:World}{S F:ah}{y:Value}(h:dK w S F (.v y) v):v=y:=by
 generalize a:C.v y=c at h;cases h with
 | v=>cases a;rfl
 | _=>cases a
theorem bf.nilq(h:bf w0 M S0 N S φ F a w)(g:∀t i,TE t=some i->iv P t i)(e:K7 TE F T x K) :
  ∃b:Bool,K (.H .one [.v (.bool b)])/\(do eqGuard .eql T x (.const (.slice none 0 0)) (a.eval x) (.slice none 0 0);binOp .eql T (a.eval x) (.slice none 0 0):Sem Value).run P w=.ok (.bool b) w:=by
 unfold K7 at e;split at e
 ·rename_i q
  have r:=(g _ _ q).2.2;have run:∀(A:Option Addr)(n c:Nat),(do eqGuard .eql T x (.const (.slice none 0 0)) (.slice A n c) (.slice none 0 0);binOp .eql T (.slice A n c) (.slice none 0 0):Sem Value).run P w=.ok (.bool A.isNone) w:=λA n c=>by
   have y:(eqGuard .eql T x (.const (.slice none 0 0)) (.slice A n c) (.slice none 0 0)).run P w=.ok () w:=by
    unfold eqGuard;split<;>rfl
   rw[Sem.run_bind,y];have E:(Op.equal T (.slice A n c) (.slice none 0 0)).run P w=.ok A.isNone w:=by
    unfold Op.equal;rw[show Op.maxDepth=(Op.maxDepth - 1)+1 from rfl,Op.equalIn];rw[Sem.run_bind,run_underlying r];cases A<;>rfl
   grind [Go.Result.andThen_ok,Go.Sem.run_bind,Go.Sem.run_pure,Go.binOp]
  obtain⟨B,cs,Y,d,⟨G,u,l,f,p,-⟩,-⟩:=h.val (h.ev x) e
  match B,cs,d with
  | none,[.s o rows],d=>
   obtain⟨j,d⟩:=d.out;obtain⟨C,k,D⟩:=(p 0 _ rfl).slice_some j;have:a.eval x=.slice (some C) rows.length k:=l.trans D;rw[this];exact(ψ)
  | none,[.v (.slice A n c)],d=>
   have:a.eval x=.slice A n c:=l.trans (p 0 _ rfl).val_v;rw[this];exact(ψ)
 exact e.elim
structure VV(P:Program)(op:BinOp)(T:Nat)(vs us:List Value)(r:Bool):Prop where
 run:∀(x y:Operand)(w:World),(do eqGuard op T x y (.agg vs.toArray) (.agg us.toArray);binOp op T (.agg vs.toArray) (.agg us.toArray):Sem Value).run P w=.ok (.bool r) w
inductive UN(P:Program)(op:BinOp)(T:Nat)(vs us:List Value)(K:Bool->Prop):Prop
 |mk_ (h:∃r,VV P op T vs us r/\K r)
variable{b:List Value}
theorem UN.mk{P:Program}{a:BinOp}{K:Bool->Prop}{r:Bool}(h:VV P a T vs b r)(c:K r):UN P a T vs b K:=by refine .mk_ ?_;grind
def UN.out{P:Program}{a:BinOp}{K:Bool->Prop}(h:UN P a T vs b K):∃r,VV P a T vs b r/\K r:=by obtain⟨h⟩:=h;exact h
def VK:List C->(List Value->Prop)->Prop
 | [],K=>K []
 | .v x::cs,K=>VK cs λl=>K (x::l)
 | _,_=>False
theorem PD:∀(l:List Value){K:List Value->Prop},K l->VK (l.map C.v) K
 | [],_,h=>h
 | x::l,K,h=>PD l (K:=λl=>K (x::l)) h
theorem p7:∀{cs:List C}{K:List Value->Prop},VK cs K->∃l,K l/\cs=l.map C.v
 | [],K,h=>⟨[],h,rfl⟩
 | .v x::cs,K,h=>by
  obtain⟨l,a,b⟩:=p7 (cs:=cs) h
  grind
 | .s _ _::_,_,h=>h.elim
 | .x::_,_,h=>h.elim
 | .z::_,_,h=>h.elim
 | .m _::_,_,h=>h.elim
 | .it _ _::_,_,h=>h.elim
def isAgg(F:Nat->AV)(x:Operand):Bool:=
 match x with
 | .tmp t=>(match F t with|.H .agg _=>true|_=>false)
 | _=>false
def KN(P:Program)(F:Nat->AV)(a:BinOp)(T:Nat)(x y:Operand)(K:AV->Prop):Prop:=
 iN F (nM F x) λb cs=>iN F (nM F y) λag2 ds=>match b,ag2 with
  | some _,some _=>VK cs λc=>VK ds λd=>UN P a T c d λr=>K (.H .one [.v (.bool r)])
  | _,_=>False
theorem Rd{S Y:ah}{n:Nat}{l:List Value}(h:br w S Y (some n) (l.map C.v) v):v=.agg l.toArray:=by
 obtain⟨b,u,c,f,d,-⟩:=h;have g:l.length=n:=by simpa using b
 rw[c];show Value.agg ((List.range n).map u).toArray=_
 congr 2
 apply List.ext_getElem?;intro j;rw[S4];by_cases e:j<n
 ·have a:j<l.length:=ω
  have i:=d j (.v l[j]) ψ;rw[S9 e,I3 a];have key:∀(Z:ah)(y z:Value),dK w S Z (.v y) z->z=y:=λZ y z h=>by cases h;rfl
  grind
 grind
def bf.eqs(h:bf w0 M S0 N S φ F a w){b:BinOp}(e:KN P F b T x y K) :
  ∃r,K (.H .one [.v (.bool r)])/\(do eqGuard b T x y (a.eval x) (a.eval y);binOp b T (a.eval x) (a.eval y):Sem Value).run P w=.ok (.bool r) w:=by
 unfold KN at e;obtain⟨i,cs,Y,j,f,-⟩:=h.val (h.ev x) e;obtain⟨ag2,ds,u,c,g,-⟩:=h.val (h.ev y) j
 match i,ag2,c with
 | some n,some m,d=>
  obtain⟨A,k,l⟩:=p7 d;obtain⟨B,o,p⟩:=p7 k;obtain⟨r,q,t⟩:=o.out;rw[l]at f;rw[p]at g;refine⟨r,t,?_⟩;rw[Rd f,Rd g];exact q.run x y w
def LC:List Operand->(List Nat->Prop)->Prop
 | [],K=>K []
 | .tmp t::xs,K=>LC xs λl=>K (t::l)
 | _,_=>False
theorem Gx:∀(l:List Nat){K:List Nat->Prop},K l->LC (l.map .tmp) K
 | [],_,h=>h
 | t::l,K,h=>Gx l (K:=λl=>K (t::l)) h
theorem rC:∀{xs:List Operand}{K:List Nat->Prop},LC xs K->∃l,K l/\xs=l.map .tmp
 | [],K,h=>⟨[],h,rfl⟩
 | .tmp t::xs,K,h=>by
  obtain⟨l,a,b⟩:=rC (xs:=xs) h
  grind
 | .const _::_,_,h=>h.elim
 | .global _::_,_,h=>h.elim
 | .func _::_,_,h=>h.elim
def dh(P:Program)(TE:Nat->Option TI)(F:Nat->AV)(o:Op)(K:AV->Prop):Prop:=
 match o with
 | .move x=>b9 F x K
 | .assign x=>b9 F x K
 | .nilCheck x=>(match x with|.tmp t=>(match F t with|.ref ..=>b9 F x K|.iref ..=>b9 F x K|.H .box _=>b9 F x K|_=>False)|_=>False)
 | .load T x=>wt TE F T x K
 | .fieldAddr T x f=>iK TE F T x f K
 | .indexAddr T x y=>iL TE F T x y K
 | .binOp op T x y _=>bif yC op y then K7 TE F T x K else bif isAgg F x then KN P F op T x y K else Ky F x λa=>Ky F y λg=>Je TE op T a g λv=>K (.H .one [.v v])
 | .unOp op _ x=>Ky F x λa=>TU op a λv=>K (.H .one [.v v])
 | .pick c x y=>Mp F c x y K
 | .alloc T=>zq TE T K
 | .box _ x=>RY F x K
 | .extract x i=>kK F x i K
 | .build T ps=>vt TE F T ps.toList K
 | .buildSlice T n ps=>wS TE F T n ps.toList K
 | .makeSlice T x y=>Lt TE F T x y K
 | .makeFunc fn fs cs=>(match fn,fs.toList with|.func f,[]=>LC cs.toList λl=>K (.fn f l)|_,_=>False)
 | .makeMap T r=>tn TE T r K
 | .lookup T x y ok=>yY TE F T x y ok K
 | .slice T x d e h=>(match h with|none=>DH TE F T x d e K|some m=>(match d,e with|none,some y=>Tf TE F T x y m K|_,_=>False))
 | .field T x f=>sA TE F T x f K
 | .convert T1 b x=>yE TE F T1 b x K
 | .call c=>match c.callee with
  | .value (.func f)=>KR P F f c.args.toList K
  | .value (.tmp t)=>mT P F t c.args.toList K
  | .builtin .len=>(match c.args.toList,c.argTypes.toList with|[x],[T]=>Ks TE F T x K|_,_=>False)
  | .builtin .append=>(match c.args.toList,c.argTypes.toList with|[x,y],[T,b]=>bif Nat.beq T b then Lr TE F T x y K else False|_,_=>False)
  | .builtin .min=>(match c.args.toList with|[x,y]=>Vx false F x y K|_=>False)
  | .builtin .max=>(match c.args.toList with|[x,y]=>Vx true F x y K|_=>False)
  | _=>False
 | _=>False
theorem bf.pure_(h:bf w0 M S0 N S φ F a w)(A:∀t i,TE t=some i->iv P t i)(d:dh P TE F o.op K):∃av,K av/\Ag P o a w (m8 w S F a av):=by
 cases p:o.op with
 | move x=>rw[p]at d;obtain⟨av,e,B⟩:=h.move d;exact⟨av,e,.same (by simp[execOp,p]) B⟩
 | assign x=>rw[p]at d;obtain⟨av,e,B⟩:=h.move d;exact⟨av,e,.same (by simp[execOp,p]) B⟩
 | nilCheck x=>
  rw[p]at d;cases x with
  | tmp t=>
   have C:=h.slot t;simp only[dh]at d;have J:b9 F (.tmp t) K/\∃O,a.eval (.tmp t)=.pointer (some O):=by
    show _/\∃O,tvs a t=_
    cases Q:F t with
    | H k cs=>
     rw[Q]at d C;cases k with
     | box=>obtain⟨X1,Y,-,-,-,⟨g,b,U,-⟩,-⟩:=C;grind
     | _=>exact d.elim
    | ref=>rw[Q]at d C;obtain⟨k,cs,r,j,g,b,-,-,-,U⟩:=C;grind
    | iref=>rw[Q]at d C;obtain⟨g,b,u,U,-⟩:=C;grind
    | _=>grind
   obtain⟨Z,O,R⟩:=J;obtain⟨av,e,B⟩:=h.move Z;exact⟨av,e,.same (v:=a.eval (.tmp t)) (by simp[execOp,p,R]) B⟩
  | _=>exact d.elim
 | load T x=>rw[p]at d;obtain⟨av,v,e,q,B⟩:=h.load A d;exact⟨av,e,.same (by simp[execOp,p,q]) B⟩
 | fieldAddr T x f=>rw[p]at d;obtain⟨av,v,e,q,B⟩:=h.fieldAddr A d;exact⟨av,e,.same (by simp[execOp,p,q]) B⟩
 | indexAddr T x y=>rw[p]at d;obtain⟨av,v,e,q,B⟩:=h.indexAddr A d;exact⟨av,e,.same (by simp[execOp,p,q]) B⟩
 | binOp V T x y yT=>
  rw[p]at d;simp only[dh]at d;cases G:yC V y with
  | true=>
   rw[G]at d;obtain⟨rfl,rfl⟩:=M0 G;obtain⟨b,e,q⟩:=h.nilq A d;refine⟨_,e,.same (v:=.bool b) ?_ (kr rfl)⟩;simp only[execOp,p];rw[Sem.run_bind];have E:a.eval (.const (.slice none 0 0))=.slice none 0 0:=rfl
   simp_all
  | false=>
   rw[G]at d;cases W:isAgg F x with
   | true=>
    rw[W]at d;obtain⟨r,e,q⟩:=h.eqs d;refine⟨_,e,.same (v:=.bool r) ?_ (kr rfl)⟩;simp only[execOp,p];rw[Sem.run_bind,q]
    rfl
   | false=>
   rw[W]at d;obtain⟨H,-⟩:=h.scalar d;obtain⟨hy,-⟩:=h.scalar H;obtain⟨v,e,D,q⟩:=PH (P:=P) (w:=w) A (T:=T) (x:=x) (y:=y) hy;refine⟨_,e,.same (v:=v) ?_ (kr D)⟩;simp only[execOp,p];rw[Sem.run_bind,q]
   rfl
 | unOp V T x=>
  rw[p]at d;obtain⟨H,-⟩:=h.scalar d;obtain⟨v,e,D,q⟩:=T8 (P:=P) (w:=w) H;exact⟨_,e,.same (v:=v) (by simp[execOp,p,q]) (kr D)⟩
 | pick c x y=>
  rw[p]at d;obtain⟨av,b,e,G,B⟩:=h.pick d;exact⟨av,e,.same (v:=if b then a.eval x else a.eval y) (by simp[execOp,p,G,asBool]) B⟩
 | alloc T=>rw[p]at d;obtain⟨av,v,w1,e,q,B⟩:=h.alloc A d;exact⟨av,e,.value (by simp[execOp,p,q]) B⟩
 | box T x=>rw[p]at d;obtain⟨av,v,w1,e,q,B⟩:=h.box (P:=P) (T:=T) d;exact⟨av,e,.value (by simp[execOp,p,q]) B⟩
 | extract x i=>rw[p]at d;obtain⟨av,v,e,q,B⟩:=h.extract (P:=P) d;exact⟨av,e,.same (by simp[execOp,p,q]) B⟩
 | build T ps=>rw[p]at d;obtain⟨av,v,e,q,B⟩:=h.build A d;exact⟨av,e,.same (by simp only[execOp,p];simp_all) B⟩
 | buildSlice T n ps=>rw[p]at d;obtain⟨av,v,w1,e,q,B⟩:=h.buildS A d;exact⟨av,e,.value (by simp only[execOp,p];simp_all) B⟩
 | makeMap T r=>rw[p]at d;obtain⟨av,v,w1,e,q,B⟩:=h.makeMap A d;exact⟨av,e,.value (by simp[execOp,p,q]) B⟩
 | lookup T x y ok=>rw[p]at d;obtain⟨v,e,D,q⟩:=h.look A d;exact⟨_,e,.same (v:=v) (by simp[execOp,p,q]) (kr D)⟩
 | makeSlice T x y=>rw[p]at d;obtain⟨av,v,w1,e,q,B⟩:=h.make A d;exact⟨av,e,.value (by simp[execOp,p,q]) B⟩
 | slice T x lo hi mx=>
  rw[p]at d;cases mx with
  | none=>obtain⟨av,v,e,q,B⟩:=h.slice A d;exact⟨av,e,.same (by simp only[execOp,p];simp_all) B⟩
  | some m=>
   cases lo with
   | some _=>exact d.elim
   | none=>
    cases hi with
    | none=>exact d.elim
    | some y=>obtain⟨v,e,q,B⟩:=h.slice0 A d;exact⟨_,e,.same (by simp only[execOp,p];simp_all) B⟩
 | field T x f=>rw[p]at d;obtain⟨av,v,e,q,B⟩:=h.field A d;exact⟨av,e,.same (by simp[execOp,p,q]) B⟩
 | convert T1 X x=>rw[p]at d;obtain⟨v,e,D,q⟩:=h.conv A d;exact⟨_,e,.same (v:=v) (by simp[execOp,p,q]) (kr D)⟩
 | makeFunc fn fs cs=>
  rw[p]at d;simp only[dh]at d;split at d
  ·rename_i f hfs
   obtain⟨l,e,hl⟩:=rC d;have E:fs = #[]:=ψ
   have L:cs.map a.eval=(l.map (tvs a)).toArray:=by
    apply Array.ext';rw[Array.toList_map,hl,List.map_map]
    rfl
   subst E;exact⟨_,e,.same (v:=.func (.func f) #[] (l.map (tvs a)).toArray) (by simp[execOp,p,Instr.makeFunc,L]) rfl⟩
  exact d.elim
 | call c=>
  rw[p]at d;obtain⟨callee,args,ts⟩:=c;simp only[dh]at d;split at d
  ·exact h.call p d
  ·exact h.callT p d
  ·split at d
   ·rename_i x T H hT
    obtain⟨v,e,D,q⟩:=h.len (ty:=o.type) A d;have E:args = #[x]:=ψ
    have L:ts = #[T]:=ψ
    subst E L;refine⟨_,e,.same (v:=v) ?_ (kr D)⟩;simp[execOp,p,resolve,invoke,builtin,q]
   exact d.elim
  ·split at d
   ·rename_i x y T X H hT
    cases G:Nat.beq T X with
    | false=>grind
    | true=>
     rw[G]at d;have:=C3 G;subst this;obtain⟨av,v,w1,e,q,B⟩:=h.appP (ty:=o.type) A d;have E:args = #[x,y]:=ψ
     have L:ts = #[T,T]:=ψ
     subst E L;exact⟨av,e,.value (by simp[execOp,p,resolve,invoke,builtin,q]) B⟩
   exact d.elim
  ·split at d
   ·rename_i x y H
    obtain⟨v,e,D,q⟩:=h.mm (P:=P) (ts:=ts) (ty:=o.type) d;have E:args = #[x,y]:=ψ
    subst E;refine⟨_,e,.same (v:=v) ?_ (kr D)⟩;simp only[Bool.false_eq_true,if_false]at q;simp[execOp,p,resolve,invoke,builtin,q]
   exact d.elim
  ·split at d
   ·rename_i x y H
    obtain⟨v,e,D,q⟩:=h.mm (P:=P) (ts:=ts) (ty:=o.type) d;have E:args = #[x,y]:=ψ
    subst E;refine⟨_,e,.same (v:=v) ?_ (kr D)⟩;simp only[if_true]at q;simp[execOp,p,resolve,invoke,builtin,q]
   exact d.elim
  exact d.elim
 | _=>rw[p]at d;exact d.elim
end
inductive Lq(bs:List C)(off:Nat)(st:cG)(n:Nat)(K:List C->List C->Prop):Prop
 |mk_ (h:∃r j cs bs',co bs off st=some (r,j)/\lw bs off st/\j+n<=r.length/\cs=bE r j n/\bs'=gn bs off st (splice r j (List.replicate n .x))/\K cs bs')
variable{r cs a:List C}{rows:List (List C)}{o:dQ}{off j:Nat}
theorem Lq.one{b:List C}{i k n:Nat}{K:List C->List C->Prop}(h1:b[off]? = some (.s o rows))(c:o.mine=true)(f:rows[i]? = some r)(g:r.length=k)(h:j+n<=k)(l:cs=bE r j n)(p:a=b.set off (.s o (rows.set i (splice r j (List.replicate n .x)))))(q:K cs a):Lq b off [(i,k,j)] n K:=by
 have d:o≠.S:=λe=>by subst e;cases c
 refine .mk_ ?_
 grind [co,lw,gn]
variable{st:cG}
theorem Lq.out{n:Nat}{K:List C->List C->Prop}(h:Lq a off st n K):∃r j,co a off st=some (r,j)/\lw a off st/\j+n<=r.length/\K (bE r j n) (gn a off st (splice r j (List.replicate n .x))):=by
 obtain⟨h⟩:=h;grind
def R8(t:Nat):AV->AV
 | .c1 t' off (s::st) ag=>bif Nat.beq t' t then .dead else .c1 t' off (s::st) ag
 | .c1 t' off [] ag=>.c1 t' off [] ag
 | .ref t' off (s::st)=>bif Nat.beq t' t then .dead else .ref t' off (s::st)
 | .ref t' off []=>.ref t' off []
 | .H k cs=>.H k cs
 | .iref r off=>.iref r off
 | .fn f caps=>.fn f caps
 | .fv Ok=>.fv Ok
 | .dead=>.dead
def updN(F:Nat->AV)(t:Nat)(k:Kd)(cs:List C):Nat->AV:=λs=>bif Nat.beq s t then .H k cs else R8 t (F s)
theorem u5(F:Nat->AV)(t:Nat)(k:Kd)(cs:List C):updN F t k cs t=.H k cs:=by simp[updN]
variable{t:Nat}
theorem zx(F:Nat->AV){s:Nat}(k:Kd)(cs:List C)(h:s≠t):updN F t k cs s=R8 t (F s):=by grind [Nat.beq_eq,updN]
def RI(F:Nat->AV)(t:Nat)(k:Kd)(cs:List C):Nat->AV:=match k with
 | .box=>updH F t .box cs
 | .one=>updN F t .one cs
 | .agg=>updN F t .agg cs
 | .tup l=>updN F t (.tup l) cs
variable{F:Nat->AV}
theorem q9{a:Nat}{f:Kd}{cs2:List C}(h:updH F t k cs a=.H f cs2):updN F t k cs a=.H f cs2:=by
 by_cases e:a=t
 ·grind [iZ,u5]
 rw[gT _ _ _ e]at h;rw[zx _ _ _ e];cases b:F a with
 | H i cs3=>rw[b]at h;exact h
 | c1 g c d j=>grind [t7]
 | ref g c d=>
  rw[b]at h;cases d with
  | nil=>cases h
  | cons s d=>grind [t7]
 | _=>rw[b]at h;cases h
theorem Bc(cs:List C)(off:Nat)(s:Nat × Nat × Nat)(st:cG)(r:List C):(gn cs off (s::st) r).length=cs.length:=by grind [gn]
def gV(F:Nat->AV)(y:Operand)(K:(Nat->AV)->Option Nat->List C->Prop):Prop:=
 match y with
 | .tmp t=>match F t with
  | .H .one cs=>K (updH F t .one (splice cs 0 (List.replicate cs.length .x))) none cs
  | .H .agg cs=>K (updH F t .agg (splice cs 0 (List.replicate cs.length .x))) (some cs.length) cs
  | .c1 b a [] ag=>(match F b with
    | .H k cs=>bif Nat.ble (a+ag.getD 1) cs.length then K (updN F b k (splice cs a (List.replicate (ag.getD 1) .x))) ag (bE cs a (ag.getD 1)) else False
    | _=>False)
  | .c1 b a (s::st) ag=>(match F b with
    | .H k cs=>Lq cs a (s::st) (ag.getD 1) λxs c=>K (updN F b k c) ag xs
    | _=>False)
  | _=>False
 | _=>False
def bP(N:fm)(F:Nat->AV)(d:Nat)(av:AV)(K:(Nat->AV)->Prop):Prop:=bif N.free d&&!av.uses d then K (put F d av) else False
def fm.al(N:fm)(d:Nat):Bool:=N.mo.any λp=>Nat.beq p.1 (1000000+d)
def lD(N:fm)(F:Nat->AV)(d:Nat)(x:Operand)(K:(Nat->AV)->Prop):Prop:=
 match x with
 | .tmp t=>match F t with
  | .c1 ..=>bif N.al d then b9 F x λa=>bP N F d a K else gV F x λb c cs=>bP N b d (.H (m7 c) cs) K
  | .H .one cs=>bif bp cs then b9 F x λa=>bP N F d a K else gV F x λb c cs=>bP N b d (.H (m7 c) cs) K
  | .H .agg cs=>bif bp cs then b9 F x λa=>bP N F d a K else gV F x λb c cs=>bP N b d (.H (m7 c) cs) K
  | _=>b9 F x λa=>bP N F d a K
 | x=>b9 F x λa=>bP N F d a K
inductive Pu(bs:List C)(off:Nat)(st:cG)(xs:List C)(K:List C->Prop):Prop
 |mk_ (h:∃r j bs',co bs off st=some (r,j)/\lw bs off st/\j+xs.length<=r.length/\bs'=gn bs off st (splice r j xs)/\K bs')
variable{xs:List C}
theorem Pu.mk{b:List C}{K:List C->Prop}(h1:co b off st=some (r,j))(c:lw b off st)(d:j+xs.length<=r.length)(e:a=gn b off st (splice r j xs))(f:K a):Pu b off st xs K:=by
 refine .mk_ ?_;grind
theorem Pu.one{b:List C}{i k:Nat}{K:List C->Prop}(h1:b[off]? = some (.s o rows))(c:o.mine=true)(g:rows[i]? = some r)(h:r.length=k)(l:j+xs.length<=k)(n:a=b.set off (.s o (rows.set i (splice r j xs))))(d:K a):Pu b off [(i,k,j)] xs K:=by
 have f:o≠.S:=λe=>by subst e;cases c
 refine Pu.mk (r:=r) (j:=j) (by grind [co]) (by grind [lw]) ω (by grind [gn]) d
def CR:type_of% @Pu.one:=@Pu.one
theorem Pu.out{K:List C->Prop}(h:Pu a off st xs K):∃r j,co a off st=some (r,j)/\lw a off st/\j+xs.length<=r.length/\K (gn a off st (splice r j xs)):=by
 obtain⟨h⟩:=h;grind
def rj(F:Nat->AV)(x:Operand)(cs:List C)(K:(Nat->AV)->Prop):Prop:=
 match x with
 | .tmp d=>match F d with
  | .H .box c=>bif Nat.ble cs.length c.length then fc (splice c 0 cs) λa=>K (updH F d .box a) else False
  | .ref t b []=>(match F t with
    | .H .box c=>bif Nat.ble (b+cs.length) c.length then fc (splice c b cs) λa=>K (updH F t .box a) else False
    | _=>False)
  | .ref t b (s::st)=>(match F t with
    | .H k c=>Pu c b (s::st) cs λa=>K (RI F t k a)
    | _=>False)
  | _=>False
 | _=>False
def na(TE:Nat->Option TI)(F:Nat->AV)(T:Nat)(x y:Operand)(K:(Nat->AV)->Prop):Prop:=
 match TE T with
 | some i=>iN F (nM F y) λ_ cs=>bif Nat.beq cs.length i.size then(bif bp cs then rj F x cs K else gV F y λa _ cs=>bif Nat.beq cs.length i.size then rj a x cs K else False) else False
 | none=>False
section
variable{P:Program}{w0 w w1:World}{M S0 S:ah}{N:fm}{φ:Nat->ah}{F:Nat->AV}{a:Act}{TE:Nat->Option TI}
variable{cs:List C}{t:Nat}{φ1:Nat->ah}
def bf.toN{S1:ah}{k:Kd}{l:List C}{w':World}(h:bf w0 M S0 N S1 φ1 (updH F t k l) a w')(D:bf w0 M S0 N S φ F a w)(E:∀v,cn w' k v=cn w k v)(G:F t=.H k cs)(K:l.length=cs.length):bf w0 M S0 N S1 φ1 (updN F t k l) a w':=by
 refine⟨λs=>?_,h.dis,h.disS,h.ex,h.sub,h.sup,h.old,h.size,h.defers,h.par⟩;have b:=h.slot s;by_cases e:s=t
 ·subst e;rw[iZ]at b;rw[u5];exact b
 rw[gT _ _ _ e]at b;rw[zx _ _ _ e];cases c:F s with
 | dead=>trivial
 | H L cs3=>rw[c]at b;exact b
 | iref r q=>rw[c]at b;exact b
 | fn f caps=>rw[c]at b;exact b
 | fv Ok=>rw[c]at b;exact b
 | ref y q u=>
  rw[c]at b;cases u with
  | nil=>
   obtain⟨i,cs2,r,j,g,o,d,n⟩:=b;exact⟨i,cs2,r,j,g,o,q9 d,n⟩
  | cons H u=>
   simp only[t7]at b;simp only[R8];cases p:Nat.beq y t with
   | true=>trivial
   | false=>
    rw[p]at b;obtain⟨i,cs2,r,j,g,o,d,n⟩:=b;exact⟨i,cs2,r,j,g,o,q9 d,n⟩
 | c1 y q u O=>
  rw[c]at b;simp only[t7]at b;cases u with
  | nil=>
   simp only[R8];cases p:Nat.beq y t with
   | true=>
    have:=C3 p;subst this;have d:=D.slot s;rw[c]at d;obtain⟨i,cs2,r,j,A,B,P,J⟩:=d;rw[G]at A;cases A;simp only[co,I1,Prod.mk.injEq]at B;obtain⟨rfl,rfl⟩:=B;exact⟨_,_,_,_,u5 ..,rfl,ω,by rw[E];exact J⟩
   | false=>
    rw[p]at b;obtain⟨i,cs2,r,j,d,n⟩:=b;exact⟨i,cs2,r,j,q9 d,n⟩
  | cons H u=>
   simp only[R8];cases p:Nat.beq y t with
   | true=>trivial
   | false=>
    rw[p]at b;obtain⟨i,cs2,r,j,d,n⟩:=b;exact⟨i,cs2,r,j,q9 d,n⟩
def bf.toP{S1:ah}{k:Kd}{b:List C}{w':World}(h:bf w0 M S0 N S1 φ1 (updH F t k b) a w')(c:bf w0 M S0 N S φ F a w)(d:F t=.H k cs)(e:b.length=cs.length):bf w0 M S0 N S1 φ1 (RI F t k b) a w':=by
 cases k with
 | box=>exact h
 | _=>exact h.toN c (λ_=>rfl) d e
theorem bf.taken(h:bf w0 M S0 N S φ F a w){y:Operand}{K:(Nat->AV)->Option Nat->List C->Prop}(e:gV F y K) :
  ∃F' ag cs V φ',K F' ag cs/\bf w0 M S0 N S φ' F' a w/\br w S V ag cs (a.eval y)/\(∀b o,V b o->(∀t,¬φ' t b o)/\¬S b o/\b<w.heap.size/\(w0.heap.size<=b\/M b o))/\(∀t b o,φ' t b o->φ t b o)/\(∀b o,V b o->∃t,φ t b o):=by
 cases y with
 | tmp t=>
  have A:=h.slot t;simp only[gV]at e;have fin:∀(d c n:Nat)(k:Kd)(cs:List C),F d=.H k cs->c+n<=cs.length->∀(ag:Option Nat),ag.getD 1=n->(a.eval (.tmp t)=mkv ag λj=>cn w k (tvs a d) (c+j))->
    K (updH F d k (splice cs c (List.replicate n .x))) ag (bE cs c n)->
    ∃F' ag cs V φ',K F' ag cs/\bf w0 M S0 N S φ' F' a w/\br w S V ag cs (a.eval (.tmp t))/\(∀b o,V b o->(∀t,¬φ' t b o)/\¬S b o/\b<w.heap.size/\(w0.heap.size<=b\/M b o))/\(∀t b o,φ' t b o->φ t b o)/\(∀b o,V b o->∃t,φ t b o):=by
   intro d c n k cs p B ag J H D;obtain⟨V,X,f,E,O,u,l⟩:=h.take p B;refine⟨_,ag,_,V,_,D,l,⟨by simp[bE];omega,_,H,u⟩,λb o g=>⟨λq i=>?_,h.disS d b o (f b o g),h.ex d b o (f b o g)⟩,λq b o g=>?_,ψ⟩
   ·by_cases G:q=d
    ·grind
    rw[CC G]at i;exact h.dis q d G b o i (f b o g)
   grind
  have zZ:∀(d c n:Nat)(k:Kd)(cs:List C),F d=.H k cs->c+n<=cs.length->∀(ag:Option Nat),ag.getD 1=n->(a.eval (.tmp t)=mkv ag λj=>cn w k (tvs a d) (c+j))->
    K (updN F d k (splice cs c (List.replicate n .x))) ag (bE cs c n)->
    ∃F' ag cs V φ',K F' ag cs/\bf w0 M S0 N S φ' F' a w/\br w S V ag cs (a.eval (.tmp t))/\(∀b o,V b o->(∀t,¬φ' t b o)/\¬S b o/\b<w.heap.size/\(w0.heap.size<=b\/M b o))/\(∀t b o,φ' t b o->φ t b o)/\(∀b o,V b o->∃t,φ t b o):=by
   intro d c n k cs p B ag J H D;obtain⟨V,X,f,E,O,u,l⟩:=h.take p B;refine⟨_,ag,_,V,_,D,l.toN h (λ_=>rfl) p (by grind [splice]),⟨by simp[bE];omega,_,H,u⟩,λb o g=>⟨λq i=>?_,h.disS d b o (f b o g),h.ex d b o (f b o g)⟩,λq b o g=>?_,ψ⟩
   ·by_cases G:q=d
    ·grind
    rw[CC G]at i;exact h.dis q d G b o i (f b o g)
   grind
  cases p:F t with
  | H k cs=>
   rw[p]at e A;obtain⟨X1,Y,-,-,-,l,-⟩:=A;cases k with
   | one=>
    have B:cs.length=1:=l;refine fin t 0 cs.length .one cs p ω none (by simp[B]) rfl ?_
    grind [bE]
   | agg=>
    obtain⟨arr,H,P⟩:=l;refine fin t 0 cs.length .agg cs p ω (some cs.length) rfl ?_ ?_
    ·show tvs a t=_
     grind [qn,cn,Go.Value.cells]
    grind [bE]
   | _=>exact e.elim
  | c1 d c L ag=>
   rw[p]at e A;cases L with
   | cons s L=>
    simp only at e;obtain⟨k,cs,r,j,f,E,u,l⟩:=A;rw[f]at e;simp only at e;obtain⟨r',j',Q,R,T,D⟩:=Lq.out e;obtain⟨V,φ',U,W,Z,g4,g5⟩:=h.lend f Q R T;exact⟨_,ag,_,V,φ',D,W.toN h (λ_=>rfl) f (Bc ..),⟨by simp[bE];omega,_,l,U⟩,Z,g4,ψ⟩
   | nil=>
    simp only at e;obtain⟨k,cs,r,j,f,E,u,l⟩:=A;rw[f]at e;simp only[co,I1,Prod.mk.injEq]at E;obtain⟨rfl,rfl⟩:=E;simp only at e;cases g:Nat.ble (c+ag.getD 1) cs.length with
    | false=>grind
    | true=>
     rw[g]at e;exact zZ d c (ag.getD 1) k cs f u ag rfl (l.trans rfl) e
  | _=>grind
 | _=>exact e.elim
variable{K:(Nat->AV)->Prop}{v:Value}{d:Nat}
theorem bf.putD_new(h:bf w0 M S0 N S φ F a w){av:AV}(b:m8 w S F a av v w1)(c:bP N F d av K):∃F',K F'/\St w0 M S0 N F' (a.put (some d) v) w1:=by grind [bf.put_newR,bP]
variable{ag:Option Nat}
theorem bf.putD_taken{φ':Nat->ah}{F':Nat->AV}(h:bf w0 M S0 N S φ' F' a w){V:ah}(g:br w S V ag cs v)(i:∀b o,V b o->(∀t,¬φ' t b o)/\¬S b o/\b<w.heap.size/\(w0.heap.size<=b\/M b o))(e:bP N F' d (.H (m7 ag) cs) K):∃f,K f/\St w0 M S0 N f (a.put (some d) v) w:=by
 unfold bP at e;cases c:(N.free d&&!(AV.H (m7 ag) cs).uses d) with
 | false=>grind
 | true=>
  rw[c]at e;simp only[I0,Bool.not_eq_true']at c;exact⟨_,e,S,_,h.put_gen (CY _ _) c.1 g.slot c.2 ψ ψ ψ⟩
variable{x:Operand}
theorem bf.assign(h:bf w0 M S0 N S φ F a w)(b:lD N F d x K):∃F',K F'/\St w0 M S0 N F' (a.put (some d) (a.eval x)) w:=by
 have c:b9 F x (λe=>bP N F d e K)->∃F',K F'/\St w0 M S0 N F' (a.put (some d) (a.eval x)) w:=λi=>by
  obtain⟨e,j,k⟩:=h.move i;exact h.putD_new (m8.same k) j
 have n:gV F x (λF' l cs=>bP N F' d (.H (m7 l) cs) K)->∃F',K F'/\St w0 M S0 N F' (a.put (some d) (a.eval x)) w:=λi=>by grind [bf.taken,bf.putD_taken]
 cases x with
 | tmp t=>
  grind [lD]
 | const v=>exact c b
 | global g=>exact c b
 | func f=>exact c b
variable{T:Nat}
theorem bf.storeSt(h:bf w0 M S0 N S φ F a w){k:Kd}{p r:List C}{off j:Nat}{st:cG}(U:F t=.H k p)(D:st≠[])(W:co p off st=some (r,j))(X:lw p off st)(Q:j+cs.length<=r.length){V:ah}{u:Nat->Value}(i:cK w S V cs u)(q:Free w0 M S φ w V)(E:(P.info? T).map (·.size)=some cs.length)(Z:v.cells.toList=(List.range cs.length).map u){g o:Nat}(G:plc w (cn w k (tvs a t)) (pb k (tvs a t)) off st=some (g,o)) :
  ∃w1,(Instr.storeAt T (.pointer (some ⟨g,o,none⟩)) v).run P w=.ok () w1/\St w0 M S0 N (updH F t k (gn p off st (splice r j cs))) a w1:=by
 obtain⟨e,b,u',Y,R,e2,e3,e4,y,e6⟩:=h.focus U D W X;rw[e4]at G;simp only[I1,Prod.mk.injEq]at G;obtain⟨rfl,rfl⟩:=G;have H:v.cells.toList.length=cs.length:=by rw[Z];simp
 have J:v.cells.size=cs.length:=by simpa using H
 have hin:∀d,d<cs.length->(∃z,cel w e (b+j+d)=some z)/\fro w e (b+j+d)=NF:=λd hd=>by
  obtain⟨-,-,a3,a4⟩:=y (j+d) ω
  grind
 have l:∀x∈v.cells.toList,x.oneCell'=true:=λx c=>by grind [cK.one]
 have f:=run_storeCells_cells (P:=P) e (b+j) v.cells.toList 0 w ψ
  ψ l
 simp only[Nat.add_zero]at f;have A:bw (λx o=>x=e/\b+j<=o/\o<b+j+cs.length) w (w.setCells e (b+j) v.cells.toList):=eC _ _ _ ω;have hgv:∀d,d<cs.length->v.cells.toList[d]? = some (u d):=ψ
 have n:bq S w (w.setCells e (b+j) v.cells.toList):=λx o c=>⟨A.cel x o (h.sup x o c).1 (λB=>by
   have:=(y (o - b) ω).1;rw[show b+(o - b)=o by omega,<-B.1]at this;exact h.disS t x o this c),bM _ _ _ _ _ _⟩
 have K:bq Y w (w.setCells e (b+j) v.cells.toList):=λx o c=>⟨A.cel x o (h.ex t x o (R x o c)).1 (λB=>by
   have:=(y (o - b) ω).2.1
   grind),bM _ _ _ _ _ _⟩
 have L:bq V w (w.setCells e (b+j) v.cells.toList):=λx o c=>⟨A.cel x o (q x o c).2.2.1 (λB=>by
   have:=(y (o - b) ω).1;rw[show b+(o - b)=o by omega,<-B.1]at this;exact(q x o c).1 t this),bM _ _ _ _ _ _⟩
 refine⟨_,by simp[Instr.storeAt,Instr.sureAddr,storeVar,kN E,J,f],S,_,e6 _ (splice r j cs) (λd=>if j<=d/\d<j+cs.length then u (d - j) else u' d) (λx o=>Y x o\/V x o) _ A ω (λd hd=>⟨?_,by grind [bM]⟩) (cP Q) ((e2.keep n K).join (i.keep n L) Q (λx o c O=>(q x o O).1 t (R x o c))) (λx o c=>c.imp id (q x o))⟩
 grind [bo,aW]
theorem bf.putB(h:bf w0 M S0 N S φ F a w){V:ah}(L:br w S V ag cs v)(q:∀b o,V b o->(∀t,¬φ t b o)/\¬S b o/\b<w.heap.size/\(w0.heap.size<=b\/M b o))(e:(P.info? T).map (·.size)=some cs.length)(c:rj F x cs K) :
  ∃F' w1,K F'/\(Instr.storeAt T (a.eval x) v).run P w=.ok () w1/\St w0 M S0 N F' a w1:=by
 obtain⟨u,y,A⟩:=L.cells;cases x with
 | tmp B=>
  have l:=h.slot B;show ∃F' w1,K F'/\(Instr.storeAt T (tvs a B) v).run P w=.ok () w1/\_
  simp only[rj]at c;cases D:F B with
  | H k O=>
   rw[D]at c l;cases k with
   | box=>
    simp only at c;cases p:Nat.ble cs.length O.length with
    | false=>grind
    | true=>
     rw[p]at c;simp only[cond_true,dr]at c;obtain⟨Z,Y,-,-,-,⟨g,o,E,-⟩,-⟩:=l;obtain⟨w1,d,f⟩:=h.store (P:=P) D (off:=0) (by simp_all) A q e y (g:=g) (o:=o) (by rw[E];rfl)
     grind
   | _=>exact c.elim
  | ref t off H=>
   rw[D]at c l;cases H with
   | cons s H=>
    simp only at c;obtain⟨k,n,r,j,g,o,i,Q,G,J⟩:=l;rw[i]at c;obtain⟨r',j',R,U,W,X⟩:=c.out;obtain⟨w1,d,S1,φ1,f⟩:=h.storeSt (P:=P) i (by simp) R U W A q e y G;exact⟨_,w1,X,by rw[J];exact d,S1,φ1,f.toP h i (Bc ..)⟩
   | nil=>
    simp only at c;obtain⟨k,n,r,j,g,o,i,Q,G,J⟩:=l;rw[i]at c;cases k with
    | box=>
     simp only at c;cases p:Nat.ble (off+cs.length) n.length with
     | false=>grind
     | true=>
      rw[p]at c;simp only[cond_true,dr]at c;obtain⟨w1,d,f⟩:=h.store (P:=P) i (Z1 p) A q e y G
      grind
    | _=>exact c.elim
  | _=>grind
 | _=>exact c.elim
theorem bf.storeOp(h:bf w0 M S0 N S φ F a w)(d:∀t i,TE t=some i->iv P t i){y:Operand}(b:na TE F T x y K) :
  ∃F' w1,K F'/\(Instr.storeAt T (a.eval x) (a.eval y)).run P w=.ok () w1/\St w0 M S0 N F' a w1:=by
 unfold na at b;split at b
 case h_2=>exact b.elim
 rename_i i f;have g:=(d _ _ f).size;obtain⟨l,cs,Y,c,j,-⟩:=h.val (h.ev y) b;cases k:Nat.beq cs.length i.size with
 | false=>grind
 | true=>
  rw[k]at c;simp only[cond_true]at c;cases e:bp cs with
  | true=>
   rw[e]at c;exact h.putB (V:=NO) (j.bare e) (λ_ _ h=>h.elim) (by simp_all) c
  | false=>
   grind [bf.taken,bf.putB,C3]
end
def wl(F:Nat->AV)(x:Operand)(K:(Nat->AV)->Option Nat->List C->Prop):Prop:=iN F (nM F x) λa cs=>bif bp cs then K F a cs else gV F x K
def fillW(b:Nat->Option (Nat × Nat)):List (Nat × Operand)->List C->((Nat->AV)->List C->Prop)->(Nat->AV)->Prop
 | [],cs,K,F=>K F cs
 | p::rest,cs,K,F=>match b p.1 with
  | some q=>wl F p.2 λc _ xs=>bif Nat.beq xs.length q.2&&Nat.ble (q.1+q.2) cs.length then fc (splice cs q.1 xs) λa=>fillW b rest a K c else False
  | none=>False
def l9(TE:Nat->Option TI)(N:fm)(F:Nat->AV)(d T:Nat)(parts:List (Nat × Operand))(K:(Nat->AV)->Prop):Prop:=
 match TE T with
 | some ⟨_,_,zero,.st flds⟩=>bif Ex TE flds then fillW (Vp TE flds) parts zero (λa cs=>bP N a d (.H .agg cs) K) F else False
 | _=>False
def gq(TE:Nat->Option TI)(N:fm)(F:Nat->AV)(d T n:Nat)(parts:List (Nat × Operand))(K:(Nat->AV)->Prop):Prop:=
 Js TE T λ_ b=>bif Nat.ble (n*b.size) 16777216 then(match n,parts with
   | 0,[]=>bP N F d (.H .one [.z]) K
   | n+1,parts=>fc (rep b.zero (n+1)) λcs=>fillW (Wq b.size) parts cs (λe c=>V6 b.size (n+1) c λa=>bP N e d (.H .one [.s .own a]) K) F
   | _,_=>False) else False
def Qy(N:fm)(F:Nat->AV)(d:Nat)(x:Operand)(K:(Nat->AV)->Prop):Prop:=wl F x λa _ cs=>bP N a d (.H .box cs) K
inductive Ap(flat:Bool)(rows xr:List (List C))(sz by_:Nat)(K:List (List C)->Prop):Prop
 |mk_ (h:(∀r∈rows,r.length=sz)/\(∀r∈xr,r.length=sz)/\(flat=true->∀r∈xr,bp r=true)/\rows.length+xr.length<=140737488355328/\(rows.length+xr.length)*by_<=140737488355328/\∃rs,rs=rows++xr/\K rs)
variable{xr:List (List C)}{flat:Bool}
theorem Ap.mk{a:List (List C)}{sz by_:Nat}{K:List (List C)->Prop}(h1:∀r∈rows,r.length=sz)(b:∀r∈xr,r.length=sz)(c:flat=true->∀r∈xr,bp r=true)(d:rows.length+xr.length<=140737488355328)(e:(rows.length+xr.length)*by_<=140737488355328)(f:a=rows++xr)(g:K a):Ap flat rows xr sz by_ K:=by refine .mk_ ?_;grind
def CU:type_of% @Ap.mk:=@Ap.mk
theorem Ap.out{sz by_:Nat}{K:List (List C)->Prop}(h:Ap flat rows xr sz by_ K) :
  (∀r∈rows,r.length=sz)/\(∀r∈xr,r.length=sz)/\(flat=true->∀r∈xr,bp r=true)/\rows.length+xr.length<=140737488355328/\(rows.length+xr.length)*by_<=140737488355328/\K (rows++xr):=by
 obtain⟨h⟩:=h;grind
def Ez(F:Nat->AV)(y:Operand)(K:Bool->(Nat->AV)->List (List C)->Prop):Prop:=
 match nM F y with
 | .H .one [.s .own _]=>gV F y λb a cs=>match a,cs with|none,[.s .own rows]=>K false b rows|_,_=>False
 | c=>iN F c λa cs=>match a,cs with
  | none,[.s _ rows]=>K true F rows
  | none,[.z]=>K true F []
  | _,_=>False
def Bw(F:Nat->AV)(x:Operand)(K:(Nat->AV)->List (List C)->Prop):Prop:=
 iN F (nM F x) λa cs=>match a,cs with
  | none,[.z]=>K F []
  | none,[.s .own _]=>gV F x λb a cs=>match a,cs with|none,[.s .own rows]=>K b rows|_,_=>False
  | _,_=>False
def BP(TE:Nat->Option TI)(N:fm)(F:Nat->AV)(d T:Nat)(x y:Operand)(K:(Nat->AV)->Prop):Prop:=
 Js TE T λ_ b=>Ez F y λc e f=>Bw e x λF'' a=>Ap c a f b.size b.bytes λg=>bP N F'' d (.H .one [.s .own g]) K
section
variable{P:Program}{w0 w w1:World}{M S0 S:ah}{N:fm}{φ:Nat->ah}{F:Nat->AV}{a:Act}{TE:Nat->Option TI}
variable{x:Operand}
def bf.give(h:bf w0 M S0 N S φ F a w){K:(Nat->AV)->Option Nat->List C->Prop}(e:wl F x K) :
  ∃F' ag cs V φ',K F' ag cs/\bf w0 M S0 N S φ' F' a w/\br w S V ag cs (a.eval x)/\Free w0 M S φ' w V/\(∀t b o,φ' t b o->φ t b o)/\(∀b o,V b o->∃t,φ t b o):=by
 obtain⟨ag,cs,Y,c,f,-⟩:=h.val (h.ev x) e;cases d:bp cs with
 | true=>rw[d]at c;exact⟨F,ag,cs,NO,φ,c,h,f.bare d,λ_ _ h=>h.elim,λ_ _ _ h=>h,λ_ _ h=>h.elim⟩
 | false=>rw[d]at c;exact h.taken c
theorem bf.fillW{E:Nat->Option (Nat × Nat)} : ∀{parts:List (Nat × Operand)}{cs:List C}{K:(Nat->AV)->List C->Prop}{F:Nat->AV}{φ:Nat->ah}{u:Nat->Value}{cells:Array Value}{Y:ah},bf w0 M S0 N S φ F a w->Ab.fillW E parts cs K F->cK w S Y cs u->Free w0 M S φ w Y->
  cells.toList=(List.range cs.length).map u->
  ∃F' φ' c g cells' i,K F' c/\bf w0 M S0 N S φ' F' a w/\c.length=cs.length/\cK w S i c g/\Free w0 M S φ' w i/\Instr.fill E cells (parts.map λp=>(p.1,a.eval p.2))=some cells'/\cells'.toList=(List.range c.length).map g
 | [],cs,K,F,φ,u,cells,Y,h,d,j,f,k=>⟨F,φ,cs,u,cells,Y,d,h,rfl,j,f,rfl,k⟩
 | p::rest,cs,K,F,φ,u,cells,Y,h,d,j,f,k=>by
  simp only[Ab.fillW]at d;split at d
  case h_2=>exact d.elim
  rename_i q G;obtain⟨F',T,xs,V,φ',l,H,J,L,O,n⟩:=h.give d;cases e:(Nat.beq xs.length q.2&&Nat.ble (q.1+q.2) cs.length) with
  | false=>grind
  | true=>
   rw[e]at l;simp only[I0]at e;have P:=C3 e.1;have Q:=Z1 e.2;simp only[cond_true,dr]at l;obtain⟨U,r,y⟩:=J.cells;obtain⟨cells1,W,A⟩:=BS (rest:=rest.map λp=>(p.1,a.eval p.2)) G k r P Q;have B:=j.join y (off:=q.1) ω (λb o e D=>by obtain⟨t,R⟩:=n b o D;exact(f b o e).1 t R);obtain⟨X,φ2,c,g,cells',i,Z,e2,e3,e4,e5,e6,e7⟩:=bf.fillW H l B ((f.less O).or L) A
   grind [cP]
variable{K:(Nat->AV)->Prop}{d:Nat}
theorem bf.putD_free(h:bf w0 M S0 N S φ F a w){k:Kd}{cs:List C}{v:Value}{X:ah}(j:cN w S F (tvs a) X (.H k cs) v)(f:Free w0 M S φ w X)(g:bP N F d (.H k cs) K) :
  ∃i,K i/\St w0 M S0 N i (a.put (some d) v) w:=by
 unfold bP at g;cases e:(N.free d&&!(AV.H k cs).uses d) with
 | false=>grind
 | true=>
  rw[e]at g;simp only[I0,Bool.not_eq_true']at e;exact⟨_,g,S,_,h.put_gen (CY _ _) e.1 j e.2 (λb o c=>(f b o c).2.2) (λt _ b o c=>(f b o c).1 t) (λb o c=>(f b o c).2.1)⟩
theorem Jj{zero:List C}{cells:Array Value}(a:cells.toList=zero.map cval):cells.toList=(List.range zero.length).map (λj=>(zero.map cval).getD j undef):=by
 rw[a];apply List.ext_getElem?
 grind
variable{parts:Array (Nat × Operand)}{T:Nat}
theorem bf.buildW(h:bf w0 M S0 N S φ F a w)(c:∀t i,TE t=some i->iv P t i)(e:l9 TE N F d T parts.toList K) :
  ∃v F',K F'/\(Instr.build T (parts.map λ(i,x)=>(i,a.eval x))).run P w=.ok v w/\St w0 M S0 N F' (a.put (some d) v) w:=by
 unfold l9 at e;split at e
 case h_2=>exact e.elim
 rename_i size bytes zero flds k;cases l:Ex TE flds with
 | false=>grind
 | true=>
  rw[l]at e;have g:=(c _ _ k).2.1;obtain⟨F',φ',b,n,cells',o,p,q,D,r,u,E,y⟩:=bf.fillW h e (pF g S) (λ_ _ h=>h.elim) (Jj (cells:=(zero.map cval).toArray) (by simp));have A:cells'.size=b.length:=by have:=C1 List.length y;simpa using this
  have f:br w S o (some b.length) b (.agg cells'):=⟨rfl,n,by simp only[mkv];congr 1;grind,r⟩
  obtain⟨B,C,j⟩:=q.putD_free f.slot u p;refine⟨.agg cells',B,C,yj c k l λcells G=>?_,j⟩;have:cells=(zero.map cval).toArray:=ψ
  simp_all
theorem bf.buildSW(h:bf w0 M S0 N S φ F a w)(r:∀t i,TE t=some i->iv P t i){n:Nat}(Q:gq TE N F d T n parts.toList K) :
  ∃v w1 F',K F'/\(Instr.buildSlice T n (parts.map λ(i,x)=>(i,a.eval x))).run P w=.ok v w1/\St w0 M S0 N F' (a.put (some d) v) w1:=by
 obtain⟨e,u,q,z,f,he,R,y,U,G,V,W,A,g,Y,Z⟩:=kw r Q;cases c:Nat.ble (n*u.size) 16777216 with
 | false=>grind
 | true=>
  rw[c]at f;have B:=Z1 c;simp only[cond_true]at f;split at f
  ·rename_i hparts
   have:parts = #[]:=ψ
   subst this;have C:=h.world (w1:=w.alloc (.cells #[] e)) (cQ w _) (λ_ _ h=>h.elim);obtain⟨H,j,k⟩:=C.putD_free (X:=NO) (v:=.slice (some ⟨w.heap.size,0,none⟩) 0 0) (g9 (.z _ _)) (λ_ _ h=>h.elim) f
   grind [vY]
  ·rename_i n
   rw[Nat.succ_eq_add_one]at B;rw[dr]at f;obtain⟨F',φ',D,u',cells',Y',J,l,e3,e4,L,O,e7⟩:=bf.fillW h f (uS y.2.1 S _) (λ_ _ h=>h.elim) (pT A ω (rep u.zero (n+1)).length);rw[p8]at J;have E:D.length=(n+1)*u.size:=by grind [ov]
   have C:=l.world (w1:=w.alloc (.cells cells' e)) (cQ w _) (λ_ _ h=>h.elim);have p:=y9 (e:=e) e4 E ω e7 (λb o c=>(l.sup b o c).1) (λb o c=>(L b o c).2.2.1);obtain⟨H,j,k⟩:=C.putD_free (g9 p) (λb o c=>by
     rcases c with c|c
     · obtain⟨a1,a2,a3,a4⟩:=L b o c
       grind [kh]
     exact⟨λt y=>by have:=(l.ex t b o y).1;omega,λhS=>by have:=(l.sup b o hS).1;omega,c.2,.inl (Z6 l.old.size c.1)⟩) J
   refine⟨_,_,H,j,run_buildSlice w T e (n+1) _ cells' q z R V W (by rw[g];omega) ψ ?_,k⟩;rw[g,Array.toList_map];rw[ov,U]at O;exact O
  exact f.elim
theorem bf.boxW(h:bf w0 M S0 N S φ F a w)(r:Qy N F d x K) :
  ∃v w1 F',K F'/\(Instr.box T (a.eval x)).run P w=.ok v w1/\St w0 M S0 N F' (a.put (some d) v) w1:=by
 obtain⟨y,O,cs,V,φ',A,e,B,p,Q,C⟩:=h.give r;obtain⟨u,q,D⟩:=B.cells;have E:(a.eval x).cells.size=cs.length:=by have:=C1 List.length q;simpa using this
 have G:=e.world (w1:=w.alloc (.cells (a.eval x).cells T)) (cQ w _) (λ_ _ h=>h.elim);have g:∀j,j<cs.length->cel (w.alloc (.cells (a.eval x).cells T)) w.heap.size j=some (u j):=λj i=>by
  rw[i6,<-Array.getElem?_toList,q,S4,S9 i];rfl
 have f:∀b o,V b o->b<w.heap.size:=λb o c=>(p b o c).2.2.1
 obtain⟨H,l,n⟩:=G.putD_free (X:=λb o=>V b o\/(b=w.heap.size/\o<cs.length)) (k:=.box) (cs:=cs) (v:=.pointer (some ⟨w.heap.size,0,none⟩)) (F:=y) ⟨λb o=>b=w.heap.size/\o<cs.length,V,λ_ _ h=>.inr h,λ_ _ h=>.inl h,ψ,
   ⟨_,_,rfl,λj i=>⟨⟨rfl,ω⟩,ψ,by grind [iA]⟩⟩,(D.keep (iM (cQ w _) λb o c=>(e.sup b o c).1) (iM (cQ w _) f)).congr λj i=>by grind [cn]⟩ (λb o c=>by
   rcases c with c|c
   · obtain⟨R,U,W,Y⟩:=p b o c
     grind [kh]
   exact⟨λt J=>by have:=(e.ex t b o J).1;omega,λL=>by have:=(e.sup b o L).1;omega,by simp_all,.inl (by rw[c.1];exact e.old.size)⟩) A
 exact⟨_,_,H,l,by simp[Instr.box,newVar,newRow],n⟩
theorem bf.src(h:bf w0 M S0 N S φ F a w){y:Operand}{sz:Nat}{K:Bool->(Nat->AV)->List (List C)->Prop}(k:Ez F y K) :
  ∃E F' xr φ',K E F' xr/\bf w0 M S0 N S φ' F' a w/\(∀t b o,φ' t b o->φ t b o)/\((∀r∈xr,r.length=sz)->(E=true->∀r∈xr,bp r=true)->
    ∃b c u2 f2 V,a.eval y=.slice b xr.length c/\oI w b (xr.length*sz) ((List.range (xr.length*sz)).map u2)/\AC w S V xr sz u2 f2/\Free w0 M S φ' w V/\(∀b o,V b o->∃t,φ t b o)):=by
 unfold Ez at k;split at k
 ·obtain⟨F',p,cs,V,φ',i,O,l,P,Q,R⟩:=h.taken k
  match p,cs,i with
  | none,[.s .own d],i=>
   refine⟨false,F',d,φ',i,O,Q,λq _=>?_⟩;rcases l.rep1.els (by simp) q with⟨rfl,T,e⟩|⟨g,A,u,f,e,G,H,B,hu,hE⟩
   ·exact⟨T,0,λ_=>undef,λ_=>NO,NO,e,⟨by simp,λ_=>by simp,λJ j u _ n=>by simp at n⟩,⟨ω,ψ,ψ,ψ⟩,λ_ _ h=>h.elim,λ_ _ h=>h.elim⟩
   refine⟨_,A,u,f,_,e,⟨by simp,ψ,λJ j y U n=>?_⟩,hE,λb o D=>P b o D.1,ψ⟩
   grind [jy]
 obtain⟨p,cs,Y,i,l,-⟩:=h.val (h.ev y) k
 match p,cs,i with
 | none,[.s o d],i=>
  refine⟨true,F,d,φ,i,h,λ_ _ _ h=>h,λq W=>?_⟩;obtain⟨b,c,u,X,Z,e3⟩:=l.rep1.flat (λr L=>⟨q r L,W rfl r L⟩);exact⟨b,c,u,_,NO,X,Z,e3,λ_ _ h=>h.elim,λ_ _ h=>h.elim⟩
 | none,[.z],i=>
  obtain⟨b,D⟩:=z6 l.rep1;exact⟨true,F,[],φ,i,h,λ_ _ _ h=>h,λ_ _=>⟨b,0,λ_=>undef,λ_=>NO,NO,D,⟨by simp,λ_=>by simp,λJ j u _ n=>by simp at n⟩,⟨ω,ψ,ψ,ψ⟩,λ_ _ h=>h.elim,λ_ _ h=>h.elim⟩⟩
def bf.base(h:bf w0 M S0 N S φ F a w){K:(Nat->AV)->List (List C)->Prop}(g:Bw F x K) :
  ∃F' rows φ' V,K F' rows/\bf w0 M S0 N S φ' F' a w/\(∀t b o,φ' t b o->φ t b o)/\dK w S V (.s .own rows) (a.eval x)/\Free w0 M S φ' w V/\(∀b o,V b o->∃t,φ t b o):=by
 obtain⟨d,cs,Y,c,e,-⟩:=h.val (h.ev x) g
 match d,cs,c with
 | none,[.z],c=>
  obtain⟨b,i⟩:=z6 e.rep1;exact⟨F,[],φ,NO,c,h,λ_ _ _ h=>h,by rw[i];exact .nil _ _ _ trivial,λ_ _ h=>h.elim,λ_ _ h=>h.elim⟩
 | none,[.s .own _],c=>
  obtain⟨F',d,cs,V,φ',c,j,e,k,l,f⟩:=h.taken c
  match d,cs,c with
  | none,[.s .own rows],c=>exact⟨F',rows,φ',V,c,j,l,e.rep1,k,f⟩
theorem bf.appW(h:bf w0 M S0 N S φ F a w)(C:∀t i,TE t=some i->iv P t i){ty:Nat}{y:Operand}(hp:BP TE N F d T x y K) :
  ∃v w1 F',K F'/\(Builtin.append_ #[T,T] ty #[a.eval x,a.eval y]).run P w=.ok v w1/\St w0 M S0 N F' (a.put (some d) v) w1:=by
 obtain⟨e,ie,q,z,g,he,hu,n,hl,X,hi,hz,D,p,E,G⟩:=kw C hp;obtain⟨fl,F1,xr,φ1,g,s1,hs1,r⟩:=h.src (sz:=ie.size) g;obtain⟨F2,Y,φ2,V,g,u,H,A,B,J⟩:=s1.base g;obtain⟨h1,h2,h3,h4,h5,g⟩:=g.out;obtain⟨b,c,u2,f2,V2,hy,Z,hE,j,hVt2⟩:=r h2 h3;have L:∀x∈z.cells.toList,x.oneCell'=true:=by rw[D];exact F7 n.2.1
 rw[<-p]at Z hE;obtain⟨v',w',hrun,k,l⟩:=rQ (P:=P) (ty:=ty) (c:=c) hu hi hz G L A (by rw[p];exact h1) hE Z (λb o f O=>by obtain⟨t,n⟩:=J b o f;exact(j b o O).1 t n) (λb o f=>(B b o f).2.1) (λb o f=>(B b o f).2.2.1)
  (λb o f=>(j b o f).2.2.1) (λb o f=>(u.sup b o f).1) h4 (by rw[E];exact h5)
 have s3:=u.world k B;obtain⟨F3,hK3,hst⟩:=s3.putD_free (g9 l) (λb o f=>by
   rcases f with f|f|f
   · obtain⟨Q,R,U,W⟩:=B b o f
     exact⟨Q,R,O5 U k.size,W⟩
   · obtain⟨Q,R,U,W⟩:=(j.less H) b o f
     exact⟨Q,R,O5 U k.size,W⟩
   exact⟨λt n=>by have:=(u.ex t b o n).1;omega,λhS=>by have:=(u.sup b o hS).1;omega,f.2,.inl (Z6 u.old.size f.1)⟩) g
 grind
end
inductive MA where
 |val (ag:Option Nat) (cs:List C)
 |mut (ag:Option Nat) (cs:List C)
 |ptr (cs:List C)
def qS(w:World)(S V:ah):MA->Value->Prop
 | .val ag cs,v=>br w S NO ag cs v
 | .mut ag cs,v=>br w S V ag cs v
 | .ptr cs,v=>∃a Y:ah,(∀b o,a b o->V b o)/\(∀b o,Y b o->V b o)/\(∀b o,a b o->¬Y b o)/\fN w a .box cs.length v/\cK w S Y cs (cn w .box v)
def NM(w:World)(S:ah):(Nat->ah)->List MA->List Value->Prop
 | _,[],[]=>True
 | V,m::ms,v::vs=>qS w S (V 0) m v/\NM w S (λi=>V (i+1)) ms vs
 | _,_,_=>False
def JO(w:World)(S V:ah):MA->Value->Prop
 | .val _ _,_=>True
 | m,v=>qS w S V m v
def Ef(w:World)(S:ah):(Nat->ah)->List MA->List Value->Prop
 | _,[],[]=>True
 | V,m::ms,v::vs=>JO w S (V 0) m v/\Ef w S (λi=>V (i+1)) ms vs
 | _,_,_=>False
structure bg(P:Program)(f:Nat)(sh:Bool)(A B:List MA)(k:Kd)(rcs:List C):Prop where
 has:LH P f
 run:∀(w:World)(S:ah)(V:Nat->ah)(vs:List Value),(∀b o,S b o->b<w.heap.size)->(∀i b o,V i b o->b<w.heap.size/\¬S b o)->(∀i i',i≠i'->∀b o,V i b o->¬V i' b o)->NM w S V A vs->
  Calls P f vs.toArray w λe w1=>∃v,e=.returned v/\bw (λb o=>∃i,V i b o) w w1/\∃(X:ah)(V':Nat->ah)(S1:ah),
   (∀b o,X b o->(∃i,V i b o)\/(b<w1.heap.size/\w.heap.size<=b))/\(∀i b o,V' i b o->(∃i,V i b o)\/(b<w1.heap.size/\w.heap.size<=b))/\
   (∀b o,S1 b o->(sh=true/\S b o)\/(∃i,V i b o)\/(b<w1.heap.size/\w.heap.size<=b))/\
   (∀i i',i≠i'->∀b o,V' i b o->¬V' i' b o)/\(∀i b o,X b o->¬V' i b o)/\(∀b o,X b o->¬S1 b o)/\(∀i b o,V' i b o->¬S1 b o)/\
   fN w1 NO k rcs.length v/\cK w1 S1 X rcs (cn w1 k v)/\Ef w1 (λb o=>S b o\/S1 b o) V' B vs
inductive rS where
 |no
 |at_ (t off:Nat) (st:cG)
 |box (t:Nat)
def lendAt(F:Nat->AV)(t off:Nat)(st:cG)(n:Nat)(K:(Nat->AV)->List C->Prop):Prop:=
 match F t with
 | .H k b=>(match st with
   | []=>bif Nat.ble (off+n) b.length then fc (bE b off n) λcs=>fc (splice b off (List.replicate n .x)) λa=>K (updH F t k a) cs else False
   | s::st=>Lq b off (s::st) n λcs a=>K (updH F t k a) cs)
 | _=>False
def lendP:List (Operand × Nat)->((Nat->AV)->List (MA × rS)->Prop)->(Nat->AV)->Prop
 | [],K,F=>K F []
 | (_,0)::xs,K,F=>lendP xs (λa l=>K a ((.val none [],.no)::l)) F
 | (x,1)::xs,K,F=>(match x with
   | .tmp s=>(match F s with
     | .H .one _=>lendAt F s 0 [] 1 λb cs=>lendP xs (λa l=>K a ((.mut none cs,.at_ s 0 [])::l)) b
     | .H .agg cs0=>lendAt F s 0 [] cs0.length λb cs=>lendP xs (λa l=>K a ((.mut (some cs0.length) cs,.at_ s 0 [])::l)) b
     | .c1 t off st ag=>lendAt F t off st (ag.getD 1) λb cs=>lendP xs (λa l=>K a ((.mut ag cs,.at_ t off st)::l)) b
     | _=>False)
   | _=>False)
 | (x,_+2)::xs,K,F=>(match x with
   | .tmp s=>(match F s with
     | .ref t 0 []=>(match F t with|.H .box cs=>lendP xs (λa l=>K a ((.ptr cs,.box t)::l)) (kill F t)|_=>False)
     | .H .box cs=>lendP xs (λa l=>K a ((.ptr cs,.box s)::l)) (kill F s)
     | _=>False)
   | _=>False)
def Wn:C->C
 | .s (.tag _) rows=>.s .own rows
 | c=>c
def Vs:List C->List C
 | []=>[]
 | c::cs=>Wn c::Vs cs
def W2:MA->MA
 | .mut ag cs=>.mut ag (Vs cs)
 | m=>m
def Ww:C->C->C
 | .s (.tag z) _,.s .own rows=>.s (.tag z) rows
 | _,o=>o
def R5:List C->List C->List C
 | c::cs,o::a=>Ww c o::R5 cs a
 | _,a=>a
def W0:MA->List C
 | .val _ cs=>cs
 | .mut _ cs=>cs
 | .ptr cs=>cs
theorem Fn:∀(cs:List C),Vs cs=cs.map Wn
 | []=>rfl
 | c::cs=>by simp[Vs,Fn cs]
theorem tI:∀(cs a:List C),(R5 cs a).length=a.length
 | [],a=>by cases a<;>rfl
 | c::cs,[]=>rfl
 | c::cs,o::a=>by simp[R5,tI cs a]
theorem LY:∀{cs a:List C}{j:Nat}{b:C},(R5 cs a)[j]? = some b->∃o,a[j]? = some o/\(b=o\/∃z r rows,cs[j]? = some (.s (.tag z) r)/\o=.s .own rows/\b=.s (.tag z) rows)
 | [],a,j,b,h=>by
  have:R5 [] a=a:=by cases a<;>rfl
  grind
 | c::cs,[],j,b,h=>by simp[R5]at h
 | c::cs,o::a,0,b,h=>by
  simp only[R5,List.getElem?_cons_zero,I1]at h;refine⟨o,rfl,?_⟩;unfold Ww at h
  grind
 | c::cs,o::a,j+1,b,h=>by
  simp only[R5,List.getElem?_cons_succ]at h |-;exact LY h
variable{v:Value}{S Y:ah}{w:World}
theorem dK.ut{c:C}(h:dK w S Y c v):dK w S Y (Wn c) v:=by
 cases c with
 | s o b=>
  cases o with
  | tag z=>
   cases h with
   | nil _ o a j=>exact .nil _ _ _ trivial
   | own _ o g k n i b u f j l p d e q r t y A=>exact .own _ _ g k n i b u f trivial l p d e q r t y A
  | _=>exact h
 | _=>exact h
theorem dK.tagOf{z:Value}(h:dK w S Y (.s (.tag z) rows) v):z=v:=by
 cases h with
 | nil _ o a b=>exact b
 | own _ o g k n e rows u f b i j c d l p q r t=>exact b
theorem dK.rt{z:Value}(h:dK w S Y (.s .own rows) v)(e:z=v):dK w S Y (.s (.tag z) rows) v:=by
 cases h with
 | nil _ o a i=>exact .nil _ _ _ e
 | own _ o g k n d rows u f i j l b c p q r t y=>exact .own _ _ g k n d rows u f e j l b c p q r t y
variable{u:Nat->Value}
theorem cK.ut(h:cK w S Y cs u):cK w S Y (Vs cs) u:=by
 obtain⟨f,a,b,d⟩:=h;rw[Fn];refine⟨f,λj c e=>?_,ψ,ψ⟩
 grind [dK.ut]
theorem cK.rt{w1:World}{S' k:ah}{b:List C}{e:Nat->Value}(h:cK w S Y cs u)(h':cK w1 S' k b e)(q:∀d,d<b.length->e d=u d):cK w1 S' k (R5 cs b) e:=by
 obtain⟨f,r,t,y⟩:=h;obtain⟨l,n,g,i⟩:=h';refine⟨l,λj c a=>?_,λj a=>g j (by rwa [tI]at a),λj o a p=>i j o (by rwa [tI]at a) (by grind [tI])⟩
 grind [LY,dK.rt,dK.tagOf]
def valsP(F:Nat->AV):List (MA × rS)->List Operand->(Bool->List MA->Prop)->Prop
 | [],[],K=>K true []
 | (_,.no)::l,x::xs,K=>iN F (nM F x) λa cs=>valsP F l xs λb A=>bif bp cs then K b (.val a cs::A) else K false (.val a (ed cs)::A)
 | (m,.at_ _ _ _)::l,_::xs,K=>valsP F l xs λb A=>K b (W2 m::A)
 | (m,.box _)::l,_::xs,K=>valsP F l xs λb A=>K b (m::A)
 | _,_,_=>False
def setH(F:Nat->AV)(t:Nat)(av:AV):Nat->AV:=λs=>bif Nat.beq s t then av else F s
def rS.slot:rS->List Nat
 | .no=>[]
 | .at_ t _ _=>[t]
 | .box t=>[t]
def wq:List (MA × rS)->Bool
 | []=>true
 | q::l=>(q.2.slot.all λt=>l.all λa=>!a.2.slot.any (Nat.beq t))&&wq l
def io:List (MA × rS)->List MA->((Nat->AV)->Prop)->(Nat->AV)->Prop
 | [],[],K,F=>K F
 | (_,.no)::l,_::B,K,F=>io l B K F
 | (m,.at_ t a c)::l,.mut _ out::B,K,F=>(match F t with
   | .H k d=>(match c with
     | []=>bif Nat.ble (a+out.length) d.length then fc (splice d a (R5 (W0 m) out)) λb=>io l B K (updH F t k b) else False
     | s::c=>Pu d a (s::c) out λb=>io l B K (updH F t k b))
   | _=>False)
 | (_,.box t)::l,.ptr out::B,K,F=>(match F t with
   | .dead=>io l B K (setH F t (.H .box out))
   | _=>False)
 | _,_,_,_=>False
def GC:List MA->Prop
 | []=>True
 | .val _ _::B=>GC B
 | .mut _ cs::B=>iq cs/\GC B
 | .ptr cs::B=>iq cs/\GC B
inductive du(P:Program)(f:Nat)(b:Bool)(A:List MA)(K:Kd->List C->List MA->Prop):Prop
 |mk_ (h:∃sh B k rcs,bg P f sh A B k rcs/\(b=true\/(sh=false/\GC B))/\K k rcs B)
theorem du.mk{sh:Bool}{A B:List MA}{K:Kd->List C->List MA->Prop}(h:bg P f sh A B k rcs)(a:b=true\/(sh=false/\GC B))(c:K k rcs B):du P f b A K:=by refine .mk_ ?_;grind
theorem CK:type_of% @du.mk:=@du.mk
theorem du.out{A:List MA}{K:Kd->List C->List MA->Prop}(h:du P f b A K):∃sh B k rcs,bg P f sh A B k rcs/\(b=true\/(sh=false/\GC B))/\K k rcs B:=by obtain⟨h⟩:=h;exact h
def mt(P:Program)(N:fm)(F:Nat->AV)(d:Option Nat)(f:Nat)(args:List Operand)(modes:List Nat)(K:(Nat->AV)->Prop):Prop:=
 lendP (args.zip modes) (λa l=>bif wq l&&Nat.beq args.length modes.length then valsP a l args λb A=>du P f b A λk rcs B=>io l B (λF''=>match d with|some d=>bP N F'' d (.H k rcs) K|none=>K F'') a else False) F
def AU(F:Nat->AV)(x:Operand)(K:Nat->Nat->Prop):Prop:=
 match x with
 | .tmp s=>(match F s with
   | .ref t off []=>K t off
   | _=>False)
 | _=>False
def zO(N:fm)(F:Nat->AV)(d:Option Nat)(t:Nat)(cs:List C)(c e f g:Nat)(K:(Nat->AV)->Prop)(k:Kd)(rcs:List C):List MA->Prop
 | [.ptr a,.ptr c1']=>bif Nat.beq a.length e&&Nat.beq c1'.length g then fc (splice (splice cs c a) f c1') λb=>(match d with|some d=>bP N (setH (kill F t) t (.H .box b)) d (.H k rcs) K|none=>K (setH (kill F t) t (.H .box b))) else False
 | _=>False
def kV(P:Program)(N:fm)(F:Nat->AV)(d:Option Nat)(f:Nat)(args:List Operand)(b c:Nat)(K:(Nat->AV)->Prop):Prop:=
 match args with
 | [x0,g]=>AU F x0 λt e=>AU F g λh a=>(match F t with
   | .H .box cs=>bif Nat.beq h t&&Nat.ble (e+b) a&&Nat.ble (a+c) cs.length then fc (bE cs e b) λi=>fc (bE cs a c) λj=>du P f true [.ptr i,.ptr j] λk rcs B=>zO N F d t cs e b a c K k rcs B else False
   | _=>False)
 | _=>False
def VM:List Nat->Option (Nat × Nat)
 | []=>none
 | m::l=>bif Nat.beq m 3 then(match l with
   | []=>none
   | a::l=>(match l with
     | []=>none
     | b::_=>some (a,b))) else none
def kZ(P:Program)(N:fm)(F:Nat->AV)(d:Option Nat)(f:Nat)(args:List Operand)(modes:List Nat)(K:(Nat->AV)->Prop):Prop:=
 match VM modes with
 | some p=>kV P N F d f args p.1 p.2 K
 | none=>mt P N F d f args modes K
section
variable{P:Program}{w0 w w1:World}{M S0 S:ah}{N:fm}{φ:Nat->ah}{F:Nat->AV}{a:Act}{TE:Nat->Option TI}
variable{V S':ah}
def bf.addS(h:bf w0 M S0 N S φ F a w)(g:Free w0 M S φ w V)(d:∀b o,S b o->S' b o)(e:∀b o,S' b o->S b o\/V b o):bf w0 M S0 N S' φ F a w:=by
 refine⟨λt=>(h.slot t).keep (φ:=φ) (λt _ _ _=>h.slot t) (λt _=>⟨λ_ _ h=>h,rfl,λ_ _ _=>⟨rfl,rfl⟩⟩) (λ_ _ _=>⟨rfl,rfl⟩) (λ_ _ _=>⟨rfl,rfl⟩) (λ_ _ h=>h) d,h.dis,λt b o c f=>?_,h.ex,λb o c=>d b o (h.sub b o c),λb o c=>?_,h.old,h.size,h.defers,h.par⟩
 ·rcases e b o f with f|f
  ·exact h.disS t b o c f
  exact(g b o f).1 t c
 rcases e b o c with c|c
 ·exact h.sup b o c
 exact⟨(g b o c).2.2.1,.inr (g b o c).2.2.2⟩
theorem qz(F:Nat->AV)(t:Nat)(av:AV):setH F t av t=av:=by simp[setH]
variable{t:Nat}
theorem fE(F:Nat->AV){s:Nat}(av:AV)(h:s≠t):setH F t av s=F s:=by grind [Nat.beq_eq,setH]
variable{cs:List C}
theorem bf.revive(h:bf w0 M S0 N S φ F a w)(L:F t=.dead){k:Kd}{X:ah}(y:Free w0 M S φ w X)(G:cN w S F (tvs a) X (.H k cs) (tvs a t)) :
  bf w0 M S0 N S (λs=>if s=t then X else φ s) (setH F t (.H k cs)) a w:=by
 have D:∀s,(F s).uses t=true->cN w S (setH F t (.H k cs)) (tvs a) (φ s) (F s) (tvs a s):=λs n=>by
  have c:=h.slot s;cases d:F s with
  | dead=>rw[d]at n;cases n
  | H=>rw[d]at n;cases n
  | iref=>rw[d]at n;cases n
  | ref q E H=>
   rw[d]at n c;have:q=t:=by simpa[AV.uses] using n
   subst this;obtain⟨k,cs,r,j,g,o,J,-⟩:=c
   grind
  | c1 q E H O=>
   rw[d]at n c;have:q=t:=by simpa[AV.uses] using n
   subst this;obtain⟨k,cs,r,j,J,-⟩:=c
   grind
  | fn f caps=>rw[d]at c;exact c
  | fv Ok=>rw[d]at c;exact c
 refine⟨λs=>?_,λs A u b o i l=>?_,λs b o i=>?_,λs b o i=>?_,h.sub,h.sup,h.old,h.size,h.defers,h.par⟩
 ·by_cases p:s=t
  ·subst p
   rw[qz,CD rfl];exact G
  rw[fE _ _ p,CC p];cases n:(F s).uses t with
  | true=>exact D s n
  | false=>
   refine(h.slot s).keep (φ:=φ) (λt _ _ _=>h.slot t) (λq K=>?_) (λ_ _ _=>⟨rfl,rfl⟩) (λ_ _ _=>⟨rfl,rfl⟩) (λ_ _ h=>h) (λ_ _ h=>h);have u:q≠t:=ψ
   exact⟨λk cs P=>by grind [fE],rfl,λ_ _ _=>⟨rfl,rfl⟩⟩
 ·by_cases e:s=t
  ·rw[CD e]at i
   by_cases B:A=t
   ·omega
   rw[CC B]at l;exact(y b o i).1 A l
  rw[CC e]at i;by_cases B:A=t
  ·rw[CD B]at l;exact(y b o l).1 s i
  rw[CC B]at l;exact h.dis s A u b o i l
 ·split at i
  ·exact(y b o i).2.1
  exact h.disS s b o i
 split at i
 ·exact(y b o i).2.2
 exact h.ex s b o i
def eU(F F':Nat->AV):Prop:=∀s k cs,F' s=.H k cs->∃cs0,F s=.H k cs0
def eU.trans{F F' F'':Nat->AV}(h:eU F F')(h':eU F' F''):eU F F'':=λs k cs e=>by obtain⟨a,b⟩:=h' s k cs e;exact h s k a b
theorem rd{k:Kd}{f b:List C}(i:F t=.H k f):eU F (updH F t k b):=λs j cs e=>by
 by_cases h:s=t
 ·grind [iZ]
 rw[gT _ _ _ h]at e;cases a:F s with
 | H l cs3=>grind [t7]
 | dead=>rw[a]at e;cases e
 | iref=>rw[a]at e;cases e
 | fn=>rw[a]at e;cases e
 | fv=>rw[a]at e;cases e
 | c1 g c d n=>grind [t7]
 | ref g c d=>
  rw[a]at e;cases d with
  | nil=>cases e
  | cons s d=>grind [t7]
theorem AA(t:Nat):eU F (kill F t):=λs g cs e=>by
 by_cases h:s=t
 ·grind [qu]
 rw[my _ h]at e;cases b:F s with
 | H k c=>rw[b]at e;cases e;exact⟨_,rfl⟩
 | ref d a f=>grind [RF]
 | c1 d a f i=>grind [RF]
 | _=>rw[b]at e;cases e
variable{off n:Nat}
def bf.lendAt(h:bf w0 M S0 N S φ F a w){st:cG}{K:(Nat->AV)->List C->Prop}(c:Ab.lendAt F t off st n K) :
  ∃k f V φ' F' cs,F t=.H k f/\K F' cs/\cs.length=n/\cK w S V cs (λd=>cellv w (cn w k (tvs a t)) off st d)/\bf w0 M S0 N S φ' F' a w/\Free w0 M S φ' w V/\(∀s b o,φ' s b o->φ s b o)/\(∀b o,V b o->φ t b o)/\eU F F':=by
 unfold Ab.lendAt at c;split at c
 case h_2=>exact c.elim
 rename_i k f e;split at c
 ·cases g:Nat.ble (off+n) f.length with
  | false=>rw[g]at c;exact c.elim
  | true=>
   rw[g]at c;simp only[cond_true,dr]at c;have i:=Z1 g;obtain⟨V,φ',l,p,q,u,y⟩:=h.lend (st:=[]) (off:=off) (j:=off) (n:=n) e rfl trivial i;exact⟨k,f,V,φ',_,_,e,c,by simp[bE];omega,l,p,q,u,y,rd e⟩
 obtain⟨r,j,A,B,D,E⟩:=c.out;obtain⟨V,φ',l,p,q,u,y⟩:=h.lend e A B D;exact⟨k,f,V,φ',_,_,e,E,by simp[bE];omega,l,p,q,u,y,rd e⟩
def F8(w:World)(S:ah)(a:Act)(d:Nat->AV)(V:ah)(m:MA)(p:rS)(v:Value):Prop:=
 match p with
 | .no=>∀b o,¬V b o
 | .at_ t off st=>∃c cs,m=.mut c cs/\br w S V c cs v/\∃k cs0,d t=.H k cs0/\v=mkv c (cellv w (cn w k (tvs a t)) off st)
 | .box t=>∃cs,m=.ptr cs/\qS w S V m v/\v=tvs a t
def ri(w:World)(S:ah)(a:Act)(b:Nat->AV):(Nat->ah)->List (MA × rS)->List Value->Prop
 | _,[],[]=>True
 | V,q::l,v::vs=>F8 w S a b (V 0) q.1 q.2 v/\ri w S a b (λi=>V (i+1)) l vs
 | _,_,_=>False
variable{v:Value}{m:MA}{F1:Nat->AV}
def F8.back{F:Nat->AV}{p:rS}(h:F8 w S a F1 V m p v)(b:eU F F1):F8 w S a F V m p v:=by
 cases p with
 | no=>exact h
 | at_ t c n=>obtain⟨d,cs,e,f,k,cs0,g,i⟩:=h;obtain⟨j,l⟩:=b t k cs0 g;exact⟨d,cs,e,f,k,j,l,i⟩
 | box t=>exact h
def ri.back{F:Nat->AV}(b:eU F F1):∀{l:List (MA × rS)}{V:Nat->ah}{vs:List Value},ri w S a F1 V l vs->ri w S a F V l vs
 | [],_,[],_=>trivial
 | _::_,_,_::_,h=>⟨h.1.back b,h.2.back b⟩
 | [],_,_::_,h=>h.elim
 | _::_,_,[],h=>h.elim
def PY(a:ah)(V:Nat->ah):Nat->ah
 | 0=>a
 | i+1=>V i
theorem bf.lendP:∀{xs:List (Operand × Nat)}{K:(Nat->AV)->List (MA × rS)->Prop}{F:Nat->AV}{φ:Nat->ah},bf w0 M S0 N S φ F a w->Ab.lendP xs K F->
  ∃F' l φ' V,K F' l/\bf w0 M S0 N S φ' F' a w/\(∀s b o,φ' s b o->φ s b o)/\(∀i,Free w0 M S φ' w (V i))/\(∀i b o,V i b o->∃t,φ t b o)/\(∀i d,i≠d->∀b o,V i b o->¬V d b o)/\eU F F'/\ri w S a F V l (xs.map λx=>a.eval x.1)
 | [],K,F,φ,h,c=>⟨F,[],φ,λ_=>NO,c,h,λ_ _ _ h=>h,λ_ _ _ h=>h.elim,λ_ _ _ h=>h.elim,λ_ _ _ _ _ h=>h.elim,λs k cs e=>⟨cs,e⟩,trivial⟩
 | (x,m)::xs,K,F,φ,h,c=>by
  have fin:∀(B:Nat->AV)(φ1:Nat->ah)(G:ah)(q:MA × rS),F8 w S a F G q.1 q.2 (a.eval x)->bf w0 M S0 N S φ1 B a w->(∀s b o,φ1 s b o->φ s b o)->Free w0 M S φ1 w G->(∀b o,G b o->∃t,φ t b o)->eU F B->Ab.lendP xs (λF' l=>K F' (q::l)) B->
    ∃F' l φ' V,K F' l/\bf w0 M S0 N S φ' F' a w/\(∀s b o,φ' s b o->φ s b o)/\(∀i,Free w0 M S φ' w (V i))/\(∀i b o,V i b o->∃t,φ t b o)/\(∀i d,i≠d->∀b o,V i b o->¬V d b o)/\eU F F'/\ri w S a F V l (((x,m)::xs).map λx=>a.eval x.1):=by
   intro B φ1 G q hq A hle H W u c;obtain⟨F',l,φ',V,e1,e2,e3,e4,X,e6,e7,e8⟩:=bf.lendP A c;refine⟨F',q::l,φ',PY G V,e1,e2,ψ,λi=>?_,λi b o U=>?_,λi d J b o U L=>?_,u.trans e7,hq,e8.back u⟩
   ·cases i with
    | zero=>exact H.less e3
    | succ i=>exact e4 i
   ·cases i with
    | zero=>exact W b o U
    | succ i=>obtain⟨t,O⟩:=X i b o U;grind
   cases i with
   | zero=>
    cases d with
    | zero=>exact J rfl
    | succ d=>obtain⟨t,O⟩:=X d b o L;exact(H b o U).1 t O
   | succ i=>
    cases d with
    | zero=>obtain⟨t,O⟩:=X i b o U;exact(H b o L).1 t O
    | succ d=>exact e6 i d ω b o U L
  have box:∀t cs,F t=.H .box cs->a.eval x=tvs a t->Ab.lendP xs (λF' l=>K F' ((.ptr cs,.box t)::l)) (kill F t)->
    ∃F' l φ' V,K F' l/\bf w0 M S0 N S φ' F' a w/\(∀s b o,φ' s b o->φ s b o)/\(∀i,Free w0 M S φ' w (V i))/\(∀i b o,V i b o->∃t,φ t b o)/\(∀i d,i≠d->∀b o,V i b o->¬V d b o)/\eU F F'/\ri w S a F V l (((x,m)::xs).map λx=>a.eval x.1):=by
   intro t cs y P c;have f:=h.slot t;rw[y]at f;obtain⟨X1,Y,A,h2,h3,h4,h5⟩:=f;refine fin _ _ (φ t) (.ptr cs,.box t) ⟨cs,rfl,⟨X1,Y,A,h2,h3,by rw[P];exact h4,by rw[P];exact h5⟩,P⟩ (h.forget t) (λs b o u=>?_) (λb o u=>⟨λs f=>?_,h.disS t b o u,h.ex t b o u⟩) ψ (AA t) c
   ·replace u:(if s=t then NO else φ s) b o:=u
    split at u
    ·exact u.elim
    exact u
   replace f:(if s=t then NO else φ s) b o:=f;split at f
   ·exact f.elim
   rename_i J;exact h.dis s t J b o f u
  have at_:∀t p Q D n (K':(Nat->AV)->List C->Prop),n=D.getD 1->(∀k R,F t=.H k R->a.eval x=mkv D (cellv w (cn w k (tvs a t)) p Q))->Ab.lendAt F t p Q n (λB cs=>Ab.lendP xs (λF' l=>K F' ((.mut D cs,.at_ t p Q)::l)) B)->
    ∃F' l φ' V,K F' l/\bf w0 M S0 N S φ' F' a w/\(∀s b o,φ' s b o->φ s b o)/\(∀i,Free w0 M S φ' w (V i))/\(∀i b o,V i b o->∃t,φ t b o)/\(∀i d,i≠d->∀b o,V i b o->¬V d b o)/\eU F F'/\ri w S a F V l (((x,m)::xs).map λx=>a.eval x.1):=by
   intro t p Q D n K' hn P c;obtain⟨k,R,G,φ1,B,cs,e1,e2,e3,e4,X,e6,e7,e8,e9⟩:=h.lendAt c;have Z:=P k R e1;exact fin B φ1 G (.mut D cs,.at_ t p Q) ⟨D,cs,rfl,⟨by rw[e3,hn],_,Z,e4⟩,k,R,e1,Z⟩ X e7 e6 ψ e9 e2
  match m,c with
  | 0,c=>exact fin F φ NO (.val none [],.no) (λ_ _ h=>h) h (λ_ _ _ h=>h) (λ_ _ h=>h.elim) (λ_ _ h=>h.elim) (λs k cs e=>⟨cs,e⟩) c
  | 1,c=>
   simp only[Ab.lendP]at c;split at c
   case h_2=>exact c.elim
   rename_i s _;have f:=h.slot s;split at c
   ·rename_i cs0 y
    exact at_ s 0 [] none 1 (λ_ _=>True) rfl (λk R E=>by rw[y]at E;cases E;rfl) c
   ·rename_i cs0 y
    rw[y]at f;obtain⟨X1,Y,-,-,-,⟨arr,P,hsz⟩,-⟩:=f;refine at_ s 0 [] (some cs0.length) cs0.length (λ_ _=>True) rfl (λk R E=>?_) c;rw[y]at E;cases E;show tvs a s=_
    grind [qn,jU,cellv,cn,Go.Value.cells]
   ·rename_i t p Q D y
    rw[y]at f;obtain⟨k,cs,r,j,A,h2,h3,h4⟩:=f;refine at_ t p Q D _ (λ_ _=>True) rfl (λk' R E=>?_) c;rw[A]at E;cases E;exact h4
   exact c.elim
  | n+2,c=>
   simp only[Ab.lendP]at c;split at c
   case h_2=>exact c.elim
   rename_i s _;have f:=h.slot s;split at c
   ·rename_i t y
    rw[y]at f;obtain⟨k,cs,r,j,g,o,A,h2,h3,h4⟩:=f;split at c
    ·rename_i cs2 T
     rw[T]at A;simp only[AV.H.injEq]at A;obtain⟨rfl,rfl⟩:=A;have O:=h.slot t;rw[T]at O;obtain⟨X1,Y,-,-,-,⟨g',o',P,-⟩,-⟩:=O;refine box t _ T ?_ c;show tvs a s=tvs a t
     grind [plc,pb]
    exact c.elim
   ·rename_i cs2 y
    exact box s cs2 y rfl c
   exact c.elim
def qS.mono{S:ah}(h:qS w S V m v)(a:∀b o,S b o->S' b o):qS w S' V m v:=by
 cases m with
 | val c cs=>exact br.mono h a (λ_ _ h=>h)
 | «mut» c cs=>exact br.mono h a (λ_ _ h=>h)
 | ptr cs=>obtain⟨d,Y,e,f,g,i,j⟩:=h;exact⟨d,Y,e,f,g,i,j.mono a (λ_ _ h=>h)⟩
theorem bf.valsP(h:bf w0 M S0 N S φ F a w){q:Nat->AV} : ∀{l:List (MA × rS)}{xs:List Operand}{K:Bool->List MA->Prop}{V:Nat->ah},ri w S a q V l (xs.map a.eval)->Ab.valsP F l xs K->
  ∃b A,K b A/\NM w (oe S φ) V A (xs.map a.eval)/\(b=true->NM w S V A (xs.map a.eval))
 | [],[],K,V,_,f=>⟨true,[],f,trivial,λ_=>trivial⟩
 | (m,.no)::l,x::xs,K,V,g,f=>by
  obtain⟨p,cs,Y,d,e,r⟩:=h.val (h.ev x) f;obtain⟨b,A,d,i,j⟩:=bf.valsP h g.2 d;have n:∀b o,Y b o->oe S φ b o:=λb o c=>by
   rcases r b o c with c|c
   ·cases x with
    | tmp t=>exact .inr ⟨t,c⟩
    | _=>exact c.elim
   exact .inr c
  cases k:bp cs with
  | true=>rw[k]at d;exact⟨b,_,d,⟨(e.bare k).mono (λ_ _ h=>.inl h) (λ_ _ h=>h),i⟩,λc=>⟨e.bare k,j c⟩⟩
  | false=>rw[k]at d;exact⟨false,_,d,⟨e.freeze.mono (λb o h=>h.elim .inl (n b o)) (λ_ _ h=>h),i⟩,ψ⟩
 | (m,.at_ t off st)::l,x::xs,K,V,g,f=>by
  obtain⟨b,A,d,i,j⟩:=bf.valsP h g.2 f;obtain⟨p,cs,rfl,⟨C,u,y,B⟩,-⟩:=g.1;have e:br w S (V 0) p (Vs cs) (a.eval x):=⟨by grind [Fn],u,y,B.ut⟩
  exact⟨b,_,d,⟨e.mono (λ_ _ h=>.inl h) (λ_ _ h=>h),i⟩,λc=>⟨e,j c⟩⟩
 | (m,.box t)::l,x::xs,K,V,g,f=>by
  obtain⟨b,A,d,i,j⟩:=bf.valsP h g.2 f;obtain⟨cs,rfl,e,-⟩:=g.1;exact⟨b,_,d,⟨e.mono (λ_ _ h=>.inl h),i⟩,λc=>⟨e,j c⟩⟩
theorem Ub{ag:Option Nat}{u b:Nat->Value}(h:mkv ag u=mkv ag b):∀d,d<ag.getD 1->u d=b d:=by
 cases ag with
 | none=>
  intro d a;simp only[Option.getD_none]at a;have:d=0:=ω
  subst this;exact h
 | some n=>
  intro d a;simp only[Option.getD_some]at a;simp only[mkv,Value.agg.injEq]at h
  simp_all
theorem Qr{v:AV}{k:Kd}(h:t7 t v=.H k cs):v=.H k cs:=by
 cases v with
 | H=>exact h
 | dead=>cases h
 | iref=>cases h
 | fn=>cases h
 | fv=>cases h
 | c1 c a b d=>grind [t7]
 | ref c a b=>
  cases b with
  | nil=>cases h
  | cons s b=>grind [t7]
theorem bf.rest{φ':Nat->ah}{F' F0:Nat->AV}{S':ah}{Vall:ah}(hw:bf w0 M S0 N S φ' F' a w)(hk:bw Vall w w1)(u:Free w0 M S φ' w Vall)(hb:eU F0 F') :
  ∀{l:List (MA × rS)}{B:List MA}{vs:List Value}{V V':Nat->ah}{K:(Nat->AV)->Prop}{F:Nat->AV}{φ:Nat->ah},bf w0 M S0 N S' φ F a w1->ri w S a F0 V l vs->Ef w1 S' V' B vs->(∀q,q∈l->∀t,t∈q.2.slot->∀k cs,F t=.H k cs->F' t=.H k cs)->
   (∀i,Free w0 M S' φ w1 (V' i))->(∀i i',i≠i'->∀b o,V' i b o->¬V' i' b o)->wq l=true->io l B K F->∃A φ2,K A/\bf w0 M S0 N S' φ2 A a w1/\∀s b o,φ2 s b o->φ s b o\/∃i,V' i b o
 | [],B,vs,V,V',K,F,φ,h,L,O,g,P,hd,n,c=>by
  cases B with
  | nil=>exact⟨F,φ,c,h,ψ⟩
  | cons _ _=>exact c.elim
 | (m,p)::l,B,vs,V,V',K,F,φ,h,L,O,g,P,hd,n,c=>by
  cases vs with
  | nil=>exact L.elim
  | cons v vs=>
   cases B with
   | nil=>exact O.elim
   | cons m' B=>
    simp only[wq,I0]at n;have next:∀(Z:Nat->AV)(φ1:Nat->ah),bf w0 M S0 N S' φ1 Z a w1->(∀s b o,φ1 s b o->φ s b o\/V' 0 b o)->(∀q,q∈l->∀t,t∈q.2.slot->∀k cs,Z t=.H k cs->F' t=.H k cs)->io l B K Z->
      ∃A φ2,K A/\bf w0 M S0 N S' φ2 A a w1/\∀s b o,φ2 s b o->φ s b o\/∃i,V' i b o:=by
     intro Z φ1 H hle hkeep1 hp1;obtain⟨A,φ2,e1,e2,e3⟩:=bf.rest hw hk u hb (V':=λi=>V' (i+1)) H L.2 O.2 hkeep1 (λi b o hi=>⟨λt ht=>(hle t b o ht).elim ((P (i+1) b o hi).1 t) ψ,(P (i+1) b o hi).2⟩) ψ n.2 hp1
     grind
    have hne:∀t,t∈p.slot->∀q,q∈l->∀Q,Q∈q.2.slot->Q≠t:=λt ht q hq Q R e=>by grind [Nat.beq_refl]
    cases p with
    | no=>exact next F φ h ψ (λq hq=>g q ψ) (by cases m'<;>exact c)
    | at_ t f C=>
     obtain⟨ag,cs,rfl,hv,T,cs0,hF0,y⟩:=L.1;cases m' with
     | val=>exact c.elim
     | ptr=>exact c.elim
     | «mut» ag' out=>
      simp only[io]at c;obtain⟨u',hu',E⟩:=br.cells (show br w1 S' (V' 0) ag' out v from O.1);have U:ag=none->(cellv w (cn w T (tvs a t)) f C 0).oneCell'=true:=λe=>by
       subst e;obtain⟨hl1,u1,hv1,hr1⟩:=hv;have:cellv w (cn w T (tvs a t)) f C 0=u1 0:=y.symm.trans hv1;rw[this];exact hr1.one (by simp at hl1;omega)
      have W:=qp U;rw[<-y,hu']at W;have hlen:out.length=ag.getD 1:=by have:=C1 List.length W;simpa using this
      have heq:∀d,d<out.length->u' d=cellv w (cn w T (tvs a t)) f C d:=by simp_all
      cases J:F t with
      | H k G=>
       rw[J]at c;have X:=g (.mut ag cs,.at_ t f C) ψ t (by simp[rS.slot]) k G J;have hkk:T=k:=by
        obtain⟨c1,e1⟩:=hb t k G X
        grind
       subst hkk;have fin:∀out',out'.length=out.length->cK w1 S' (V' 0) out' u'->∀r j,co G f C=some (r,j)->lw G f C->j+out.length<=r.length->io l B K (updH F t T (gn G f C (splice r j out')))->∃A φ2,K A/\bf w0 M S0 N S' φ2 A a w1/\∀s b o,φ2 s b o->φ s b o\/∃i,V' i b o:=by
        intro out' hol E r j H h2 h3 c;have hsame:=hw.cellv_same X H hk u;obtain⟨φ1,e1,e2⟩:=h.back J H h2 (by rw[hol];exact h3) (P 0) (E.congr ψ);refine next _ φ1 e1 e2 (λq hq Q R k cs hc=>?_) c
        grind [gT,Qr,rS.slot]
       cases C with
       | nil=>
        simp only at c;cases D:Nat.ble (f+out.length) G.length with
        | false=>grind
        | true=>
         rw[D]at c;simp only[cond_true,dr]at c;obtain⟨-,u0,hv0,hr0⟩:=hv;have hu0:∀d,d<out.length->u' d=u0 d:=λd hd=>by grind [Ub]
         exact fin _ (tI _ _) (hr0.rt E hu0) G f rfl trivial (Z1 D) c
       | cons s C=>
        grind [Pu.out]
      | _=>grind
    | box t=>
     obtain⟨cs,rfl,hv,y⟩:=L.1;cases m' with
     | val=>exact c.elim
     | «mut»=>exact c.elim
     | ptr out=>
      simp only[io]at c;cases J:F t with
      | dead=>
       rw[J]at c;obtain⟨X1,Y,H,h2,h3,h4,h5⟩:=O.1;refine next _ _ (h.revive J (P 0) ⟨X1,Y,H,h2,h3,by rw[<-y];exact h4,by rw[<-y];exact h5⟩) ψ (λq hq Q R k cs hc=>?_) c
       all_goals grind [fE,rS.slot]
      | _=>grind
def JO.fresh{S:ah}(h:JO w S V m v)(d:match m with|.val _ _=>True|.mut _ cs=>iq cs|.ptr cs=>iq cs):JO w NO V m v:=by
 cases m with
 | val=>trivial
 | «mut» ag cs=>obtain⟨a,u,b,c⟩:=h;exact⟨a,u,b,c.fresh d⟩
 | ptr cs=>obtain⟨e,Y,a,b,c,f,g⟩:=h;exact⟨e,Y,a,b,c,f,g.fresh d⟩
def JO.mono{S:ah}(h:JO w S V m v)(a:∀b o,S b o->S' b o):JO w S' V m v:=by
 cases m with
 | val=>trivial
 | «mut» ag cs=>exact qS.mono (m:=.mut ag cs) h a
 | ptr cs=>exact qS.mono (m:=.ptr cs) h a
theorem Ef.mono{S S':ah}(a:∀b o,S b o->S' b o):∀{V:Nat->ah}{B:List MA}{vs:List Value},Ef w S V B vs->Ef w S' V B vs
 | _,[],[],_=>trivial
 | _,_::_,_::_,h=>⟨h.1.mono a,Ef.mono a h.2⟩
 | _,[],_::_,h=>h.elim
 | _,_::_,[],h=>h.elim
def Ef.fresh{S:ah} : ∀{V:Nat->ah}{B:List MA}{vs:List Value},Ef w S V B vs->GC B->Ef w NO V B vs
 | _,[],[],_,_=>trivial
 | _,.val _ _::_,_::_,h,a=>⟨trivial,Ef.fresh h.2 a⟩
 | _,.mut _ _::_,_::_,h,a=>⟨h.1.fresh a.1,Ef.fresh h.2 a.2⟩
 | _,.ptr _::_,_::_,h,a=>⟨h.1.fresh a.1,Ef.fresh h.2 a.2⟩
 | _,[],_::_,h,_=>h.elim
 | _,_::_,[],h,_=>h.elim
variable{xs:List Operand}
def TN{b:List Nat}(h:xs.length=b.length):(xs.zip b).map (λx=>a.eval x.1)=xs.map a.eval:=by
 rw[show(λx:Operand × Nat=>a.eval x.1)=a.eval ∘ Prod.fst from rfl,<-List.map_map,List.map_fst_zip ω]
variable{Q:Exit->Act->World->Prop}{Kc:Act->World->Prop}{K:(Nat->AV)->Prop}{modes:List Nat}{f:Nat}{o:Oper}
theorem bf.callO(h:bf w0 M S0 N S φ F a w)(L:LH P f->(execOp a.eval o).run P w=.ok (.enter f (xs.map a.eval).toArray) w)(hp:mt P N F o.dst f xs modes K)(hkc:∀F' v w',K F'->St w0 M S0 N F' (a.put o.dst v) w'->Kc (a.put o.dst v) w'):o.wp P a w Kc Q:=by
 obtain⟨F',l,φ',V,u,j,hle,y,hVt,O,C,R⟩:=h.lendP hp;cases n:(wq l&&Nat.beq xs.length modes.length) with
 | false=>grind
 | true=>
  rw[n]at u;simp only[I0]at n;rw[TN (C3 n.2)]at R;obtain⟨b,A,u,T,U⟩:=j.valsP R u;obtain⟨sh,B,k,rcs,hc,W,u⟩:=u.out;have c:Free w0 M S φ' w (λb o=>∃i,V i b o):=λb o ⟨i,p⟩=>y i b o p
  have D:=L hc.1;have fin:∀S2:ah,(∀b o,S2 b o->b<w.heap.size)->(∀i b o,V i b o->¬S2 b o)->NM w S2 V A (xs.map a.eval)->((∀b o,S2 b o->S b o)\/(sh=false/\GC B))->o.wp P a w Kc Q:=by
   intro S2 Y hVS hA r;have hy:Ag P o a w λv w1=>∃H,K H/\St w0 M S0 N H (a.put o.dst v) w1:=by
    refine Ag.enter D ?_;refine(hc.2 w S2 V _ Y (λi b o p=>⟨(y i b o p).2.2.1,hVS i b o p⟩) O hA).mono λe w1 ⟨v,he,hk,X,V',S1,hX,hV',hS1,E,hXV,hXS,hVS1,hh,hr,hm⟩=>⟨v,he,?_⟩
    have h1:=j.world hk c;have reg:∀Z:ah,(∀b o,Z b o->(∃i,V i b o)\/(b<w1.heap.size/\w.heap.size<=b))->Free w0 M S φ' w1 Z:=λZ hZ b o g=>by
     rcases hZ b o g with g|g
     ·obtain⟨a1,a2,a3,a4⟩:=c b o g
      grind [O5,bw.size]
     exact⟨λt G=>by have:=(j.ex t b o G).1;omega,λhS=>by have:=(j.sup b o hS).1;omega,g.1,.inl (Z6 j.old.size g.2)⟩
    have h2:bf w0 M S0 N (λb o=>S b o\/S1 b o) φ' F' a w1:=by
     refine h1.addS (V:=λb o=>S1 b o/\((∃i,V i b o)\/(b<w1.heap.size/\w.heap.size<=b))) ψ ψ (λb o g=>?_)
     grind
    have frees:∀Z:ah,(∀b o,Z b o->(∃i,V i b o)\/(b<w1.heap.size/\w.heap.size<=b))->(∀b o,Z b o->¬S1 b o)->Free w0 M (λb o=>S b o\/S1 b o) φ' w1 Z:=λZ hZ hn b o g=>by
     obtain⟨a1,a2,a3⟩:=reg Z hZ b o g
     grind
    have hm2:Ef w1 (λb o=>S b o\/S1 b o) V' B (xs.map a.eval):=by
     rcases r with q|⟨-,q⟩
     ·grind [Ef.mono]
     exact(hm.fresh q).mono λ_ _ h=>h.elim
    obtain⟨H,φ2,J,e2,e3⟩:=bf.rest j hk c C h2 R hm2 ψ ψ E n.1 u;cases hd:o.dst with
    | none=>
     rw[hd]at J;exact⟨H,J,_,φ2,e2⟩
    | some d=>
     rw[hd]at J;have hXf:Free w0 M (λb o=>S b o\/S1 b o) φ2 w1 X:=λb o g=>by
      obtain⟨a1,a2,a3⟩:=frees X hX hXS b o g
      grind
     exact e2.putD_free (X:=X) ⟨NO,X,λ_ _ h=>h.elim,λ_ _ h=>h,λ_ _ h=>h.elim,hh,hr.mono ψ (λ_ _ h=>h)⟩ hXf J
   exact hy Kc Q ψ
  rcases W with hbt|hfr
  ·exact fin S (λb o C=>(j.sup b o C).1) (λi b o p=>(y i b o p).2.1) (U hbt) ψ
  exact fin (oe S φ') (λb o C=>C.elim (λhs=>(j.sup b o hs).1) (λ⟨t,G⟩=>(j.ex t b o G).1)) (λi b o p hs=>hs.elim (y i b o p).2.1 (λ⟨t,G⟩=>(y i b o p).1 t G)) T (.inr hfr)
theorem sP{F:Nat->AV}{x:Operand}{K:Nat->Nat->Prop}(h:AU F x K):∃s t off,x=.tmp s/\F s=.ref t off []/\K t off:=by
 unfold AU at h
 grind
theorem bf.refBox(h:bf w0 M S0 N S φ F a w){s:Nat}(c:F s=.ref t off [])(e:F t=.H .box cs){g o:Nat}(f:tvs a t=.pointer (some ⟨g,o,none⟩)):tvs a s=.pointer (some ⟨g,o+off,none⟩):=by
 have b:=h.slot s;rw[c]at b;obtain⟨k,d,r,j,i,l,n,-,p,q⟩:=b
 grind [plc,pb]
theorem yW(w:World)(g o j d:Nat):cn w .box (.pointer (some ⟨g,o+j,none⟩)) d=cn w .box (.pointer (some ⟨g,o,none⟩)) (j+d):=by grind [cn]
theorem NC{j:Nat}{c:C}(h:(bE cs off n)[j]? = some c):j<n/\cs[off+j]? = some c:=by grind [bE]
def piece(g o:Nat)(f:Nat->ah)(lo a:Nat):ah:=λb x=>(b=g/\o+lo<=x/\x<o+a)\/∃j,lo<=j/\j<a/\f j b x
theorem vp{w:World}{S e Y:ah}{f:Nat->ah}{g o lo:Nat}(y:lo+n<=cs.length)(i:∀j,j<cs.length->e g (o+j)/\(∃z,cel w g (o+j)=some z)/\fro w g (o+j)=NF)(h1:∀j c,cs[j]? = some c->dK w S (f j) c (cn w .box (.pointer (some ⟨g,o,none⟩)) j))(A:∀j,j<cs.length->∀b x,f j b x->Y b x)(B:∀j a,j<cs.length->a<cs.length->j≠a->∀b x,f j b x->¬f a b x)(k:∀b x,e b x->¬Y b x) :
  qS w S (piece g o f lo (lo+n)) (.ptr (bE cs lo n)) (.pointer (some ⟨g,o+lo,none⟩)):=by
 have l:(bE cs lo n).length=n:=by simp[bE];omega
 refine⟨λb x=>b=g/\o+lo<=x/\x<o+(lo+n),λb x=>∃j,lo<=j/\j<lo+n/\f j b x,λb x h=>.inl h,λb x h=>.inr h,λb x p ⟨j,q,r,d⟩=>?_,⟨g,o+lo,rfl,λj d=>?_⟩,λj=>f (lo+j),λj c d=>?_,ψ,ψ⟩
 ·obtain⟨rfl,t,u⟩:=p
  have:=(i (x - o) ω).1
  grind
 ·rw[l]at d
  have:=i (lo+j) ω
  grind
 grind [NC,yW]
theorem bf.callP(h:bf w0 M S0 N S φ F a w)(hxs:LH P f->(execOp a.eval o).run P w=.ok (.enter f (xs.map a.eval).toArray) w){n0 n1:Nat}(hp:kV P N F o.dst f xs n0 n1 K)(hkc:∀F' v w',K F'->St w0 M S0 N F' (a.put o.dst v) w'->Kc (a.put o.dst v) w'):o.wp P a w Kc Q:=by
 unfold kV at hp;split at hp
 case h_2=>exact hp.elim
 rename_i x0 x1;obtain⟨s0,t,u,rfl,hs0,hp⟩:=sP hp;obtain⟨s1,A,r,rfl,hs1,hp⟩:=sP hp;split at hp
 case h_2=>exact hp.elim
 rename_i cs hF;cases hb:(Nat.beq A t&&Nat.ble (u+n0) r&&Nat.ble (r+n1) cs.length) with
 | false=>grind
 | true=>
 rw[hb]at hp;simp only[cond_true,dr]at hp;simp only[I0]at hb;obtain⟨⟨hb1,hb2⟩,hb3⟩:=hb;have hb1:=C3 hb1;have hb2:=Z1 hb2;have hb3:=Z1 hb3;subst hb1;obtain⟨sh,B,k,rcs,hc,-,hK⟩:=hp.out;have hst:=h.slot A;rw[hF]at hst;obtain⟨X1,Y,hX1,hY,hXY,⟨g,q,hv,C⟩,ff,hf1,hf2,hf3⟩:=hst;rw[hv]at hf1;have e0:=h.refBox hs0 hF hv;have e1:=h.refBox hs1 hF hv
 let V:Nat->ah:=λi=>if i=0 then piece g q ff u (u+n0) else if i=1 then piece g q ff r (r+n1) else NO
 have hpφ:∀lo U,U<=cs.length->∀b x,piece g q ff lo U b x->φ A b x:=λlo U hhi b x l=>by
  rcases l with⟨rfl,h1,h2⟩|⟨j,-,h2,G⟩
  ·have:=(C (x - q) ω).1
   grind
  grind
 have hVφ:∀i b x,V i b x->φ A b x:=λi b x l=>by
  simp only[V]at l;split at l
  ·grind
  split at l
  ·grind
  exact l.elim
 have hcX:∀x,q<=x->x<q+cs.length->X1 g x:=λx h1 h2=>by
  have:=(C (x - q) ω).1
  grind
 have hpd:∀lo U lo' hi',U<=lo'->hi'<=cs.length->∀b x,piece g q ff lo U b x->¬piece g q ff lo' hi' b x:=λlo U lo' hi' h1 h2 b x l p=>by
  rcases l with⟨rfl,G,h4⟩|⟨j,G,h4,h5⟩
  ·rcases p with⟨-,h6,h7⟩|⟨H,h6,h7,h8⟩
   all_goals grind
  rcases p with⟨rfl,h6,h7⟩|⟨H,h6,h7,h8⟩
  all_goals grind
 have hVd:∀i i',i≠i'->∀b x,V i b x->¬V i' b x:=λi i' hne b x l p=>by
  simp only[V]at l p;by_cases i0:i=0
  ·rw[CD i0]at l
   by_cases i1:i'=0
   ·omega
   rw[CC i1]at p;split at p
   ·grind
   exact p
  rw[CC i0]at l;by_cases i2:i=1
  ·rw[CD i2]at l
   by_cases i1:i'=0
   ·grind
   rw[CC i1,CC ω]at p;exact p
  rw[CC i2]at l;exact l
 have h':=h.forget A;have hφ'le:∀s b x,(if s=A then NO else φ s) b x->s≠A/\φ s b x:=λs b x l=>by
  split at l
  ·exact l.elim
  grind
 have hfree:∀b x,φ A b x->(∀s,¬(if s=A then NO else φ s) b x)/\¬S b x/\b<w.heap.size/\(w0.heap.size<=b\/M b x):=λb x l=>⟨λs J=>by
   obtain⟨h1,h2⟩:=hφ'le s b x J;exact h.dis s A h1 b x h2 l,h.disS A b x l,h.ex A b x l⟩
 have hVall:Free w0 M S (λs=>if s=A then NO else φ s) w (λb x=>∃i,V i b x):=λb x ⟨i,U⟩=>hfree b x (hVφ i b x U)
 have hA:NM w S V [.ptr (bE cs u n0),.ptr (bE cs r n1)] ([Operand.tmp s0,.tmp s1].map a.eval):=by
  refine⟨?_,?_,trivial⟩
  ·show qS w S (V 0) _ (tvs a s0)
   rw[e0];exact vp ω C hf1 hf2 hf3 hXY
  show qS w S (V 1) _ (tvs a s1);rw[e1];exact vp ω C hf1 hf2 hf3 hXY
 have hrun:=hxs hc.1;have hy:Ag P o a w λv w1=>∃F2,K F2/\St w0 M S0 N F2 (a.put o.dst v) w1:=by
  refine Ag.enter hrun ?_;refine(hc.2 w S V _ (λb x hb=>(h'.sup b x hb).1) ψ hVd hA).mono λe w1 ⟨v,he,hk,X,V',S1,hX,hV',hS1,hVd',hXV,hXS,hVS1,hh,hr,hm⟩=>⟨v,he,?_⟩
  have h1:=h'.world hk hVall;have reg:∀Z:ah,(∀b o,Z b o->(∃i,V i b o)\/(b<w1.heap.size/\w.heap.size<=b))->Free w0 M S (λs=>if s=A then NO else φ s) w1 Z:=λZ hZ b o y=>by
   rcases hZ b o y with y|y
   ·grind [O5,bw.size]
   exact⟨λt ht=>by have:=(h'.ex t b o ht).1;omega,λhS=>by have:=(h'.sup b o hS).1;omega,y.1,.inl (Z6 h'.old.size y.2)⟩
  have h2:bf w0 M S0 N (λb o=>S b o\/S1 b o) (λs=>if s=A then NO else φ s) (kill F A) a w1:=by
   refine h1.addS (V:=λb o=>S1 b o/\((∃i,V i b o)\/(b<w1.heap.size/\w.heap.size<=b))) (reg _ λb o y=>y.2) ψ (λb o y=>?_);rcases y with y|y
   ·exact .inl y
   rcases hS1 b o y with⟨q1,q2⟩|q
   ·exact .inl q2
   exact .inr ⟨y,q⟩
  have frees:∀Z:ah,(∀b o,Z b o->(∃i,V i b o)\/(b<w1.heap.size/\w.heap.size<=b))->(∀b o,Z b o->¬S1 b o)->Free w0 M (λb o=>S b o\/S1 b o) (λs=>if s=A then NO else φ s) w1 Z:=λZ hZ hn b o y=>by
   obtain⟨a1,a2,a3⟩:=reg Z hZ b o y
   grind
  have hm2:=hm.mono (S':=λb o=>S b o\/S1 b o) λb o y=>y
  unfold zO at hK;split at hK
  case h_2=>exact hK.elim
  rename_i c0 c1 _;cases hl:(Nat.beq c0.length n0&&Nat.beq c1.length n1) with
  | false=>grind
  | true=>
  rw[hl]at hK;simp only[cond_true,dr]at hK;simp only[I0]at hl;have l0:=C3 hl.1;have l1:=C3 hl.2;have hm0:qS w1 (λb o=>S b o\/S1 b o) (V' 0) (.ptr c0) (tvs a s0):=hm2.1;have hm1:qS w1 (λb o=>S b o\/S1 b o) (V' 1) (.ptr c1) (tvs a s1):=hm2.2.1;rw[e0]at hm0;rw[e1]at hm1;obtain⟨Xa,Ya,ha1,ha2,ha3,⟨ga,oa,hea,ha4⟩,fa,ha5,ha6,ha7⟩:=hm0;obtain⟨Xb,Yb,hb1,hb2',hb3',⟨gb,ob,heb,hb4⟩,fb,hb5,hb6,hb7⟩:=hm1;obtain⟨rfl,rfl⟩ : g=ga/\q+u=oa:=by simpa using hea
  obtain⟨rfl,rfl⟩ : g=gb/\q+r=ob:=by simpa using heb
  let R:ah:=λb x=>φ A b x/\¬∃i,V i b x
  let IR:Nat->Prop:=λj=>¬(u<=j/\j<u+n0)/\¬(r<=j/\j<r+n1)
  have hIRc:∀j,j<cs.length->IR j->R g (q+j):=λj D U=>⟨hX1 _ _ (C j D).1,λ⟨i,l⟩=>by
    simp only[V]at l;split at l
    · rcases l with⟨-,G,h4⟩|⟨H,G,h4,h5⟩
      · omega
      grind
    split at l
    · rcases l with⟨-,G,h4⟩|⟨H,G,h4,h5⟩
      · omega
      grind
    exact l⟩
  have E:∀j,j<cs.length->IR j->∀b x,ff j b x->R b x:=λj D U b x l=>⟨hY _ _ (hf2 j D b x l),λ⟨i,W⟩=>by
    have gen:∀lo n,lo+n<=cs.length->¬(lo<=j/\j<lo+n)->¬piece g q ff lo (lo+n) b x:=λlo n hn hno hp=>by
      rcases hp with⟨rfl,G,h4⟩|⟨H,G,h4,h5⟩
      · exact hXY _ _ (hcX x ω ω) (hf2 j D _ _ l)
      grind
    simp only[V]at W;split at W
    · exact gen _ _ ω U.1 W
    split at W
    · exact gen _ _ ω U.2 W
    exact W⟩
  have hRold:∀b x,R b x->b<w.heap.size:=ψ
  have hRsame:bq R w w1:=λb x l=>⟨hk.cel b x (hRold b x l) l.2,hk.fro b x (hRold b x l) l.2⟩
  have L:∀i b x,R b x->¬V' i b x:=λi b x l W=>by
   rcases hV' i b x W with G|G
   ·exact l.2 G
   grind
  have hRS1:∀b x,R b x->¬S1 b x:=λb x l J=>by
   rcases hS1 b x J with⟨-,G⟩|G|G
   ·grind
   ·exact l.2 G
   grind
  have hSsame:bq S w w1:=λb x hb=>⟨hk.cel b x (h.sup b x hb).1 (λ⟨i,U⟩=>h.disS A b x (hVφ i b x U) hb),hk.fro b x (h.sup b x hb).1 (λ⟨i,U⟩=>h.disS A b x (hVφ i b x U) hb)⟩
  let Z:ah:=λb x=>V' 0 b x\/V' 1 b x\/R b x
  have hZ:Free w0 M (λb o=>S b o\/S1 b o) (λs=>if s=A then NO else φ s) w1 Z:=λb x y=>by
   rcases y with y|y|y
   ·exact frees (V' 0) (hV' 0) (hVS1 0) b x y
   ·exact frees (V' 1) (hV' 1) (hVS1 1) b x y
   obtain⟨a1,a2,a3,a4⟩:=hfree b x y.1;exact⟨a1,λhh=>hh.elim a2 (hRS1 b x y),O5 a3 hk.size,a4⟩
  have hget:∀j,(splice (splice cs u c0) r c1)[j]? = if r<=j/\j<r+n1 then c1[j - r]? else if u<=j/\j<u+n0 then c0[j - u]? else cs[j]?:=λj=>by
   rw[jW (by rw[cP ω];omega),jW ω,l0,l1]
  have hlen:(splice (splice cs u c0) r c1).length=cs.length:=by rw[cP (by rw[cP ω];omega),cP ω]
  have hsl:cN w1 (λb o=>S b o\/S1 b o) (kill F A) (tvs a) Z (.H .box (splice (splice cs u c0) r c1)) (tvs a A):=by
   refine⟨λb x=>(R b x/\∃j,j<cs.length/\IR j/\b=g/\x=q+j)\/Xa b x\/Xb b x,λb x=>(∃j,j<cs.length/\IR j/\ff j b x)\/Ya b x\/Yb b x,λb x l=>?_,λb x l=>?_,λb x l hy=>?_,⟨g,q,hv,λj D=>?_⟩,λj=>if r<=j/\j<r+n1 then fb (j - r) else if u<=j/\j<u+n0 then fa (j - u) else ff j,λj c D=>?_,λj D b x l=>?_,λj H D hj' hne b x l p=>?_⟩
   ·grind
   ·rcases l with⟨j,G,h4,h5⟩|l|l
    ·exact .inr (.inr (E j G h4 b x h5))
    ·grind
    grind
   ·rcases l with⟨l,j,G,h4,rfl,rfl⟩|l|l
    ·grind
    ·rcases hy with⟨H,h5,h6,h7⟩|hy|hy
     ·exact L 0 _ _ (E H h5 h6 b x h7) (ha1 _ _ l)
     ·exact ha3 _ _ l hy
     grind
    rcases hy with⟨H,h5,h6,h7⟩|hy|hy
    ·exact L 1 _ _ (E H h5 h6 b x h7) (hb1 _ _ l)
    ·grind
    grind
   ·rw[hlen]at D
    by_cases O:r<=j/\j<r+n1
    ·have:=hb4 (j - r) ω
     rw[show q+r+(j - r)=q+j by omega]at this;exact⟨.inr (.inr this.1),this.2⟩
    by_cases T:u<=j/\j<u+n0
    ·have:=ha4 (j - u) ω
     rw[show q+u+(j - u)=q+j by omega]at this;exact⟨.inr (.inl this.1),this.2⟩
    have hR:=hIRc j D ⟨T,O⟩;have J:=hRsame _ _ hR;refine⟨.inl ⟨hR,j,D,⟨T,O⟩,rfl,rfl⟩,?_,?_⟩
    ·rw[J.1];exact(C j D).2.1
    grind
   ·rw[hget]at D
    rw[hv];dsimp only;by_cases O:r<=j/\j<r+n1
    ·rw[CD O]at D |-
     have:=hb5 _ _ D
     rwa [yW,show r+(j - r)=j by omega]at this
    rw[CC O]at D |-;by_cases T:u<=j/\j<u+n0
    ·rw[CD T]at D |-
     have:=ha5 _ _ D
     rwa [yW,show u+(j - u)=j by omega]at this
    rw[CC T]at D |-;have hjl:=(O3.1 D).1;have G:=(hf1 j c D).keep hSsame (λb x l=>hRsame b x (E j hjl ⟨T,O⟩ b x l));have hce:=(hRsame _ _ (hIRc j hjl ⟨T,O⟩)).1;have:cn w1 .box (.pointer (some ⟨g,q,none⟩)) j=cn w .box (.pointer (some ⟨g,q,none⟩)) j:=by grind [cn]
    rw[this];exact G.mono (λ_ _ h=>.inl h) (λ_ _ h=>h)
   ·rw[hlen]at D
    split at l
    ·grind
    rename_i O;split at l
    ·grind
    rename_i T;exact .inl ⟨j,D,⟨T,O⟩,l⟩
   rw[hlen]at D hj';have fbV:∀i,i<n1->∀b x,fb i b x->V' 1 b x:=ψ
   have faV:∀i,i<n0->∀b x,fa i b x->V' 0 b x:=ψ
   by_cases c1:r<=j/\j<r+n1
   ·rw[CD c1]at l
    by_cases d1:r<=H/\H<r+n1
    ·rw[CD d1]at p
     exact hb7 _ _ ω ω ω b x l p
    rw[CC d1]at p;by_cases d0:u<=H/\H<u+n0
    ·rw[CD d0]at p
     exact hVd' 0 1 ω b x (faV _ ω b x p) (fbV _ ω b x l)
    rw[CC d0]at p;exact L 1 b x (E H hj' ⟨d0,d1⟩ b x p) (fbV _ ω b x l)
   rw[CC c1]at l;by_cases c0':u<=j/\j<u+n0
   ·rw[CD c0']at l
    by_cases d1:r<=H/\H<r+n1
    ·rw[CD d1]at p
     exact hVd' 0 1 ω b x (faV _ ω b x l) (fbV _ ω b x p)
    rw[CC d1]at p;by_cases d0:u<=H/\H<u+n0
    ·rw[CD d0]at p
     exact ha7 _ _ ω ω ω b x l p
    rw[CC d0]at p;exact L 0 b x (E H hj' ⟨d0,d1⟩ b x p) (faV _ ω b x l)
   rw[CC c0']at l;by_cases d1:r<=H/\H<r+n1
   ·rw[CD d1]at p
    exact L 1 b x (E j D ⟨c0',c1⟩ b x l) (fbV _ ω b x p)
   rw[CC d1]at p;by_cases d0:u<=H/\H<u+n0
   ·rw[CD d0]at p
    exact L 0 b x (E j D ⟨c0',c1⟩ b x l) (faV _ ω b x p)
   rw[CC d0]at p
   grind
  have G:=h2.revive (qu F A) hZ hsl;cases hd:o.dst with
  | none=>
   rw[hd]at hK;exact⟨_,hK,_,_,G⟩
  | some d=>
   rw[hd]at hK;have hXf:Free w0 M (λb o=>S b o\/S1 b o) (λs=>if s=A then Z else if s=A then NO else φ s) w1 X:=λb o y=>by
    obtain⟨a1,a2,a3⟩:=frees X hX hXS b o y;refine⟨λs J=>?_,a2,a3⟩;replace J:(if s=A then Z else if s=A then NO else φ s) b o:=J;split at J
    ·rcases J with J|J|J
     ·exact hXV 0 b o y J
     ·exact hXV 1 b o y J
     rcases hX b o y with h4|h4
     ·exact J.2 h4
     have:=hRold b o J;omega
    rename_i hne;exact a1 s (by dsimp only;rw[CC hne];first|exact J|(rw[CC hne]at J;exact J))
   exact G.putD_free (X:=X) ⟨NO,X,λ_ _ h=>h.elim,λ_ _ h=>h,λ_ _ h=>h.elim,hh,hr.mono (λ_ _ h=>.inr h) (λ_ _ h=>h)⟩ hXf hK
 exact hy Kc Q ψ
theorem bf.callM(h:bf w0 M S0 N S φ F a w)(b:LH P f->(execOp a.eval o).run P w=.ok (.enter f (xs.map a.eval).toArray) w)(d:kZ P N F o.dst f xs modes K)(c:∀F' v w',K F'->St w0 M S0 N F' (a.put o.dst v) w'->Kc (a.put o.dst v) w'):o.wp P a w Kc Q:=by grind [bf.callP,bf.callO,kZ]
end
open Go.ChangeMaps (setBlock)
def ql(TE:Nat->Option TI)(N:fm)(F:Nat->AV)(d T:Nat)(x:Operand)(K:(Nat->AV)->Prop):Prop:=
 match TE T with
 | some ⟨_,_,_,.mp _ _ _⟩=>gV F x λa b cs=>match b,cs with
  | none,[.m es]=>bP N a d (.H .one [.it none (es.map (·.1))]) K
  | _,_=>False
 | _=>False
inductive Nt(left:List Int)(K:Option (Int × List Int)->Prop):Prop
 |mk_ (h:(left=[]->K none)/\∀l1 k l2,left=l1++k::l2->K (some (k,l1++l2)))
variable{left:List Int}
theorem Nt.mk{K:Option (Int × List Int)->Prop}(c:left=[]->K none)(h1:∀a k b,left=a++k::b->K (some (k,a++b))):Nt left K:=.mk_ ⟨c,h1⟩
theorem Nt.out{K:Option (Int × List Int)->Prop}(h:Nt left K):(left=[]->K none)/\∀a k b,left=a++k::b->K (some (k,a++b)):=by
 obtain⟨h⟩:=h;exact h
def uO(N:fm)(F:Nat->AV)(d:Nat)(x:Operand)(K:(Nat->AV)->Prop):Prop:=
 match x with
 | .tmp s=>(match F s with
   | .H .one [.it _ left]=>Nt left λr=>match r with
     | none=>bP N F d (.H (.tup [none]) [.v (.bool false)]) K
     | some p=>bP N (updH F s .one [.it (some p.1) p.2]) d (.H (.tup [none,none,none]) [.v (.bool true),.v (.int .i64 p.1),.x]) K
   | _=>False)
 | _=>False
def qE(N:fm)(F:Nat->AV)(d:Nat)(x:Operand)(K:(Nat->AV)->Prop):Prop:=
 match x with
 | .tmp s=>(match F s with
   | .H .one [.it (some k) _]=>bP N F d (.H (.tup [none,none]) [.v (.int .i64 k),.x]) K
   | _=>False)
 | _=>False
def jl(N:fm)(F:Nat->AV)(d:Nat)(x:Operand)(K:(Nat->AV)->Prop):Prop:=
 match x with
 | .tmp t=>(match F t with
   | .H (.tup sh) cs=>bif bp cs then bP N F d (.H (.tup sh) cs) K else bP N (updH F t (.tup sh) (splice cs 0 (List.replicate cs.length .x))) d (.H (.tup sh) cs) K
   | .H .one _=>b9 F (.tmp t) λa=>bP N F d a K
   | .H .agg _=>b9 F (.tmp t) λa=>bP N F d a K
   | .H .box _=>b9 F (.tmp t) λa=>bP N F d a K
   | .ref ..=>b9 F (.tmp t) λa=>bP N F d a K
   | .c1 ..=>b9 F (.tmp t) λa=>bP N F d a K
   | .iref ..=>b9 F (.tmp t) λa=>bP N F d a K
   | .fn ..=>b9 F (.tmp t) λa=>bP N F d a K
   | .fv _=>b9 F (.tmp t) λa=>bP N F d a K
   | .dead=>b9 F (.tmp t) λa=>bP N F d a K)
 | x=>b9 F x λa=>bP N F d a K
section
variable{P:Program}{w0 w w1:World}{M S0 S:ah}{N:fm}{φ:Nat->ah}{F:Nat->AV}{a:Act}{TE:Nat->Option TI}
variable{v:Value}
theorem Qv{Y:ah}{cur:Option Int}{left:List Int}(h:dK w S Y (.it cur left) v):∃(r b since f d:Nat)(seen:Array Nat)(a:Array MapEntry),v=.pointer (some ⟨r,0,none⟩)/\(∀o,Y r o/\Y b o)/\mp w r=some (.mapIter (some b) since seen f)/\mp w b=some (.map a d)/\
  ((a.toList.map (·.born)).Nodup/\∀x∈a.toList,x.born<since)/\(since<=f/\since<=d)/\(∀x∈a.toList,x.val.oneCell'=true)/\(leftOf a seen).toList.map (·.key)=left.map (Value.int .i64)/\(∀k,cur=some k->f=d/\∃e∈a.toList,∃i:Array Nat,seen=i.push e.born/\e.key=.int .i64 k):=by
 generalize j:C.it cur left=c at h;cases h with
 | it _ r b since f d seen a cur' left' p q t l n u y g=>grind
 | _=>cases j
theorem Un{b:Nat}{o:Obj}(h:mp w b=some o):b<w.heap.size:=by grind [mp]
theorem Et{b:Nat}{o:Obj}(h:b<w.heap.size):mp (w.alloc o) b=mp w b:=by grind [Go.heap_alloc_old,mp]
theorem N3{a:Array MapEntry}{b:List (Int × Value)}(d:a.toList.map (λe=>(e.key,e.val))=b.map (λp=>(Value.int .i64 p.1,p.2)))(c:∀p∈b,p.2.oneCell'=true):∀x∈a.toList,x.val.oneCell'=true:=by
 intro y f;have:(y.key,y.val)∈a.toList.map (λe=>(e.key,e.val)):=ψ
 grind
variable{K:(Nat->AV)->Prop}{x:Operand}{d:Nat}
theorem bf.rangeW(h:bf w0 M S0 N S φ F a w)(n:∀t i,TE t=some i->iv P t i){T:Nat}(k:ql TE N F d T x K) :
  ∃v w1 F',K F'/\(Instr.range T (a.eval x)).run P w=.ok v w1/\St w0 M S0 N F' (a.put (some d) v) w1:=by
 unfold ql at k;split at k
 case h_2=>exact k.elim
 rename_i C;obtain⟨Q,-,-,-⟩:=(n _ _ C).2.2;obtain⟨F',D,cs,V,φ',p,l,E,R,U,G⟩:=h.taken k
 match D,cs,p with
 | none,[.m es],p=>
  obtain⟨b,c,e,W,A,f,B,q,r⟩:=QT E.rep1;have u:=Un f
  let o:Obj:=.mapIter (some b) c #[] c
  have H:=l.world (w1:=w.alloc o) (cQ w _) (λ_ _ h=>h.elim);have g:leftOf e #[]=e:=by unfold leftOf;simp
  obtain⟨J,y,j⟩:=H.putD_free (X:=λb o=>V b o\/b=w.heap.size) (v:=.pointer (some ⟨w.heap.size,0,none⟩)) (F:=F')
   (g9 (.it _ w.heap.size b c c c #[] e none (es.map (·.1)) ψ (by grind [Go.heap_alloc_new,mp]) ((Et u).trans f) r ω (N3 B q)
     (by
       rw[g];have:=C1 (List.map Prod.fst) B
       grind [I8]) ψ)) (λb o f=>by
   rcases f with f|f
   · grind [kh]
   exact⟨λt L=>by have:=(l.ex t b o L).1;omega,λO=>by have:=(l.sup b o O).1;omega,by simp_all,.inl (by rw[f];exact l.old.size)⟩) p
  exact⟨_,_,J,y,by grind [Go.run_range_map,qo],j⟩
def v8(a:v.oneCell'=true):v.cells = #[v]:=by
 cases v<;>first|rfl|(cases a)
theorem MQ{a:Array MapEntry}{seen:Array Nat}{e:MapEntry}(i:(a.toList.map (·.born)).Nodup)(g:e∈(leftOf a seen).toList):∃b c,(leftOf a seen).toList=b++e::c/\(leftOf a (seen.push e.born)).toList=b++c:=by
 obtain⟨b,c,d⟩:=List.append_of_mem g;refine⟨b,c,d,?_⟩;have h:(leftOf a (seen.push e.born)).toList=(leftOf a seen).toList.filter λy=>!(y.born == e.born):=by
  unfold leftOf;rw[Array.toList_filter,Array.toList_filter,List.filter_filter]
  grind
 have f:((leftOf a seen).toList.map (·.born)).Nodup:=by grind [Go.leftOf]
 rw[d]at f;rw[h,d,List.filter_append,List.filter_cons]
 grind [List.filter_eq_self]
variable{tv:Nat->Value}
def tup3{w:World}{S:ah}{F:Nat->AV}{k:Int}(b:v.oneCell'=true):cN w S F tv NO (.H (.tup [none,none,none]) [.v (.bool true),.v (.int .i64 k),.x]) (.tuple #[.bool true,.int .i64 k,v]):=by
 have d:v.cells = #[v]:=v8 b;refine⟨NO,NO,λ_ _ h=>h,λ_ _ h=>h,λ_ _ h=>h.elim,⟨_,rfl,⟨rfl,rfl,d,trivial⟩,rfl⟩,λ_=>NO,λj c a=>?_,λ_ _ _ _ h=>h,λ_ _ _ _ _ _ _ h=>h.elim⟩;have e:nD (.tuple #[.bool true,.int .i64 k,v])=[.bool true,.int .i64 k,v]:=by
  show #[Value.bool true].toList++(#[Value.int .i64 k].toList++(v.cells.toList++[]))=_;rw[d];rfl
 simp only[cn,e]
 match j,a with
 | 0,a=>simp at a;subst a;exact .v _ _ rfl
 | 1,a=>simp at a;subst a;exact .v _ _ rfl
 | 2,a=>simp at a;subst a;exact .x _ _ b
 | j+3,a=>simp at a
def tup2{w:World}{S:ah}{F:Nat->AV}{k:Int}(b:v.oneCell'=true):cN w S F tv NO (.H (.tup [none,none]) [.v (.int .i64 k),.x]) (.tuple #[.int .i64 k,v]):=by
 have d:v.cells = #[v]:=v8 b;refine⟨NO,NO,λ_ _ h=>h,λ_ _ h=>h,λ_ _ h=>h.elim,⟨_,rfl,⟨rfl,d,trivial⟩,rfl⟩,λ_=>NO,λj c a=>?_,λ_ _ _ _ h=>h,λ_ _ _ _ _ _ _ h=>h.elim⟩;have e:nD (.tuple #[.int .i64 k,v])=[.int .i64 k,v]:=by
  show #[Value.int .i64 k].toList++(v.cells.toList++[])=_;rw[d];rfl
 simp only[cn,e]
 match j,a with
 | 0,a=>simp at a;subst a;exact .v _ _ rfl
 | 1,a=>simp at a;subst a;exact .x _ _ b
 | j+2,a=>simp at a
theorem tup1{w:World}{S:ah}{F:Nat->AV}(b:v.oneCell'=true):cN w S F tv NO (.H (.tup [none]) [.v v]) (.tuple #[v]):=by
 have d:v.cells = #[v]:=v8 b;refine⟨NO,NO,λ_ _ h=>h,λ_ _ h=>h,λ_ _ h=>h.elim,⟨_,rfl,⟨d,trivial⟩,rfl⟩,λ_=>NO,λj c a=>?_,λ_ _ _ _ h=>h,ψ⟩;have e:nD (.tuple #[v])=[v]:=by
  show v.cells.toList++[]=_;rw[d];rfl
 simp only[cn,e]
 match j,a with
 | 0,a=>simp at a;subst a;exact .v _ _ b
 | j+1,a=>simp at a
theorem bf.entryW(h:bf w0 M S0 N S φ F a w)(c:qE N F d x K) :
  ∃v F',K F'/\(Instr.entry (a.eval x)).run P w=.ok v w/\St w0 M S0 N F' (a.put (some d) v) w:=by
 cases x with
 | tmp s=>
  simp only[qE]at c;have n:=h.slot s;split at c
  case h_2=>exact c.elim
  rename_i k left t;rw[t]at n;obtain⟨D,Y,E,G,H,J,f,u,L,O⟩:=n;obtain⟨r,b,since,Q,j,seen,o,p,q,R,T,y,A,l,U,g⟩:=Qv (u 0 _ rfl);obtain⟨rfl,e,B,V,rfl,W⟩:=g k rfl;have p:tvs a s=.pointer (some ⟨r,0,none⟩):=p;obtain⟨F',C,i⟩:=h.putD_new (v:=.tuple #[.int .i64 k,e.val]) (.same (tup2 (l e B))) c;refine⟨_,F',C,?_,i⟩;show(Instr.entry (tvs a s)).run P w=_
  grind [Go.run_entry_at,Dz,qo]
 | _=>exact c.elim
theorem bf.nextW(h:bf w0 M S0 N S φ F a w){ty:Nat}(y:uO N F d x K) :
  ∃v w1 F',K F'/\(Instr.next (a.eval x) false ty).run P w=.ok v w1/\St w0 M S0 N F' (a.put (some d) v) w1:=by
 cases x with
 | tmp s=>
  simp only[uO]at y;have hs:=h.slot s;split at y
  case h_2=>exact y.elim
  rename_i cur left hF;rw[hF]at hs;obtain⟨X1,Y,e1,e2,e3,e4,f,f1,f2,f3⟩:=hs;obtain⟨r,b,since,c0,g,seen,n,O,C,hr,hb,A,B,D,hl,hcur⟩:=Qv (f1 0 _ rfl);have O:tvs a s=.pointer (some ⟨r,0,none⟩):=O;obtain⟨p0,p1⟩:=y.out;show ∃v w1 F',K F'/\(Instr.next (tvs a s) false ty).run P w=.ok v w1/\St w0 M S0 N F' (a.put (some d) v) w1
  rw[O];rcases run_next_at (P:=P) w ty r b since c0 seen n g (Dz hr) (qo hb) A.2 B.1 with⟨hsz,E⟩|⟨e,he,l,G,E⟩
  ·have Q:left=[]:=by simp_all
   obtain⟨F',hK,H⟩:=h.putD_new (v:=.tuple #[.bool false]) (.same (tup1 rfl)) (p0 Q)
   grind
  obtain⟨l1,l2,q1,q2⟩:=MQ A.1 he;have R:=(mem_left he).1;rw[q1,C8,O8]at hl;obtain⟨T,J,hm,hm1,q⟩:=List.map_eq_append_iff.1 hl.symm;cases J with
  | nil=>simp at q
  | cons k J=>
   simp only[O8,List.cons.injEq]at q;obtain⟨hk,q⟩:=q;have y:=p1 T k J hm;have h2:bf w0 M S0 N S φ F a l:=by
    rcases G with rfl|rfl
    ·exact h
    exact h.more (w1:={w with drawn:=w.drawn+1}) (λ_ _ h=>h) ψ ⟨rfl,rfl,rfl,O4 _,λ_ _ _=>rfl,λ_ _ _ _=>rfl,λ_ _ _ _=>rfl⟩
   have U:l.heap=w.heap:=by rcases G with rfl|rfl<;>rfl
   have V:mp l r=some (.mapIter (some b) since seen c0):=by grind [mp]
   have hb2:mp l b=some (.map n g):=by grind [mp]
   have W:r<l.heap.size:=Un V;have Z:b≠r:=ψ
   let o':Obj:=.mapIter (some b) since (seen.push e.born) g
   let p:World:=setBlock l r o'
   have hh:∀i,p.heap[i]? = if i=r then some o' else l.heap[i]?:=λi=>tO (w:=l) (b:=r) (o:=o') W i
   have hother:∀i,i≠r->∀o,cel p i o=cel l i o/\fro p i o=fro l i o:=λi hne o=>by grind [Go.World.cell?,Go.World.frozen?,mp]
   have hcelr:∀o,cel p r o=cel l r o:=λo=>by grind [Dz,Go.World.cell?]
   have hYr:∀o,φ s r o:=by simp_all
   have hk1:bw (φ s) l p:=by
    refine⟨rfl,rfl,rfl,by simp[p,setBlock],λi L hn=>(hh i).trans (CC λe=>?_),ψ,ψ⟩
    ·simp_all
    all_goals grind
   have hsame:∀X:ah,(∀i o,X i o->i≠r)->bq X l p:=λX hX i o L=>hother i (hX i o L) o
   have h3:bf w0 M S0 N S (λt=>if t=s then φ s else φ t) (updH F s .one [.it (some k) (T++J)]) a p:=by
    refine h2.upd (X:=φ s) hk1 hF ψ ⟨NO,Y,λ_ _ h=>h.elim,e2,λ_ _ h=>h.elim,rfl,f,λj c u=>?_,λj u=>f2 j u,ω⟩
    match j,u with
    | 0,u=>
     simp at u;subst u;show dK p S (f 0) _ (tvs a s);rw[O];refine .it _ r b since g g (seen.push e.born) n (some k) (T++J) C (by grind [mp]) (by
       have:mp p b=mp l b:=C1 Prod.snd (hother b Z 0).2
       grind) A ⟨B.2,B.2⟩ D ψ ψ
    | j+1,u=>simp at u
   obtain⟨F',hK,H⟩:=h3.putD_new (v:=.tuple #[.bool true,.int .i64 k,e.val]) (.same (tup3 (D e R))) y
   grind
 | _=>exact y.elim
theorem bf.moveW(h:bf w0 M S0 N S φ F a w)(c:jl N F d x K) :
  ∃F',K F'/\St w0 M S0 N F' (a.put (some d) (a.eval x)) w:=by
 have std:b9 F x (λu=>bP N F d u K)->∃F',K F'/\St w0 M S0 N F' (a.put (some d) (a.eval x)) w:=λc=>by
  obtain⟨u,B,k⟩:=h.move c;exact h.putD_new (.same k) B
 cases x with
 | tmp t=>
  simp only[jl]at c;split at c
  ·rename_i C cs y
   cases D:bp cs with
   | true=>
    grind [b9]
   | false=>
    rw[D]at c;simp only[cond_false]at c;have k:=h.slot t;rw[y]at k;obtain⟨L,O,-,-,-,E,-⟩:=k;obtain⟨V,X,l,P,Q,A,G⟩:=h.take (off:=0) (n:=cs.length) y ω;have H:bE cs 0 cs.length=cs:=by simp[bE]
    rw[H]at A;have i:Free w0 M S (λs=>if s=t then X else φ s) w V:=λb o p=>⟨λs j=>by
      simp only at j;by_cases e:s=t
      · grind
      rw[CC e]at j;exact h.dis s t e b o j (l b o p),h.disS t b o (l b o p),h.ex t b o (l b o p)⟩
    obtain⟨J,q,r⟩:=G.putD_free (X:=V) (v:=tvs a t) ⟨NO,V,λ_ _ h=>h.elim,λ_ _ h=>h,λ_ _ h=>h.elim,(show fN w NO (.tup C) cs.length (tvs a t) from E),A.congr ψ⟩ i c;exact⟨J,q,r⟩
  all_goals exact std c
 | const v=>exact std c
 | global g=>exact std c
 | func f=>exact std c
end
def oP(rows:List (List C)):C:=match rows with|[]=>.s .S []|_=>.s .own rows
def VL(h:rows≠[]):oP rows=.s .own rows:=by cases rows with|nil=>exact absurd rfl h|cons=>rfl
def Wj(N:fm)(d:Nat):Bool:=N.mo.any λp=>Nat.beq p.1 (7000000+d)
def Ge(TE:Nat->Option TI)(N:fm)(F:Nat->AV)(d T:Nat)(x b:Operand)(K:(Nat->AV)->Prop):Prop:=
 Js TE T λ_ c=>Ff F b λn=>gV F x λe f cs=>match f,cs with
  | none,[.s .own rows]=>Sl rows c.size none (some n) λa=>bP N e d (.H .one [oP a]) K
  | _,_=>False
section
variable{P:Program}{w0 w w1:World}{M S0 S:ah}{N:fm}{φ:Nat->ah}{F:Nat->AV}{a:Act}{TE:Nat->Option TI}
def dK.prefix{V:ah}{rows:List (List C)}{g k n cap:Nat}{m:Nat}{u:Nat->Value}{f:Nat->ah}(A:m<=n)(M:rows.length=n)(B:∀r∈rows,r.length=k)(t:n<=cap)(D:∀q,q<cap*k->V g q/\(∃z,cel w g q=some z/\z.oneCell'=true)/\fro w g q=NF)(E:∀q,q<n*k->cel w g q=some (u q))(F:∀q,q<n*k->∀b o,f q b o->V b o/\¬(b=g/\o<cap*k))(G:∀q h,q<n*k->h<n*k->q≠h->∀b o,f q b o->¬f h b o)(H:∀i j r c,rows[i]? = some r->r[j]? = some c->dK w S (f (i*k+j)) c (u (i*k+j))):dK w S V (oP (rows.take m)) (.slice (some ⟨g,0,none⟩) m cap):=by
 have J:m*k<=n*k:=Z9 k A;have a:(rows.take m).length=m:=by rw[O2];omega
 by_cases K:m=0
 ·subst K
  rw[List.take_zero];exact .S _ g 0 k 0 cap [] u rfl (λr l=>by cases l) (Z0 _) (λq p=>ω) (λi j r c d y=>by simp at d)
 rw[VL λe=>by rw[e]at a;simp at a;omega];refine .own _ .own g k m cap _ u f trivial a (λr l=>B r (List.mem_of_mem_take l)) ω ω D (λq p=>E q ω) (λq p=>F q ω) (λq h p L=>G q h ω ω) (λi j r c d y=>?_);rw[List.getElem?_take]at d;split at d
 ·exact H i j r c d y
 cases d
theorem bf.slW(h:bf w0 M S0 N S φ F a w)(E:∀t i,TE t=some i->iv P t i){d T:Nat}{x p:Operand}{K:(Nat->AV)->Prop}(X:Ge TE N F d T x p K) :
  ∃F' v,K F'/\(Instr.sliceAt T (a.eval x) none (some (a.eval p)) none).run P w=.ok v w/\St w0 M S0 N F' (a.put (some d) v) w:=by
 obtain⟨e,B,q,z,j,he,Y,Z,-⟩:=kw E X;obtain⟨ki,y,e1,j⟩:=h.int j;obtain⟨F',ag,cs,V,φ',j,h2,hv,hV,hφ,-⟩:=h.taken j
 match ag,cs,j with
 | none,[.s .own rows],j=>
  obtain⟨m,n,g1,g2,g3,g4,g5,r⟩:=j.out;have hm:m=0:=ψ
  subst hm;have hy:y=(n:Nat):=ψ
  subst hy;rw[List.drop_zero]at r;have G:((some p:Option Operand)=none/\(some ((n:Nat):Int))=none)\/∃o k l,some p=some o/\a.eval o=.int k l/\(some ((n:Nat):Int))=some l:=.inr ψ
  have H:((none:Option Operand)=none/\(none:Option Int)=none)\/∃o k l,(none:Option Operand)=some o/\a.eval o=.int k l/\(none:Option Int)=some l:=.inl ⟨rfl,rfl⟩
  have fin:∀(len cap:Nat)(ad:Option Addr),a.eval x=.slice ad len cap->len=rows.length->len<=cap->dK w S V (oP (rows.take n)) (sliced ad 0 n cap B.size)->
    ∃F' v,K F'/\(Instr.sliceAt T (a.eval x) none (some (a.eval p)) none).run P w=.ok v w/\St w0 M S0 N F' (a.put (some d) v) w:=λlen cap ad hx hl c D=>by
   have U:=qC (w:=w) (a:=a) (P:=P) (ad:=ad) (cap:=cap) (len:=len) Y Z.size H G (x:=0) (y:=n) ω (.inr rfl) (Z0 _) ω c;have A:br w S V none [oP (rows.take n)] (sliced ad 0 n cap B.size):=⟨rfl,λ_=>sliced ad 0 n cap B.size,rfl,λ_=>V,ψ,λ_ _ _ _ h=>h,ψ⟩
   obtain⟨F2,hK2,hst⟩:=h2.putD_taken A hV r
   grind
  have D:=hv.rep1;generalize b:C.s .own rows=c0 at D;generalize hvx:a.eval x=vx at D fin;cases D with
  | v=>cases b
  | x=>cases b
  | z=>cases b
  | m=>cases b
  | it=>cases b
  | S=>cases b
  | nil _ o' ad ho=>
   cases b;have J:n=0:=by simp at g4;omega
   subst J;exact fin 0 0 ad rfl rfl (O4 0) (.nil _ .S _ trivial)
  | own _ o' g k l cap L u f ho hn O c W hF Q hf hd hc=>
   cases b;have R:sliced (some ⟨g,0,none⟩) 0 n cap B.size=.slice (some ⟨g,0,none⟩) n cap:=by grind [jy,Go.sliced]
   refine fin l cap _ rfl ω c ?_;rw[R];exact dK.prefix ω hn O c hF Q hf hd hc
 | none,[],j=>exact j.elim
 | none,[.v _],j=>exact j.elim
end
def HT(F:Nat->AV)(d:Nat)(b:Bool):Nat->AV:=λt=>bif Nat.beq t d then .H .one [.v (.bool b)] else F t
def fR(F:Nat->AV)(ops:Array Oper)(g:Option (Nat × Bool))(K1 a:(Nat->AV)->Prop):Prop:=
 match g with
 | none=>K1 F
 | some (j,want)=>match(ops[j]?).bind (·.dst) with
  | some d=>(match F d with
    | .H .one [.v (.bool b)]=>Bf b (bif want then K1 (HT F d true) else a (HT F d true)) (bif want then a (HT F d false) else K1 (HT F d false))
    | .H (.tup _) _=>a F
    | _=>False)
  | none=>False
def rh(c:Call):Option (Nat × Operand × Operand):=
 match c.callee with
 | .builtin .append=>(match c.args.toList,c.argTypes.toList with|[x,y],[T,a]=>bif Nat.beq T a then some (T,x,y) else none|_,_=>none)
 | _=>none
def HD(N:fm)(F:Nat->AV)(d:Nat)(x:Operand):Option (Nat × List C):=
 match x with
 | .tmp t=>(match F t with
   | .H .box cs=>bif N.mo.any λp=>Nat.beq p.1 (3000000+d) then some (t,cs) else none
   | _=>none)
 | _=>none
def Pt(N:fm)(d:Nat)(x:Operand):Bool:=
 match x with
 | .const (.slice none 0 0)=>N.mo.any λp=>Nat.beq p.1 (6000000+d)
 | _=>false
def Mq(N:fm)(F:Nat->AV)(d:Nat)(x:Operand)(K:(Nat->AV)->Prop):Prop:=
 match HD N F d x with
 | some p=>bP N (kill F p.1) d (.H .box p.2) K
 | none=>lD N F d x K
def ED(N:fm)(F:Nat->AV)(d:Nat)(x:Operand)(K:(Nat->AV)->Prop):Prop:=bif Pt N d x then bP N F d (.H .one [.v (.slice none 0 0)]) K else Mq N F d x K
variable{x:Operand}{N:fm}
theorem Ta{d:Nat}(h:Pt N d x=true):x=.const (.slice none 0 0):=by grind [Pt]
theorem Dp{d:Nat}{p:Nat × List C}(h:HD N F d x=some p):x=.tmp p.1/\F p.1=.H .box p.2:=by
 unfold HD at h
 grind
def kT(P:Program)(TE:Nat->Option TI)(N:fm)(d:Nat)(b:Op)(K:(Nat->AV)->Prop)(F:Nat->AV):Prop:=
 match b with
 | .assign x=>ED N F d x K
 | .box _ x=>Qy N F d x K
 | .build T ps=>l9 TE N F d T ps.toList K
 | .buildSlice T n ps=>gq TE N F d T n ps.toList K
 | .range T x=>ql TE N F d T x K
 | .move x=>jl N F d x K
 | .next x str=>bif str then False else uO N F d x K
 | .entry x=>qE N F d x K
 | .call c=>(match rh c with
   | some p=>BP TE N F d p.1 p.2.1 p.2.2 K
   | none=>dh P TE F (.call c) λa=>bP N F d a K)
 | .slice T x none (some e) none=>bif Wj N d then Ge TE N F d T x e K else dh P TE F (.slice T x none (some e) none) λa=>bP N F d a K
 | b=>dh P TE F b λa=>bP N F d a K
def LZ:List (Nat × List Nat)->Nat->Option (List Nat)
 | [],_=>none
 | p::l,f=>bif Nat.beq f p.1 then some p.2 else LZ l f
def Br(N:fm)(F:Nat->AV)(b:Op):Option (Nat × List Operand × List Nat):=
 match b with
 | .call c=>(match c.callee with
   | .value (.func f)=>(match LZ N.mo f with|some a=>some (f,c.args.toList,a)|none=>none)
   | .value (.tmp t)=>(match F t with
     | .fn f caps=>(match LZ N.mo f with|some a=>some (f,c.args.toList++caps.map .tmp,a)|none=>none)
     | _=>none)
   | _=>none)
 | _=>none
def NU(N:fm)(a:Op):Bool:=
 match a with
 | .call c=>(match c.args.toList with
   | .tmp t::_=>N.mo.any λp=>Nat.beq p.1 (4000000+t)
   | _=>false)
 | _=>false
inductive Ch(A B:Prop):Prop
 |pl (h:A)
 |lt (h:B)
def lr(P:Program)(TE:Nat->Option TI)(N:fm)(o:Oper)(K:(Nat->AV)->Prop)(F:Nat->AV):Prop:=
 match o.dst with
 | none=>(match o.op with|.store T x y=>na TE F T x y K|.mapUpdate T m x y=>nS TE F T m x y K|_=>False)
 | some d=>kT P TE N d o.op K F
def VS:List (Nat × List Nat)->List Nat
 | []=>[]
 | p::l=>bif Nat.ble 5000000 p.1&&Nat.ble p.1 5999999 then(p.1 - 5000000)::VS l else VS l
def dne:Option Nat->Nat->Bool
 | none,_=>true
 | some d,s=>!Nat.beq d s
def rv1(F:Nat->AV)(d:Option Nat)(s:Nat)(a:Nat->AV):Nat->AV:=
 match F s with
 | .ref t off []=>bif dne d s&&dne d t then(match a t with|.H .box _=>(match a s with|.dead=>setH a s (.ref t off [])|_=>a)|_=>a) else a
 | _=>a
def rvE(F:Nat->AV)(d:Option Nat):List Nat->(Nat->AV)->Nat->AV
 | [],a=>a
 | s::l,a=>rvE F d l (rv1 F d s a)
def rvs(F:Nat->AV)(d:Option Nat):List Nat->((Nat->AV)->Prop)->(Nat->AV)->Prop
 | [],K,a=>K a
 | s::l,K,a=>match F s with
  | .ref t off []=>bif dne d s&&dne d t then(match a t with|.H .box _=>(match a s with|.dead=>rvs F d l K (setH a s (.ref t off []))|_=>rvs F d l K a)|_=>rvs F d l K a) else rvs F d l K a
  | _=>rvs F d l K a
theorem om{F:Nat->AV}{d:Option Nat}{K:(Nat->AV)->Prop} : ∀{l:List Nat}{a:Nat->AV},rvs F d l K a=K (rvE F d l a)
 | [],a=>rfl
 | s::l,a=>by
  simp only[rvs,rvE];unfold rv1;split
  ·cases b:(dne d s&&dne d _) with
   | false=>exact om
   | true=>
    simp only[cond_true];split
    ·split
     ·exact om
     exact om
    exact om
  exact om
def uf(P:Program)(N:fm)(F:Nat->AV)(d:Option Nat)(f:Nat)(args:List Operand)(modes:List Nat)(K:(Nat->AV)->Prop):Prop:=
 kZ P N F d f args modes (rvs F d (VS N.mo) K)
def jm(P:Program)(TE:Nat->Option TI)(N:fm)(ops:Array Oper)(o:Oper)(K:(Nat->AV)->Prop)(F:Nat->AV):Prop:=
 fR F ops o.guard (λF=>match Br N F o.op with
   | some p=>bif NU N o.op then Ch (lr P TE N o K F) (uf P N F o.dst p.1 p.2.1 p.2.2 K) else uf P N F o.dst p.1 p.2.1 p.2.2 K
   | none=>match o.dst with
     | none=>(match o.op with|.store T x y=>na TE F T x y K|.mapUpdate T m x y=>nS TE F T m x y K|_=>False)
     | some d=>kT P TE N d o.op K F)
  (λF=>match o.dst with|none=>K F|some d=>bP N F d (.H (.tup []) []) K)
def Nr(P:Program)(TE:Nat->Option TI)(N:fm)(ops:Array Oper):List Oper->((Nat->AV)->Prop)->(Nat->AV)->Prop
 | [],K,F=>K F
 | o::rest,K,F=>jm P TE N ops o (Nr P TE N ops rest K) F
section
variable{P:Program}{w0 w w1:World}{M S0 S:ah}{N:fm}{φ:Nat->ah}{F:Nat->AV}{a:Act}{TE:Nat->Option TI}
variable{K:(Nat->AV)->Prop}
theorem bf.asg(h:bf w0 M S0 N S φ F a w){d:Nat}{x:Operand}(f:ED N F d x K):∃F',K F'/\St w0 M S0 N F' (a.put (some d) (a.eval x)) w:=by
 unfold ED at f;cases g:Pt N d x with
 | true=>
  rw[g]at f;obtain rfl:=Ta g;exact h.putD_new (m8.same (kr rfl)) f
 | false=>
 rw[g]at f;simp only[cond_false]at f;unfold Mq at f;cases k:HD N F d x with
 | none=>grind [bf.assign]
 | some p=>
  rw[k]at f;obtain⟨rfl,l⟩:=Dp k;have c:=h.slot p.1;rw[l]at c;have i:Free w0 M S (λs=>if s=p.1 then NO else φ s) w (φ p.1):=λb o j=>by
   refine⟨λs c=>?_,h.disS p.1 b o j,h.ex p.1 b o j⟩;replace c:(if s=p.1 then NO else φ s) b o:=c;by_cases e:s=p.1
   ·rw[CD e]at c;exact c
   rw[CC e]at c;exact h.dis s p.1 e b o c j
  have n:cN w S (kill F p.1) (tvs a) (φ p.1) (.H .box p.2) (tvs a p.1):=c;exact(h.forget p.1).putD_free n i f
variable{o:Oper}{ops:Array Oper}
theorem xD(h:bf w0 M S0 N S φ F a w){K1 r:(Nat->AV)->Prop}(c:fR F ops o.guard K1 r) :
  (Region.wanted o (yielded ops a.tmps)=true/\K1 F)\/(Region.wanted o (yielded ops a.tmps)=false/\r F):=by
 unfold fR at c;unfold Region.wanted;cases A:o.guard with
 | none=>grind
 | some p=>
  obtain⟨j,want⟩:=p;rw[A]at c;simp only at c |-;cases k:(ops[j]?).bind (·.dst) with
  | none=>grind
  | some d=>
   rw[k]at c;simp only at c;split at c
   case h_3=>exact c.elim
   case h_2=>
    rename_i E cs l;have i:=h.slot d;rw[l]at i;obtain⟨B,Y,-,-,-,⟨q,g,-,-⟩,-⟩:=i;have e:yielded ops a.tmps j=none:=by
     unfold yielded;rw[k];simp only[Option.bind_some];cases n:a.tmps[d]? with
     | none=>rfl
     | some x=>
      have:tvs a d=x:=by simp[tvs,I9,n]
      grind
    rw[e];exact .inr ⟨rfl,c⟩
   rename_i b l;have i:=h.slot d;rw[l]at i;obtain⟨B,Y,-,-,-,-,f,C,-⟩:=i;have t:=C 0 _ rfl;have g:tvs a d=.bool b:=by
    generalize D:cn w Kd.one (tvs a d) 0=y at t;cases t;exact D
   have e:yielded ops a.tmps j=some b:=by
    unfold yielded;rw[k];simp only[Option.bind_some];cases n:a.tmps[d]? with
    | none=>
     have:tvs a d=undef:=by grind [tvs]
     rw[this]at g;cases g
    | some x=>
     have:tvs a d=x:=by simp[tvs,I9,n]
     grind
   have u:HT F d b=F:=by grind [C3,HT]
   grind [Bf.out]
theorem PM{w:World}{S:ah}{F:Nat->AV}{tv:Nat->Value} : cN w S F tv NO (.H (.tup []) []) undef:=
 ⟨NO,NO,λ_ _ h=>h,λ_ _ h=>h,λ_ _ h=>h.elim,⟨#[],rfl,trivial,rfl⟩,λ_=>NO,ψ,ψ,ψ⟩
theorem zd{c:Call}{p:Nat × Operand × Operand}(h:rh c=some p):c = ⟨.builtin .append,#[p.2.1,p.2.2],#[p.1,p.1]⟩:=by
 obtain⟨callee,args,b⟩:=c;unfold rh at h;simp only at h;split at h
 ·split at h
  ·rename_i x y T d g i
   cases a:Nat.beq T d with
   | false=>grind
   | true=>
    rw[a]at h;simp only[cond_true,I1]at h;have:=C3 a;subst this h;have e:args = #[x,y]:=ψ
    have f:b = #[T,T]:=ψ
    rw[e,f]
  cases h
 cases h
variable{Q:Exit->Act->World->Prop}{Kc:Act->World->Prop}
theorem bf.dst(h:bf w0 M S0 N S φ F a w)(l:∀t i,TE t=some i->iv P t i){d:Nat}(y:o.dst=some d)(f:kT P TE N d o.op K F)(A:∀F' B w',K F'->St w0 M S0 N F' B w'->Kc B w'):o.wp P a w Kc Q:=by
 have pure1:dh P TE F o.op (λC=>bP N F d C K)->o.wp P a w Kc Q:=λf=>by
  obtain⟨C,j,G⟩:=h.pure_ l f;refine G Kc Q λv w' H=>?_
  obtain⟨F',r,b⟩:=h.putD_new H j;rw[y];exact A F' _ w' r b
 have val:∀{v:Value}{w1:World}{F':Nat->AV},(execOp a.eval o).run P w=.ok (.value v) w1->K F'->St w0 M S0 N F' (a.put (some d) v) w1->o.wp P a w Kc Q:=fun {v w1 F'} k j b=>by
  have:=Ag.value (P:=P) (o:=o) (a:=a) (w:=w) (w1:=w1) (v:=v) (R:=λD w'=>D=v/\w'=w1) k ⟨rfl,rfl⟩;refine this Kc Q λD w' ⟨J,e⟩=>?_
  rw[e,J,y];exact A F' _ w1 j b
 cases g:o.op with
 | assign x=>
  rw[g]at f;obtain⟨F',j,b⟩:=h.asg f;exact val (by simp[execOp,g]) j b
 | box T x=>
  rw[g]at f;obtain⟨v,w1,F',j,k,b⟩:=h.boxW (P:=P) (T:=T) f;exact val (by simp[execOp,g,k]) j b
 | build T L=>
  rw[g]at f;obtain⟨v,F',j,k,b⟩:=h.buildW l f;exact val (by simp only[execOp,g];rw[Sem.run_bind,k];rfl) j b
 | buildSlice T n L=>
  rw[g]at f;obtain⟨v,w1,F',j,k,b⟩:=h.buildSW l f;exact val (by simp only[execOp,g];rw[Sem.run_bind,k];rfl) j b
 | move x=>
  rw[g]at f;obtain⟨F',j,b⟩:=h.moveW f;exact val (by simp[execOp,g]) j b
 | range T x=>
  rw[g]at f;obtain⟨v,w1,F',j,k,b⟩:=h.rangeW l f;exact val (by simp[execOp,g,k]) j b
 | next x str=>
  rw[g]at f;cases str with
  | true=>exact f.elim
  | false=>
   obtain⟨v,w1,F',j,k,b⟩:=h.nextW (P:=P) (ty:=o.type) f;exact val (by simp[execOp,g,k]) j b
 | entry x=>
  rw[g]at f;obtain⟨v,F',j,k,b⟩:=h.entryW (P:=P) f;exact val (by simp[execOp,g,k]) j b
 | call c=>
  rw[g]at f;simp only[kT]at f;cases u:rh c with
  | none=>rw[u]at f;exact pure1 (by rw[g];exact f)
  | some p=>
   rw[u]at f;obtain⟨v,w1,F',j,k,b⟩:=h.appW (ty:=o.type) l f;have:=zd u;subst this;exact val (by simp[execOp,g,resolve,invoke,builtin,k]) j b
 | slice T x O E U=>
  rw[g]at f;cases O with
  | some _=>exact pure1 (by rw[g];exact f)
  | none=>
   cases E with
   | none=>exact pure1 (by rw[g];exact f)
   | some E=>
    cases U with
    | some _=>exact pure1 (by rw[g];exact f)
    | none=>
     simp only[kT]at f;cases q:Wj N d with
     | false=>rw[q]at f;exact pure1 (by rw[g];exact f)
     | true=>
      rw[q]at f;obtain⟨F',v,j,k,b⟩:=h.slW l f;exact val (by simp[execOp,g,k]) j b
 | _=>rw[g]at f;exact pure1 (by rw[g];exact f)
variable{p:Nat × List Operand × List Nat}
theorem PL(h:bf w0 M S0 N S φ F a w)(b:Br N F o.op=some p):LH P p.1->(execOp a.eval o).run P w=.ok (.enter p.1 (p.2.1.map a.eval).toArray) w:=by
 intro e;unfold Br at b;split at b
 case h_2=>cases b
 rename_i c g;obtain⟨callee,args,k⟩:=c;simp only at b;split at b
 ·rename_i f
  split at b
  ·cases b
   have:=GY (a:=a) (w:=w) g e;rw[this]
   congr 2
   grind
  cases b
 ·rename_i t
  have i:=h.slot t;split at b
  ·rename_i f caps j
   rw[j]at i;split at b
   ·cases b
    have d:=ux (a:=a) (w:=w) (caps:=caps.map (tvs a)) g e i;rw[d]
    congr 2
    rw[C8,List.map_map]
    rfl
   cases b
  cases b
 cases b
theorem sG{v:Value}{d:Option Nat}{s:Nat}(h:dne d s=true):tvs (a.put d v) s=tvs a s:=by
 cases d with
 | none=>rfl
 | some d=>
  have b:d≠s:=λe=>by subst e;simp[dne]at h
  simp only[tvs,Act.put,I9,Array.getElem?_setIfInBounds];rw[CC b]
theorem Lz{w':World}{u:Nat->Value}{top:Option (Nat × Nat)}{off:Nat} : plc w' u top off []=top.map λp=>(p.1,p.2+off):=by
 cases top with
 | none=>rfl
 | some p=>rfl
theorem bf.rv1(h:bf w0 M S0 N S φ F a w){d:Option Nat}{v:Value}{w':World}{A:Nat->AV}(c:St w0 M S0 N A (a.put d v) w')(s:Nat):St w0 M S0 N (rv1 F d s A) (a.put d v) w':=by
 unfold Ab.rv1;split
 case h_2=>exact c
 rename_i t l D;cases e:(dne d s&&dne d t) with
 | false=>exact c
 | true=>
  rw[I0]at e;simp only[cond_true];split
  case h_2=>exact c
  rename_i cs n;split
  case h_2=>exact c
  rename_i E;obtain⟨S2,φ2,c⟩:=c;have G:t≠s:=ψ
  have B:=h.slot s;rw[D]at B;obtain⟨k,cs0,r,j,g,o,K,L,O,P⟩:=B;have i:=c.slot t;rw[n]at i;obtain⟨Q,Y,-,-,-,⟨R,T,p,-⟩,-⟩:=i;rw[sG e.2]at p;have H:k=.box:=by
   cases k with
   | box=>rfl
   | _=>grind [Lz,pb]
  subst H;refine⟨S2,λq=>if q=s then NO else φ2 q,λq=>?_,λq C u b o e f=>?_,λq b o e=>?_,λq b o e=>?_,c.sub,c.sup,c.old,c.size,c.defers,c.par⟩
  ·by_cases y:q=s
   ·subst y
    rw[qz];refine⟨.box,cs,cs,l,g,o,by grind [fE],rfl,?_,by grind [sG]⟩
    grind [Lz,sG]
   rw[fE _ _ y,CC y];refine(c.slot q).keep (φ:=φ2) (λt _ _ _=>c.slot t) (λC J=>⟨λk cs U=>?_,rfl,λ_ _ _=>⟨rfl,rfl⟩⟩) (λ_ _ _=>⟨rfl,rfl⟩) (λ_ _ _=>⟨rfl,rfl⟩) (λ_ _ h=>h) (λ_ _ h=>h)
   grind [fE]
  ·split at e
   ·exact e.elim
   split at f
   ·exact f.elim
   exact c.dis q C u b o e f
  ·split at e
   ·exact e.elim
   exact c.disS q b o e
  split at e
  ·exact e.elim
  exact c.ex q b o e
def bf.rvE(h:bf w0 M S0 N S φ F a w){d:Option Nat}{v:Value}{w':World} : ∀{l:List Nat}{c:Nat->AV},St w0 M S0 N c (a.put d v) w'->St w0 M S0 N (rvE F d l c) (a.put d v) w'
 | [],_,b=>b
 | s::l,_,b=>h.rvE (l:=l) (h.rv1 b s)
theorem bf.lent(h:bf w0 M S0 N S φ F a w)(e:Br N F o.op=some p)(f:uf P N F o.dst p.1 p.2.1 p.2.2 K)(g:∀F' c w',K F'->St w0 M S0 N F' c w'->Kc c w'):o.wp P a w Kc Q:=
 h.callM (PL h e) f λF' v w' d b=>by
  rw[om]at d;exact g _ _ w' d (h.rvE b)
theorem bf.plain(h:bf w0 M S0 N S φ F a w)(g:∀t i,TE t=some i->iv P t i)(c:lr P TE N o K F)(n:∀F' p w',K F'->St w0 M S0 N F' p w'->Kc p w'):o.wp P a w Kc Q:=by
 unfold lr at c;cases j:o.dst with
 | none=>
  rw[j]at c;simp only at c;split at c
  ·rename_i T x y k
   obtain⟨F',w1,l,b,f⟩:=h.storeOp g c;have:=Ag.skip (P:=P) (o:=o) (a:=a) (w:=w) (w1:=w1) (R:=λv w'=>v=undef/\w'=w1) (by simp[execOp,k,b]) ⟨rfl,rfl⟩;refine this Kc Q λv w' ⟨_,e⟩=>?_
   rw[e,j];exact n F' a w1 l f
  ·rename_i T m x y k
   obtain⟨F',w1,l,b,f⟩:=h.mapUpd g c;have:=Ag.skip (P:=P) (o:=o) (a:=a) (w:=w) (w1:=w1) (R:=λv w'=>v=undef/\w'=w1) (by simp[execOp,k,b]) ⟨rfl,rfl⟩;refine this Kc Q λv w' ⟨_,e⟩=>?_
   rw[e,j];exact n F' a w1 l f
  exact c.elim
 | some d=>
  grind [bf.dst]
theorem bf.one(h:bf w0 M S0 N S φ F a w)(c:∀t i,TE t=some i->iv P t i)(b:jm P TE N ops o K F)(f:∀F' g w',K F'->St w0 M S0 N F' g w'->Kc g w') :
  if Region.wanted o (yielded ops a.tmps) then o.wp P a w Kc Q else Kc (a.put o.dst undef) w:=by
 unfold jm at b;rcases xD h b with⟨e,b⟩|⟨e,b⟩
 ·rw[e,CD rfl]
  cases j:Br N F o.op with
  | some p=>
   rw[j]at b;simp only at b;cases l:NU N o.op with
   | false=>grind [bf.lent]
   | true=>
    rw[l]at b;rcases b with b|b
    all_goals grind [bf.plain,bf.lent]
  | none=>
  rw[j]at b;exact h.plain c b f
 rw[e,CC (by simp)];cases k:o.dst with
 | none=>rw[k]at b;exact f F a w b ⟨S,φ,h⟩
 | some d=>
  rw[k]at b;obtain⟨F',q,n⟩:=h.putD_new (v:=undef) (m8.same (av:=.H (.tup []) []) PM) b
  grind
theorem HP(b:∀t i,TE t=some i->iv P t i){ops:Array Oper}{K:(Nat->AV)->Prop}{Q:Exit->Act->World->Prop}(f:∀F' c w',K F'->St w0 M S0 N F' c w'->Q .normal c w') :
  ∀(l:List Oper)(F:Nat->AV)(a:Act)(w:World),Nr P TE N ops l K F->St w0 M S0 N F a w->wpList P ops Q l a w
 | [],F,a,w,d,e=>f F a w d e
 | o::l,F,a,w,d,⟨S,φ,h⟩=>by
  have:=h.one b d (Kc:=wpList P ops Q l) (Q:=Q) λF' c w' g e=>HP b f l F' c w' g e
  grind [Go.wpList]
end
def tm:Operand->List Nat
 | .tmp t=>[t]
 | _=>[]
def ir(F F':Nat->AV)(ts:List Nat):Prop:=∀t,t∈ts->F' t=F t/\∀a,(F t).uses a=true->∀k cs,F a=.H k cs->F' a=.H k cs
variable{F':Nat->AV}
theorem ir.mono{ts a:List Nat}(h:ir F F' ts)(b:∀t,t∈a->t∈ts):ir F F' a:=λt c=>h t (b t c)
theorem ir.ev(h:ir F F' (tm x)):nM F' x=nM F x:=by
 cases x with
 | tmp t=>exact(h t (by simp[tm])).1
 | _=>rfl
def eI(F:Nat->AV)(ts:List Nat)(av:AV):Prop:=∀d,av.uses d=true->d∈ts\/∃t,t∈ts/\(F t).uses d=true
def eI.H(F:Nat->AV)(ts:List Nat)(k:Kd)(cs:List C):eI F ts (.H k cs):=λd h=>by cases h
theorem CT:type_of% @eI.H:=@eI.H
def eI.iref(F:Nat->AV)(ts:List Nat)(r:List C)(o:Nat):eI F ts (.iref r o):=λd h=>by cases h
def oV(p:(Nat->AV)->(AV->Prop)->Prop)(F:Nat->AV)(ts:List Nat)(K:AV->Prop):Prop:=∃a,K a/\eI F ts a/\∀b,ir F b ts->∀c:AV->Prop,c a->p b c
section
variable{F:Nat->AV}{K:AV->Prop}{TE:Nat->Option TI}{P:Program}
variable{st:cG}{t off:Nat}
theorem yD{k:List C->Nat->Prop}(h:wO F t off st k):∃r j,k r j/\∀F':Nat->AV,(∀k cs,F t=.H k cs->F' t=.H k cs)->∀a:List C->Nat->Prop,a r j->wO F' t off st a:=by grind [qH,Rw.mk,wO]
theorem mE(v:Value)(d:Nat):(mZ v).uses d=false:=by
 cases v with
 | agg arr=>
  simp only[mZ];cases arr.all (·.oneCell')<;>rfl
 | pointer p=>cases p<;>rfl
 | _=>rfl
variable{x:Operand}
theorem cB{k:Option Nat->List C->Prop}(h:iN F (nM F x) k):∃ag cs,k ag cs/\∀F':Nat->AV,ir F F' (tm x)->∀d:Option Nat->List C->Prop,d ag cs->iN F' (nM F' x) d:=by
 cases a:nM F x with
 | H l cs=>
  rw[a]at h;cases l with
  | one=>exact⟨_,_,h,λF' b d e=>by rw[b.ev,a];exact e⟩
  | agg=>exact⟨_,_,h,λF' b d e=>by rw[b.ev,a];exact e⟩
  | _=>exact h.elim
 | c1 t i n ag=>
  rw[a]at h;replace h:wO F t i n λr j=>k ag (bE r j (ag.getD 1)):=h
  obtain⟨r,j,e,u⟩:=yD h;refine⟨_,_,e,λF' b d o=>?_⟩;rw[b.ev,a];refine u F' (λl cs w=>?_) (λr j=>d ag (bE r j (ag.getD 1))) o;cases x with
  | tmp q=>
   have p:F q=.c1 t i n ag:=a;exact(b q (by simp[tm])).2 t (by rw[p];simp[AV.uses]) l cs w
  | const v=>
   have:=mE v t;rw[show mZ v=.c1 t i n ag from a]at this;simp[AV.uses]at this
  | global g=>cases a
  | func f=>cases a
 | dead=>rw[a]at h;exact h.elim
 | ref=>rw[a]at h;exact h.elim
 | iref=>rw[a]at h;exact h.elim
 | fn f caps=>
  rw[a]at h;cases caps with
  | cons c cs=>exact h.elim
  | nil=>exact⟨_,_,h,λF' b d e=>by rw[b.ev,a];exact e⟩
 | fv=>rw[a]at h;exact h.elim
def jr{k:Value->Prop}(h:Ky F x k):∃z,k z/\∀F':Nat->AV,ir F F' (tm x)->∀a:Value->Prop,a z->Ky F' x a:=by
 obtain⟨d,cs,b,e⟩:=cB h
 match d,cs,b with
 | none,[.v z],b=>exact⟨z,b,λF' f a c=>e F' f _ c⟩
theorem MM{F':Nat->AV}(h:F' t=F t):b9 F' (.tmp t) K=b9 F (.tmp t) K:=by grind [b9]
theorem kJ(h:b9 F x K):oV (λF K=>b9 F x K) F (tm x) K:=by
 cases x with
 | tmp t=>
  have l:t∈tm (.tmp t):=by simp[tm]
  have fin:∀j,K j->eI F (tm (.tmp t)) j->(∀a:AV->Prop,a j->b9 F (.tmp t) a)->oV (λF K=>b9 F (.tmp t) K) F (tm (.tmp t)) K:=λj u w y=>
   ⟨j,u,w,λn A a i=>by
     show b9 n (.tmp t) _;rw[MM (A t l).1];exact y a i⟩
  have loc:∀d,d=t->d∈tm (.tmp t):=ψ
  cases o:F t with
  | H k cs=>
   cases k with
   | box=>
    have e:∀a,b9 F (.tmp t) a=a (.ref t 0 []):=λa=>by grind [b9]
    rw[e]at h;exact fin _ h (λd b=>.inl (loc d (by simp[AV.uses]at b;exact b.symm))) ψ
   | one=>
    cases B:bp cs with
    | true=>
     grind [CT,b9]
    | false=>
     have e:∀a,b9 F (.tmp t) a=a (.c1 t 0 [] none):=λa=>by grind [b9]
     rw[e]at h;exact fin _ h (λd b=>.inl (loc d (by simp[AV.uses]at b;exact b.symm))) ψ
   | agg=>
    cases B:bp cs with
    | true=>
     grind [CT,b9]
    | false=>
     have e:∀a,b9 F (.tmp t) a=a (.c1 t 0 [] (some cs.length)):=λa=>by grind [b9]
     rw[e]at h;exact fin _ h (λd b=>.inl (loc d (by simp[AV.uses]at b;exact b.symm))) ψ
   | tup D=>
    grind [CT,b9]
  | dead=>
   have e:∀a,b9 F (.tmp t) a=a .dead:=λa=>by grind [b9]
   rw[e]at h;exact fin _ h (λd b=>by cases b) ψ
  | ref p c q=>
   have e:∀a,b9 F (.tmp t) a=a (.ref p c q):=λa=>by grind [b9]
   rw[e]at h;exact fin _ h (λd b=>.inr ⟨t,l,by rw[o];exact b⟩) ψ
  | c1 p c q C=>
   have e:∀a,b9 F (.tmp t) a=a (.c1 p c q C):=λa=>by grind [b9]
   rw[e]at h;exact fin _ h (λd b=>.inr ⟨t,l,by rw[o];exact b⟩) ψ
  | iref r c=>
   have e:∀a,b9 F (.tmp t) a=a (.iref r c):=λa=>by grind [b9]
   rw[e]at h;exact fin _ h (λd b=>by cases b) ψ
  | fn f caps=>
   have e:∀a,b9 F (.tmp t) a=a (.fn f caps):=λa=>by grind [b9]
   rw[e]at h;exact fin _ h (λd b=>.inr ⟨t,l,by rw[o];exact b⟩) ψ
  | fv Ok=>
   have e:∀a,b9 F (.tmp t) a=a (.fv Ok):=λa=>by grind [b9]
   rw[e]at h;exact fin _ h (λd b=>by cases b) ψ
 | const v=>
  refine⟨_,h,λd b=>?_,λn _ a i=>i⟩
  grind [mE]
 | global g=>exact⟨_,h,(λd b=>by cases b),λn _ a i=>i⟩
 | func f=>exact⟨_,h,(λd b=>by cases b),λn _ a i=>i⟩
variable{ts:List Nat}
theorem Mm{i:TI}(p:t∈ts\/∃l,l∈ts/\(F l).uses t=true)(h:U5 F i t off st K) :
  ∃av,K av/\eI F ts av/\∀F':Nat->AV,(∀k cs,F t=.H k cs->F' t=.H k cs)->∀b:AV->Prop,b av->U5 F' i t off st b:=by
 obtain⟨r,j,a,n⟩:=yD h;cases e:Nat.beq (bE r j i.size).length i.size with
 | false=>grind
 | true=>
  rw[e]at a;simp only[cond_true]at a;cases c:bp (bE r j i.size) with
  | true=>rw[c]at a;exact⟨_,a,CT _ _ _ _,λF' f b g=>n F' f _ (by rw[e,c];exact g)⟩
  | false=>rw[c]at a;exact⟨_,a,λd o=>by simp[AV.uses]at o;subst o;exact p,λF' f b g=>n F' f _ (by rw[e,c];exact g)⟩
variable{T:Nat}
theorem Py(h:wt TE F T x K):oV (λF K=>wt TE F T x K) F (tm x) K:=by
 unfold wt at h;cases w:TE T with
 | none=>grind
 | some i=>
  rw[w]at h;simp only at h;cases y:(i.agg || Nat.beq i.size 1) with
  | false=>grind
  | true=>
   rw[y]at h;simp only[cond_true]at h;cases x with
   | tmp t=>
    have g:t∈tm (.tmp t):=by simp[tm]
    simp only at h;have same:∀{b},ir F b (tm (.tmp t))->b t=F t:=λc=>(c t g).1
    have unf:∀{b}{d:AV->Prop},ir F b (tm (.tmp t))->(match F t with|.H .box _=>U5 b i t 0 [] d|.ref t a q=>U5 b i t a q d|.iref r a=>bif Nat.beq (bE r a i.size).length i.size then d (.H (m7 (qN i)) (bE r a i.size)) else False|_=>False)->wt TE b T (.tmp t) d:=λe f=>by grind [wt]
    cases c:F t with
    | H k cs=>
     rw[c]at h;cases k with
     | box=>
      obtain⟨j,l,n,o⟩:=Mm (ts:=tm (.tmp t)) (.inl g) h;exact⟨j,l,n,λb e d p=>unf e (by rw[c];exact o b (λk cs f=>(same e).trans f) d p)⟩
     | _=>exact h.elim
    | ref u a q=>
     rw[c]at h;have A:(F t).uses u=true:=by rw[c];simp[AV.uses]
     obtain⟨j,l,n,o⟩:=Mm (ts:=tm (.tmp t)) ψ h;exact⟨j,l,n,λb e d p=>unf e (by rw[c];exact o b (λk cs f=>(e t g).2 u A k cs f) d p)⟩
    | iref r a=>
     rw[c]at h;simp only at h;cases B:Nat.beq (bE r a i.size).length i.size with
     | false=>grind
     | true=>
      rw[B]at h;exact⟨_,h,CT _ _ _ _,ψ⟩
    | dead=>grind
    | c1=>grind
    | fn=>grind
    | fv=>grind
   | _=>exact h.elim
theorem JW{o:Nat}(h:pk F x o K):oV (λF K=>pk F x o K) F (tm x) K:=by
 cases x with
 | tmp t=>
  have b:t∈tm (.tmp t):=by simp[tm]
  simp only[pk]at h;cases a:F t with
  | H k cs=>
   rw[a]at h;cases k with
   | box=>exact⟨_,h,λd f=>.inl (by simp[AV.uses]at f;subst f;exact b),λi c j e=>by simp only[pk,(c t b).1,a];exact e⟩
   | _=>exact h.elim
  | ref l g n=>rw[a]at h;exact⟨_,h,λd f=>.inr ⟨t,b,by rw[a];exact f⟩,λi c j e=>by simp only[pk,(c t b).1,a];exact e⟩
  | iref r g=>rw[a]at h;exact⟨_,h,eI.iref _ _ _ _,λi c j e=>by simp only[pk,(c t b).1,a];exact e⟩
  | dead=>grind
  | c1=>grind
  | fn=>grind
  | fv=>grind
 | _=>exact h.elim
theorem A3{f:Nat}(h:iK TE F T x f K):oV (λF K=>iK TE F T x f K) F (tm x) K:=by
 unfold iK at h;unfold oV iK;split at h
 case h_2=>exact h.elim
 split at h
 case h_2=>exact h.elim
 rename_i o c _;split at h
 case h_2=>exact h.elim
 rename_i a _;cases b:Nat.beq a.size 0 with
 | true=>grind
 | false=>
  rw[b]at h;simp only[cond_false]at h |-;exact JW h
variable{size:Nat}
theorem GQ{c:C}{i:Int}(n:t∈ts\/∃e,e∈ts/\(F e).uses t=true)(h:Kg size t off st c i K):∃av,K av/\eI F ts av/\∀b:AV->Prop,b av->Kg size t off st c i b:=by
 cases c with
 | s o f=>
  obtain⟨g,r,j,a⟩:=Ix.out h;cases p:Nat.beq r.length size with
  | false=>grind
  | true=>
   rw[p]at a;simp only[cond_true]at a;cases k:o.mine with
   | true=>rw[k]at a;exact⟨_,a,λd l=>by simp[AV.uses]at l;subst l;exact n,λb q=>CP g j ψ⟩
   | false=>rw[k]at a;exact⟨_,a,eI.iref _ _ _ _,λb q=>CP g j ψ⟩
 | _=>exact h.elim
theorem HN{i:Int}(h:o6 F size x i K):oV (λF K=>o6 F size x i K) F (tm x) K:=by
 cases x with
 | tmp t=>
  have b:t∈tm (.tmp t):=by simp[tm]
  simp only[o6]at h;cases a:F t with
  | H D cs=>
   rw[a]at h;cases D with
   | one=>
    match cs,h,a with
    | [c],h,a=>
     obtain⟨g,l,o,q⟩:=GQ (ts:=tm (.tmp t)) (.inl b) h;exact⟨g,l,o,λu e w y=>by simp only[o6,(e t b).1,a];exact q w y⟩
   | _=>exact h.elim
  | c1 f d A E=>
   rw[a]at h;cases E with
   | none=>
    replace h:wO F f d A λr j=>match r[j]? with|some c=>Kg size f d A c i K|none=>False:=h
    obtain⟨r,j,B,p⟩:=yD h;have C:(F t).uses f=true:=by rw[a];simp[AV.uses]
    cases G:r[j]? with
    | none=>grind
    | some c=>
     rw[G]at B;obtain⟨g,l,o,q⟩:=GQ (ts:=tm (.tmp t)) (.inr ⟨t,b,C⟩) B;exact⟨g,l,o,λu e w y=>by simp only[o6,(e t b).1,a];exact p u (λk cs H=>(e t b).2 f C k cs H) _ ψ⟩
   | some n=>exact h.elim
  | dead=>grind
  | ref=>grind
  | iref=>grind
  | fn=>grind
  | fv=>grind
 | _=>exact h.elim
theorem Ay{y:Operand}(h:iL TE F T x y K):oV (λF K=>iL TE F T x y K) F (tm x++tm y) K:=by
 unfold iL at h;unfold oV iL;split at h
 case h_2=>exact h.elim
 split at h
 case h_2=>exact h.elim
 rename_i j b;obtain⟨z,a,k⟩:=jr h;cases z with
 | int l i=>
  obtain⟨c,e,f,n⟩:=HN a;refine⟨c,e,λd g=>(f d g).imp ψ ψ,λo p q r=>?_⟩
  grind [ir.mono]
 | _=>exact a.elim
end
inductive Uv(bs:List C)(off:Nat)(K:List C->Prop):Prop
 |mk_ (h:∃o rows rows' bs',bs[off]? = some (.s o rows)/\fz (.s o rows)=.s .S rows'/\bs'=splice bs off [.s .S rows']/\K bs')
theorem Uv.mk{b:List C}{K:List C->Prop}{rows':List (List C)}(h1:b[off]? = some (.s o rows))(c:fz (.s o rows)=.s .S rows')(d:a=splice b off [.s .S rows'])(e:K a):Uv b off K:=by refine .mk_ ?_;grind
theorem Uv.out{K:List C->Prop}(h:Uv a off K):∃o rows,a[off]? = some (.s o rows)/\K (splice a off [fz (.s o rows)]):=by
 obtain⟨h⟩:=h;grind
def tc(t:Nat):List Nat->((Nat->AV)->Prop)->(Nat->AV)->Prop
 | [],K,F=>K F
 | a::l,K,F=>(match F t with
   | .H k bs=>Uv bs a λb=>tc t l K (updH F t k b)
   | _=>False)
theorem Fe{c a:C}(h:off<cs.length):splice (splice cs off [c]) off [a]=splice cs off [a]:=by
 apply List.ext_getElem?
 grind [jW,splice]
theorem MJ(t:Nat)(v:AV):t7 t (t7 t v)=t7 t v:=by
 cases v with
 | c1 c a b d=>grind [t7]
 | ref c a b=>
  cases b with
  | nil=>rfl
  | cons s b=>grind [t7]
 | _=>rfl
theorem JZ(F:Nat->AV)(t:Nat)(k:Kd)(x y:List C):updH (updH F t k x) t k y=updH F t k y:=by grind [iZ,gT,MJ]
theorem bf.fzCell{w0:World}{M S0:ah}{φ:Nat->ah}{a:Act}(h:bf w0 M S0 N S φ F a w){f:List C}(A:F t=.H k f)(g:f[off]? = some (.s o rows)):St w0 M S0 N (updH F t k (splice f off [fz (.s o rows)])) a w:=by
 have l:off<f.length:=ψ
 have p:bE f off 1=[.s o rows]:=by grind [List.drop_eq_getElem_cons,bE]
 obtain⟨V,X,q,H,J,u,B⟩:=h.take A (off:=off) (n:=1) ω;rw[p]at u;have D:Free w0 M S (λs=>if s=t then X else φ s) w V:=λb o g=>by
  refine⟨λs i=>?_,h.disS t b o (q b o g),h.ex t b o (q b o g)⟩;replace i:(if s=t then X else φ s) b o:=i;by_cases e:s=t
  ·grind
  rw[CC e]at i;exact h.dis s t e b o i (q b o g)
 have E:=B.addS (S':=λb o=>S b o\/V b o) D ψ (λ_ _ h=>h);have G:(splice f off (List.replicate 1 C.x)).length=f.length:=by grind [splice]
 obtain⟨φ',y,-⟩:=E.back (out:=[fz (.s o rows)]) (off:=off) (j:=off) (st:=[]) (r:=splice f off (List.replicate 1 .x)) (iZ ..) rfl trivial ψ (V:=NO) (λ_ _ h=>h.elim) (u.freeze.congr λd _=>rfl);rw[JZ]at y;rw[<-Fe (c:=.x) l];exact⟨_,φ',y⟩
theorem xp{w0 w:World}{M S0:ah}{N:fm}{a:Act}{t:Nat}{K:(Nat->AV)->Prop} : ∀{offs:List Nat}{F:Nat->AV},tc t offs K F->St w0 M S0 N F a w->∃F',K F'/\St w0 M S0 N F' a w
 | [],F,b,c=>⟨F,b,c⟩
 | f::l,F,b,c=>by
  unfold tc at b;cases d:F t with
  | H k j=>
   rw[d]at b;obtain⟨o,e,g,i⟩:=Uv.out b;obtain⟨S,φ,h⟩:=c;exact xp i (h.fzCell d g)
  | _=>grind
def Ps(mo:List (Nat × List Nat))(id:Nat)(K:(Nat->AV)->Prop)(F:Nat->AV):Prop:=
 match LZ mo (id+2000000) with
 | some l=>(match l with
   | t::offs=>tc t offs K F
   | []=>K F)
 | none=>K F
theorem U6{w0:World}{M S0:ah}{a:Act}{mo:List (Nat × List Nat)}{id:Nat}{K:(Nat->AV)->Prop}(b:Ps mo id K F)(c:St w0 M S0 N F a w):∃F',K F'/\St w0 M S0 N F' a w:=by grind [xp,Ps]
def lay:List (Nat × AV)->Nat->AV
 | [],_=>.dead
 | p::l,t=>bif Nat.beq t p.1 then p.2 else lay l t
def Tb:C->C->Prop
 | _,.x=>True
 | .z,.s .S rows=>rows=[]
 | .z,.s .own rows=>rows=[]
 | .s (.tag _) rows,.s .own rows'=>rows=rows'
 | c,a=>c=a
def RK:List C->List C->Prop
 | [],[]=>True
 | c::cs,a::cs'=>Tb c a/\RK cs cs'
 | _,_=>False
def UV(F F1:Nat->AV)(t:Nat)(av:AV):Prop:=
 match av with
 | .dead=>True
 | .H k cs=>(match F t with|.H k' cs'=>k'=k/\RK cs' cs|_=>False)
 | .ref t' off st=>F t=.ref t' off st/\F1 t'=F t'
 | .c1 t' off st ag=>F t=.c1 t' off st ag/\F1 t'=F t'
 | .iref r off=>F t=.iref r off
 | .fn f caps=>F t=.fn f caps
 | .fv Ok=>F t=.fv Ok
def Qw(F F1:Nat->AV):List (Nat × AV)->Prop
 | []=>True
 | p::l=>UV F F1 p.1 p.2/\Qw F F1 l
def Wk(F:Nat->AV)(L:List (Nat × AV)):Prop:=Qw F (lay L) L
def yb{F F1:Nat->AV} : ∀{L:List (Nat × AV)},Qw F F1 L->∀t,lay L t=.dead\/UV F F1 t (lay L t)
 | [],_,t=>.inl rfl
 | p::L,h,t=>by
  simp only[lay];cases a:Nat.beq t p.1 with
  | true=>
   have:=C3 a;subst this;exact .inr h.1
  | false=>exact yb h.2 t
def fz1(t:Nat)(F:Nat->AV):Nat->AV:=λs=>bif Nat.beq s t then(match F s with|.H k cs=>.H k (ed cs)|.dead=>.dead|.ref ..=>.dead|.c1 ..=>.dead|.iref ..=>.dead|.fn ..=>.dead|.fv _=>.dead) else kl t (F s)
def fzA:List Nat->(Nat->AV)->Nat->AV
 | [],F=>F
 | t::ts,F=>fzA ts (fz1 t F)
def We(F:Nat->AV)(x:Operand)(K:Bool->Prop):Prop:=Ky F x λv=>match v with|.bool b=>K b|_=>False
def VC(K:(Nat->AV)->Prop)(Q:Exit->(Nat->AV)->Prop):Exit->(Nat->AV)->Prop:=λe F=>match e with|.normal=>K F|e=>Q e F
def Wt(id:Nat)(Q:Exit->(Nat->AV)->Prop):Exit->(Nat->AV)->Prop:=λe F=>match e with|.exit i=>bif Nat.beq i id then Q .normal F else Q (.exit i) F|e=>Q e F
inductive Nx(ι:Type)(L:ι->List (Nat × AV))(inv:ι->Prop)(μ:ι->Nat)(i:ι)(F:Nat->AV):Prop
 |mk_ (h:∃i',inv i'/\μ i'<μ i/\Wk F (L i'))
variable{ι:Type}
theorem Nx.mk{L:ι->List (Nat × AV)}{inv:ι->Prop}{μ:ι->Nat}{i:ι}(a:ι)(h1:inv a)(b:μ a<μ i)(c:Wk F (L a)):Nx ι L inv μ i F:=by refine .mk_ ?_;grind
def CG:type_of% @Nx.mk:=@Nx.mk
def Nx.out{L:ι->List (Nat × AV)}{inv:ι->Prop}{μ:ι->Nat}{i:ι}(h:Nx ι L inv μ i F):∃a,inv a/\μ a<μ i/\Wk F (L a):=by obtain⟨h⟩:=h;exact h
inductive Lp(body:(Exit->(Nat->AV)->Prop)->(Nat->AV)->Prop)(Q:Exit->(Nat->AV)->Prop)(F:Nat->AV):Prop
 |mk_ (h:∃(ts:List Nat)(ι:Type)(L:ι->List (Nat × AV))(inv:ι->Prop)(μ:ι->Nat)(i0:ι),Wk (fzA ts F) (L i0)/\inv i0/\∀i,inv i->body (VC (Nx ι L inv μ i) Q) (lay (L i)))
variable{Q:Exit->(Nat->AV)->Prop}{body:(Exit->(Nat->AV)->Prop)->(Nat->AV)->Prop}
def Lp.mk(L:ι->List (Nat × AV))(inv:ι->Prop)(μ:ι->Nat)(a:ι)(b:Wk F (L a))(h1:inv a)(c:∀i,inv i->body (VC (Nx ι L inv μ i) Q) (lay (L i))):Lp body Q F:=by refine .mk_ ?_;exact⟨[],ι,L,inv,μ,a,b,h1,c⟩
def CH:type_of% @Lp.mk:=@Lp.mk
def Lp.fz(t:Nat)(L:ι->List (Nat × AV))(inv:ι->Prop)(μ:ι->Nat)(a:ι)(b:Wk (fz1 t F) (L a))(h1:inv a)(c:∀i,inv i->body (VC (Nx ι L inv μ i) Q) (lay (L i))):Lp body Q F:=by refine .mk_ ?_;exact⟨[t],ι,L,inv,μ,a,b,h1,c⟩
def Lp.out(h:Lp body Q F):∃(ts:List Nat)(ι:Type)(L:ι->List (Nat × AV))(inv:ι->Prop)(μ:ι->Nat)(a:ι),Wk (fzA ts F) (L a)/\inv a/\∀i,inv i->body (VC (Nx ι L inv μ i) Q) (lay (L i)):=by obtain⟨h⟩:=h;exact h
def aw(P:Program)(TE:Nat->Option TI)(N:fm)(D:Nat->Array Oper->((Nat->AV)->Prop)->(Nat->AV)->Prop):Code->(Exit->(Nat->AV)->Prop)->(Nat->AV)->Prop
 | .skip,Q,F=>Q .normal F
 | .region id ops draw,Q,F=>bif draw then D id ops (Q .normal) F else Ps N.mo id (Nr P TE N ops ops.toList (Q .normal)) F
 | .seq x y,Q,F=>aw P TE N D x (VC (aw P TE N D y Q) Q) F
 | .cond c x y,Q,F=>We F c λb=>Bf b (aw P TE N D x Q F) (aw P TE N D y Q F)
 | .block id c,Q,F=>aw P TE N D c (Wt id Q) F
 | .loop c,Q,F=>Lp (aw P TE N D c) Q F
 | .exit id,Q,F=>Q (.exit id) F
 | .ret,Q,F=>Q .ret F
 | _,_,_=>False
section
variable{P:Program}{w0 w w1:World}{M S0 S:ah}{N:fm}{φ:Nat->ah}{F:Nat->AV}{a:Act}{TE:Nat->Option TI}
theorem TR{Y:ah}{c q:C}{v:Value}(e:Tb c q)(h:dK w S Y c v):dK w S Y q v:=by
 unfold Tb at e;split at e
 ·exact .x _ _ h.one
 ·subst e
  obtain⟨b,rfl⟩:=z6 h;exact .nil _ _ _ trivial
 ·subst e
  obtain⟨b,rfl⟩:=z6 h;exact .nil _ _ _ trivial
 ·subst e
  rename_i r d;generalize l:C.s (.tag r) d=c0 at h;cases h with
  | nil F o a t=>cases l;exact .nil _ _ _ trivial
  | S=>cases l
  | own F o g k n p d u f t y A i j B D E G e=>cases l;exact .own _ .own g k n p d u f trivial y A i j B D E G e
  | _=>cases l
 grind
theorem wY:∀{cs a:List C},RK cs a->cs.length=a.length/\∀(j:Nat)(b:C),a[j]? = some b->∃c,cs[j]? = some c/\Tb c b
 | [],[],_=>(ψ)
 | c::cs,b::a,h=>by
  obtain⟨e,f⟩:=wY h.2;refine⟨by simp[e],λj y d=>?_⟩;cases j with
  | zero=>simp at d;subst d;exact⟨c,rfl,h.1⟩
  | succ j=>grind
 | [],_::_,h=>h.elim
 | _::_,[],h=>h.elim
theorem Lv{Y:ah}{cs a:List C}{u:Nat->Value}(b:RK cs a)(h:cK w S Y cs u):cK w S Y a u:=by
 obtain⟨d,e⟩:=wY b;obtain⟨f,g,i,k⟩:=h;exact⟨f,λj c l=>by grind [TR],ψ,ψ⟩
theorem St.weaken{L:List (Nat × AV)}(h:St w0 M S0 N F a w)(p:Wk F L):St w0 M S0 N (lay L) a w:=by
 obtain⟨S,φ,h⟩:=h;refine⟨S,φ,λt=>?_,h.dis,h.disS,h.ex,h.sub,h.sup,h.old,h.size,h.defers,h.par⟩;rcases yb p t with b|b
 ·rw[b];trivial
 have d:=h.slot t;cases c:lay L t with
 | dead=>trivial
 | H k cs=>
  rw[c]at b;simp only[UV]at b;split at b
  case h_2=>exact b.elim
  rename_i E q u;obtain⟨rfl,n⟩:=b;rw[u]at d;obtain⟨y,Y,i,l,A,G,B⟩:=d;exact⟨y,Y,i,l,A,by grind [wY],Lv n B⟩
 | ref C e D=>
  rw[c]at b;rw[b.1]at d;obtain⟨k,cs,r,j,g,o,i,l⟩:=d;exact⟨k,cs,r,j,g,o,by rw[b.2];exact i,l⟩
 | c1 C e D H=>
  rw[c]at b;rw[b.1]at d;obtain⟨k,cs,r,j,i,l⟩:=d;exact⟨k,cs,r,j,by rw[b.2];exact i,l⟩
 | iref r e=>
  rw[c]at b;have b:F t=.iref r e:=b;rw[b]at d;exact d
 | fn f caps=>
  rw[c]at b;have b:F t=.fn f caps:=b;rw[b]at d;exact d
 | fv Ok=>
  rw[c]at b;have b:F t=.fv Ok:=b;rw[b]at d;exact d
theorem St.fz1(h:St w0 M S0 N F a w)(t:Nat):St w0 M S0 N (Ab.fz1 t F) a w:=by
 obtain⟨S,φ,h⟩:=h;have n:∀{s},s≠t->Ab.fz1 t F s=kl t (F s):=fun {s} e=>by
  have:Nat.beq s t=false:=by grind [Nat.beq_eq]
  simp[Ab.fz1,this]
 have p:∀(q:ah),(∀b o,S b o->q b o)->∀s,s≠t->cN w q (Ab.fz1 t F) (tvs a) (φ s) (Ab.fz1 t F s) (tvs a s):=λq j s e=>by
  rw[n e,BN];cases K:(F s).uses t with
  | true=>trivial
  | false=>
   simp only[cond_false];refine(h.slot s).keep (φ:=φ) (λt _ _ _=>h.slot t) (λB C=>?_) (λ_ _ _=>⟨rfl,rfl⟩) (λ_ _ _=>⟨rfl,rfl⟩) (λ_ _ h=>h) j;have D:B≠t:=ψ
   exact⟨λk cs L=>by grind [E2],rfl,λ_ _ _=>⟨rfl,rfl⟩⟩
 have r:(∀k cs,F t≠.H k cs)->St w0 M S0 N (Ab.fz1 t F) a w:=λD=>by
  refine⟨S,λs=>if s=t then NO else φ s,λs=>?_,λs i g b o c d=>?_,λs b o c=>?_,λs b o c=>?_,h.sub,h.sup,h.old,h.size,h.defers,h.par⟩
  ·by_cases e:s=t
   ·subst e
    have:Ab.fz1 s F s=.dead:=by
     unfold Ab.fz1
     grind [Nat.beq_refl]
    rw[this];trivial
   grind
  ·split at c
   ·exact c.elim
   split at d
   ·exact d.elim
   exact h.dis s i g b o c d
  ·split at c
   ·exact c.elim
   exact h.disS s b o c
  split at c
  ·exact c.elim
  exact h.ex s b o c
 cases E:F t with
 | H k cs=>
  have e:=h.slot t;rw[E]at e;obtain⟨A,Y,l,u,G,O,H⟩:=e;have y:Ab.fz1 t F t=.H k (ed cs):=by
   unfold Ab.fz1
   simp_all
  refine⟨λb o=>S b o\/Y b o,λs=>if s=t then A else φ s,λs=>?_,λs i g b o c d=>?_,λs b o c j=>?_,λs b o c=>?_,λb o c=>.inl (h.sub b o c),λb o c=>?_,h.old,h.size,h.defers,h.par⟩
  ·by_cases e:s=t
   ·subst e
    rw[y,CD rfl];exact⟨A,NO,λ_ _ h=>h,λ_ _ h=>h.elim,λ_ _ _ h=>h,by grind [cg],H.freeze⟩
   grind
  ·by_cases e:s=t
   ·rw[CD e]at c
    by_cases f:i=t
    ·omega
    rw[CC f]at d;exact h.dis t i (Ne.symm f) b o (l b o c) d
   rw[CC e]at c;by_cases f:i=t
   ·rw[CD f]at d;exact h.dis s t e b o c (l b o d)
   rw[CC f]at d;exact h.dis s i g b o c d
  ·by_cases e:s=t
   ·rw[CD e]at c
    exact j.elim (h.disS t b o (l b o c)) (G b o c)
   rw[CC e]at c;exact j.elim (h.disS s b o c) λJ=>h.dis s t e b o c (u b o J)
  ·split at c
   ·exact h.ex t b o (l b o c)
   exact h.ex s b o c
  rcases c with c|c
  ·exact h.sup b o c
  exact⟨(h.ex t b o (u b o c)).1,.inr (h.ex t b o (u b o c)).2⟩
 | _=>grind
def St.fzA:∀(ts:List Nat){F:Nat->AV},St w0 M S0 N F a w->St w0 M S0 N (Ab.fzA ts F) a w
 | [],_,h=>h
 | t::ts,_,h=>St.fzA ts (h.fz1 t)
def gw(ck:Nat->Array Oper->Bool):Code->Bool
 | .region id ops draw=>bif draw then ck id ops else true
 | .seq x y=>gw ck x&&gw ck y
 | .cond _ x y=>gw ck x&&gw ck y
 | .block _ c=>gw ck c
 | .loop c=>gw ck c
 | _=>true
def yf(P:Program)(N:fm)(ck:Nat->Array Oper->Bool)(D:Nat->Array Oper->((Nat->AV)->Prop)->(Nat->AV)->Prop):Prop:=
 ∀(id:Nat)(ops:Array Oper),ck id ops=true->∀(K:(Nat->AV)->Prop)(w0:World)(M S0:ah)(F:Nat->AV)(a:Act)(w:World)(Q:Exit->Act->World->Prop),D id ops K F->St w0 M S0 N F a w->(∀b c w',K b->St w0 M S0 N b c w'->Q .normal c w')->(Code.region id ops true).wp P Q a w
theorem j8(k:∀t i,TE t=some i->iv P t i){D:Nat->Array Oper->((Nat->AV)->Prop)->(Nat->AV)->Prop}{ck:Nat->Array Oper->Bool}(p:yf P N ck D):∀(c:Code),gw ck c=true->∀(QA:Exit->(Nat->AV)->Prop)(Q:Exit->Act->World->Prop)(F:Nat->AV)(a:Act)(w:World),
  aw P TE N D c QA F->St w0 M S0 N F a w->(∀e F' o w',QA e F'->St w0 M S0 N F' o w'->Q e o w')->c.wp P Q a w
 | .skip,_,QA,Q,F,a,w,d,f,g=>wp_skip (g _ _ _ _ d f)
 | .region id ops draw,l,QA,Q,F,a,w,d,f,g=>by
  cases draw with
  | false=>
   obtain⟨U,E,G⟩:=U6 d f
   grind [Go.wp_region_list,HP]
  | true=>exact p id ops l _ w0 M S0 F a w Q d f ψ
 | .seq x y,l,QA,Q,F,a,w,d,f,g=>by
  simp only[gw,I0]at l;refine wp_seq (j8 k p x l.1 _ _ F a w d f λe F' o w' q j=>?_);cases e with
  | normal=>exact j8 k p y l.2 QA Q F' o w' q j g
  | _=>exact g _ F' o w' q j
 | .cond c x y,r,QA,Q,F,a,w,d,⟨S,φ,h⟩,g=>by
  simp only[gw,I0]at r;obtain⟨l,-⟩:=h.scalar d;cases A:a.eval c<;>rw[A]at l<;>try exact l.elim
  rename_i b;exact wp_cond_split A (λH=>j8 k p x r.1 QA Q F a w (by grind [Bf.out]) ⟨S,φ,h⟩ g) (λH=>j8 k p y r.2 QA Q F a w (by grind [Bf.out]) ⟨S,φ,h⟩ g)
 | .block id c,l,QA,Q,F,a,w,d,f,g=>by
  refine wp_block (j8 k p c l _ _ F a w d f λe F' o w' q j=>?_);cases e with
  | exit i=>
   grind [Nat.beq_eq,Wt,Go.Exit.inBlock]
  | _=>exact g _ F' o w' q j
 | .loop c,l,QA,Q,F,a,w,d,f,g=>by
  obtain⟨J,ι,L,inv,μ,B,K,u,hround⟩:=Lp.out d;refine wp_loop_ghost (λn a w=>∃i,μ i=n/\inv i/\St w0 M S0 N (lay (L i)) a w) (μ B) ⟨B,rfl,u,(f.fzA J).weaken K⟩ λn a w ⟨i,V,O,f⟩=>?_
  refine j8 k p c l _ _ (lay (L i)) a w (hround i O) f λe F' o w' q j=>?_
  cases e with
  | normal=>
   obtain⟨C,R,W,T⟩:=Nx.out q;exact⟨μ C,ω,C,rfl,R,j.weaken T⟩
  | _=>exact g _ F' o w' q j
 | .exit id,_,QA,Q,F,a,w,d,f,g=>wp_exit (g _ _ _ _ d f)
 | .ret,_,QA,Q,F,a,w,d,f,g=>wp_ret (g _ _ _ _ d f)
 | .rangeFunc ..,_,_,_,_,_,_,d,_,_=>d.elim
 | .scope _,_,_,_,_,_,_,d,_,_=>d.elim
 | .label _,_,_,_,_,_,_,d,_,_=>d.elim
 | .goto _,_,_,_,_,_,_,d,_,_=>d.elim
 | .refuse _,_,_,_,_,_,_,d,_,_=>d.elim
end
section
variable{F:Nat->AV}{K:AV->Prop}{TE:Nat->Option TI}{P:Program}
theorem NG{g:BinOp}{x y:Value}{K e:Value->Prop}(h:EN g x y K)(n:∀v,K v->e v):EN g x y e:=by
 cases x<;>cases y<;>try exact h.elim
 rename_i k a o b;have c:∀{X Y:Prop},(bif i9 k o then X else False)->(X->Y)->(bif i9 k o then Y else False):=ψ
 have d:∀{k:IntKind}{x:Int},Wr k x (λz=>K (.int k z))->Wr k x (λz=>e (.int k z)):=λh=>by
  obtain⟨z,i,j⟩:=h.out;exact CM i (n _ j)
 have q:∀{k:IntKind}{x:Int},Ev x (λz=>K (.int k z))->Ev x (λz=>e (.int k z)):=λh=>by
  obtain⟨z,i,j⟩:=h.out;exact CS i (n _ j)
 have f:∀{p X Y:Prop},Cd p X->(X->Y)->Cd p Y:=λh l=>CQ h.out.1 (l h.out.2)
 cases g<;>simp only[EN]at h |-
 case add=>exact c h d
 case sub=>exact c h d
 case mul=>exact c h d
 case quo=>exact c h λh=>f h d
 case rem=>exact c h λh=>f h q
 case and=>exact c h d
 case or=>exact c h d
 case xor=>exact c h d
 case andNot=>exact c h d
 case shl=>exact f h d
 case shr=>exact f h q
 all_goals grind
theorem QZ{f:BinOp}{x y:Value}{K:Value->Prop}(h:EN f x y K):∃v,K v/\EN f x y (· = v):=by
 cases x<;>cases y<;>try exact h.elim
 rename_i k a g b;have e:∀{X:Prop},(bif i9 k g then X else False)->X/\∀Y:Prop,Y->(bif i9 k g then Y else False):=ψ
 cases f<;>simp only[EN]at h |-
 case add=>obtain⟨h,b⟩:=e h;obtain⟨z,c,d⟩:=h.out;exact⟨_,d,b _ (CM c rfl)⟩
 case sub=>obtain⟨h,b⟩:=e h;obtain⟨z,c,d⟩:=h.out;exact⟨_,d,b _ (CM c rfl)⟩
 case mul=>obtain⟨h,b⟩:=e h;obtain⟨z,c,d⟩:=h.out;exact⟨_,d,b _ (CM c rfl)⟩
 case quo=>obtain⟨h,b⟩:=e h;obtain⟨z,c,d⟩:=h.out.2.out;exact⟨_,d,b _ (CQ h.out.1 (CM c rfl))⟩
 case rem=>obtain⟨h,b⟩:=e h;obtain⟨z,c,d⟩:=h.out.2.out;exact⟨_,d,b _ (CQ h.out.1 (CS c rfl))⟩
 case and=>obtain⟨h,b⟩:=e h;obtain⟨z,c,d⟩:=h.out;exact⟨_,d,b _ (CM c rfl)⟩
 case or=>obtain⟨h,b⟩:=e h;obtain⟨z,c,d⟩:=h.out;exact⟨_,d,b _ (CM c rfl)⟩
 case xor=>obtain⟨h,b⟩:=e h;obtain⟨z,c,d⟩:=h.out;exact⟨_,d,b _ (CM c rfl)⟩
 case andNot=>obtain⟨h,b⟩:=e h;obtain⟨z,c,d⟩:=h.out;exact⟨_,d,b _ (CM c rfl)⟩
 case shl=>obtain⟨z,c,d⟩:=h.out.2.out;exact⟨_,d,CQ h.out.1 (CM c rfl)⟩
 case shr=>obtain⟨z,c,d⟩:=h.out.2.out;exact⟨_,d,CQ h.out.1 (CS c rfl)⟩
 all_goals grind
variable{T:Nat}
theorem PQ{b:BinOp}{x y:Value}{K:Value->Prop}(h:Je TE b T x y K):∃v,K v/\∀a:Value->Prop,a v->Je TE b T x y a:=by
 unfold Je at h;split at h
 ·grind [Je]
 ·cases b<;>simp only at h<;>try exact h.elim
  case add=>obtain⟨d,e⟩:=h.out;obtain⟨z,f,g⟩:=e.out;exact⟨_,g,λa c=>CQ d (Es.mk f c)⟩
  all_goals exact⟨_,h,λa c=>c⟩
 grind [QZ,NG,Je]
def Qg{a:UnOp}{x:Value}{K b:Value->Prop}(h:TU a x K)(c:∀v,K v->b v):TU a x b:=by
 unfold TU at h |-;split at h
 ·exact c _ h
 ·obtain⟨z,d,e⟩:=Wr.out h;exact CM d (c _ e)
 exact h.elim
def TS{a:UnOp}{x:Value}{K:Value->Prop}(h:TU a x K):∃v,K v/\TU a x (· = v):=by
 unfold TU at h;split at h
 ·exact⟨_,h,rfl⟩
 ·obtain⟨z,b,c⟩:=Wr.out h;exact⟨_,c,CM b rfl⟩
 exact h.elim
variable{x y:Operand}
theorem Rb{c:Operand}(h:Mp F c x y K):oV (λF K=>Mp F c x y K) F (tm c++tm x++tm y) K:=by
 obtain⟨z,f,p⟩:=jr h;cases z with
 | bool b=>
  cases b with
  | true=>
   obtain⟨g,i,j,k⟩:=kJ (Bf.out f);refine⟨g,i,λd l=>(j d l).imp ψ ψ,λa e n o=>p a (e.mono (by simp +contextual)) _ (Bf.in_ (k a (e.mono (by simp +contextual)) n o))⟩
  | false=>
   obtain⟨g,i,j,k⟩:=kJ (Bf.out f);refine⟨g,i,λd l=>(j d l).imp ψ ψ,λa e n o=>p a (e.mono (by simp +contextual)) _ (Bf.in_ (k a (e.mono (by simp +contextual)) n o))⟩
 | _=>exact f.elim
theorem Tr(h:RY F x K):oV (λF K=>RY F x K) F (tm x) K:=by
 obtain⟨g,cs,a,c⟩:=cB h;cases b:bp cs with
 | false=>grind
 | true=>rw[b]at a;exact⟨_,a,CT _ _ _ _,λd e i f=>c d e _ (by rw[b];exact f)⟩
theorem Hb{i:Nat}(h:kK F x i K):oV (λF K=>kK F x i K) F (tm x) K:=by
 cases x with
 | tmp t=>
  have b:t∈tm (.tmp t):=by simp[tm]
  simp only[kK]at h;cases c:F t with
  | H k cs=>
   rw[c]at h;cases k with
   | tup l=>
    simp only at h;cases e:Ej l i with
    | none=>grind
    | some p=>
     rw[e]at h;simp only at h;cases a:bp (bE cs p.1 (p.2.getD 1)) with
     | true=>rw[a]at h;exact⟨_,h,CT _ _ _ _,λn f o g=>by simp only[kK,(f t b).1,c,e,a,cond_true];exact g⟩
     | false=>rw[a]at h;exact⟨_,h,λd j=>.inl (by simp[AV.uses]at j;subst j;exact b),λn f o g=>by simp only[kK,(f t b).1,c,e,a,cond_false];exact g⟩
   | _=>exact h.elim
  | _=>grind
 | _=>exact h.elim
theorem Tk(h:Ks TE F T x K):oV (λF K=>Ks TE F T x K) F (tm x) K:=by
 unfold Ks at h;unfold oV Ks;split at h
 ·obtain⟨f,cs,a,b⟩:=cB h
  match f,cs,a with
  | none,[.s o rows],a=>exact⟨_,Ln.out a,CT _ _ _ _,λc d g e=>b c d _ (Ln.mk rfl e)⟩
  | none,[.z],a=>exact⟨_,a,CT _ _ _ _,ψ⟩
 ·obtain⟨z,a,b⟩:=jr h
  cases z with
  | string s=>exact⟨_,Ln.out a,CT _ _ _ _,λc d g e=>b c d _ (Ln.mk rfl e)⟩
  | _=>exact a.elim
 exact h.elim
theorem TP(h:K7 TE F T x K):oV (λF K=>K7 TE F T x K) F (tm x) K:=by
 unfold K7 at h;unfold oV K7;split at h
 all_goals grind [cB,Nn.out,CT]
theorem Uc{d:BinOp}(h:KN P F d T x y K):oV (λF K=>KN P F d T x y K) F (tm x++tm y) K:=by
 unfold KN at h;unfold oV KN;obtain⟨g,cs,i,j⟩:=cB h;obtain⟨ag2,ds,a,b⟩:=cB i
 match g,ag2,a with
 | some n,some m,c=>
  obtain⟨q,k,t⟩:=p7 c;obtain⟨u,l,w⟩:=p7 k;obtain⟨r,A,o⟩:=l.out;exact⟨_,o,CT _ _ _ _,λe f B p=>j e (f.mono ψ) _ (b e (f.mono ψ) _ (by grind [PD,UN.mk]))⟩
variable{F':Nat->AV}
theorem Dr(a:ir F F' (tm x)):isAgg F' x=isAgg F x:=by
 cases x with
 | tmp t=>unfold isAgg;simp only;rw[(a t (by simp[tm])).1]
 | _=>rfl
def tms(xs:List Operand):List Nat:=xs.flatMap tm
variable{k:Bool->RA->Prop}
theorem Qc(h:argV F x k):∃b A,k b A/\∀F':Nat->AV,ir F F' (tm x)->∀c:Bool->RA->Prop,c b A->argV F' x c:=by
 have key:∀F':Nat->AV,ir F F' (tm x)->nM F' x=nM F x:=λF' l=>l.ev
 have n:∀i,nM F x=i->iN F i (Az k)->(∀F' c,nM F' x=i->(argV F' x c=iN F' i (Az c)))->∃b A,k b A/\∀F':Nat->AV,ir F F' (tm x)->∀c:Bool->RA->Prop,c b A->argV F' x c:=λi a w y=>by grind [cB,Az]
 have d:=h;unfold argV at d;cases a:nM F x with
 | H o cs=>
  rw[a]at d;cases o with
  | box=>grind [argV]
  | one=>exact n _ a d λF' c e=>by unfold argV;rw[e];rfl
  | agg=>exact n _ a d λF' c e=>by unfold argV;rw[e];rfl
  | tup B=>exact d.elim
 | c1 t j p C=>grind [argV]
 | ref t j p=>
  rw[a]at d;simp only at d;split at d
  ·rename_i cs q
   refine⟨false,_,d,λF' l c u=>?_⟩;unfold argV;rw[key F' l,a];have:F' t=.H .box cs:=by
    cases x with
    | tmp s=>exact(l s (by simp[tm])).2 t (by show AV.uses t (F s)=true;rw[show F s=_ from a];simp[AV.uses]) _ _ q
    | const v=>simp only[nM]at a;have:=mE v t;rw[a]at this;simp[AV.uses]at this
    | global g=>cases a
    | func f=>cases a
   grind
  exact d.elim
 | iref r j=>
  grind [argV]
 | fv Ok=>grind [argV]
 | fn f caps=>grind
 | dead=>grind
theorem qf:∀{cs:List Nat}{k:List RA->Prop},ny F cs k->∃D,k D/\∀F':Nat->AV,(∀t,t∈cs->∀a xs,F t=.H a xs->F' t=.H a xs)->∀b:List RA->Prop,b D->ny F' cs b
 | [],k,h=>⟨[],h,λ_ _ _ h=>h⟩
 | c::cs,k,h=>by
  simp only[ny]at h;split at h
  ·rename_i xs d
   obtain⟨D,e,f⟩:=qf h
   grind [ny]
  ·rename_i xs d
   obtain⟨D,e,f⟩:=qf h
   grind [ny]
  ·rename_i xs d
   obtain⟨D,e,f⟩:=qf h
   grind [ny]
  exact h.elim
variable{ts:List Nat}
theorem Mh{t:Nat}{f:FuncId}{caps:List Nat}(b:ir F F' ts)(d:t∈ts)(e:F t=.fn f caps):∀c,c∈caps->∀a xs,F c=.H a xs->F' c=.H a xs:=λc g a xs h=>
 (b t d).2 c (by grind [Nat.beq_refl,AV.uses]) a xs h
theorem Qt(h:argA P F x k):∃b A,k b A/\∀F':Nat->AV,ir F F' (tm x)->∀d:Bool->RA->Prop,d b A->argA P F' x d:=by
 have e:=h;unfold argA at e;split at e
 ·rename_i f caps a
  obtain⟨D,l,n⟩:=qf e;obtain⟨Q,o,p,q⟩:=l;refine⟨false,_,q,λF' j d i=>?_⟩;unfold argA;rw[j.ev,a];refine n F' ?_ _ ⟨Q,o,p,i⟩;cases x with
  | tmp s=>exact Mh j (t:=s) (by simp[tm]) a
  | const v=>
   intro c r;simp only[nM]at a;have:=mE v c
   grind [Nat.beq_refl,AV.uses]
  | global g=>cases a
  | func f=>cases a;grind
 grind [Qc,ir.ev,argA]
theorem yg:∀{xs:List Operand}{k:Bool->List RA->Prop},Dc P F xs k->∃b A,k b A/\∀F':Nat->AV,ir F F' (tms xs)->∀c:Bool->List RA->Prop,c b A->Dc P F' xs c
 | [],k,h=>⟨true,[],h,λ_ _ _ h=>h⟩
 | x::xs,k,h=>by
  obtain⟨l,A,d,g⟩:=Qt h;obtain⟨b,As,d,e⟩:=yg d;have i:∀{F':Nat->AV},ir F F' (tms (x::xs))->ir F F' (tm x):=λa=>a.mono (by grind [tms])
  have j:∀{F':Nat->AV},ir F F' (tms (x::xs))->ir F F' (tms xs):=λa=>a.mono (λt n=>by grind [tms])
  exact⟨_,_,d,λF' a c f=>g F' (i a) _ (e F' (j a) _ f)⟩
theorem BZ:∀{xs:List Operand}{k:List (Option Nat × List C)->Prop},argsV F xs k->∃L,k L/\∀F':Nat->AV,ir F F' (tms xs)->∀b:List (Option Nat × List C)->Prop,b L->argsV F' xs b
 | [],k,h=>⟨[],h,λ_ _ _ h=>h⟩
 | x::xs,k,h=>by
  obtain⟨j,cs,c,f⟩:=cB h;obtain⟨L,c,d⟩:=BZ c;have g:∀{F':Nat->AV},ir F F' (tms (x::xs))->ir F F' (tm x):=λa=>a.mono (by grind [tms])
  have i:∀{F':Nat->AV},ir F F' (tms (x::xs))->ir F F' (tms xs):=λa=>a.mono (λt l=>by grind [tms])
  exact⟨_,c,λF' a b e=>f F' (g a) _ (d F' (i a) _ e)⟩
variable{xs:List Operand}
theorem PU{f:Nat}(h:KR P F f xs K):oV (λF K=>KR P F f xs K) F (tms xs) K:=by
 obtain⟨b,A,a,c⟩:=yg h;obtain⟨i,k,rcs,j,l,d⟩:=a.out;exact⟨_,d,CT _ _ _ _,λe g n o=>c e g _ (.mk_ ψ)⟩
theorem Nl{t:Nat}(h:mT P F t xs K):oV (λF K=>mT P F t xs K) F (t::tms xs) K:=by
 have d:=h;unfold mT at d;split at d
 ·rename_i f caps g
  obtain⟨b,A,e,i⟩:=yg d;obtain⟨D,e,j⟩:=qf e;obtain⟨r,k,rcs,o,p,l⟩:=e.out;refine⟨_,l,CT _ _ _ _,λa c n q=>?_⟩;show mT P a t xs n;unfold mT;rw[(c t ψ).1,g];exact i a (c.mono ψ) _ (j a (Mh c ψ g) _ (.mk_ ψ))
 ·rename_i Ok g
  obtain⟨L,e,i⟩:=BZ d;obtain⟨Q,k,rcs,o,p,l⟩:=e;refine⟨_,l,CT _ _ _ _,λa c n q=>?_⟩;show mT P a t xs n;unfold mT;rw[(c t ψ).1,g];exact i a (c.mono ψ) _ ⟨Q,k,rcs,o,p,q⟩
 exact d.elim
theorem iI{k:Nat->TI->Prop}(h:Js TE T k):∃e a,k e a/\∀b:Nat->TI->Prop,b e a->Js TE T b:=by
 unfold Js at h
 grind [Js]
def og{k:Int->Prop}(h:Ff F x k):∃n,k n/\∀F':Nat->AV,ir F F' (tm x)->∀a:Int->Prop,a n->Ff F' x a:=by
 obtain⟨z,b,c⟩:=jr h;cases z with
 | int f n=>exact⟨n,b,λF' d a e=>c F' d _ e⟩
 | _=>exact b.elim
def otm(x:Option Operand):List Nat:=x.toList.flatMap tm
theorem Lu{x:Option Operand}{k:Option Int->Prop}(h:QN F x k):∃n,k n/\∀F':Nat->AV,ir F F' (otm x)->∀a:Option Int->Prop,a n->QN F' x a:=by
 cases x with
 | none=>exact⟨none,h,λ_ _ _ b=>b⟩
 | some x=>
  obtain⟨n,c,d⟩:=og h;exact⟨some n,c,λF' e a b=>d F' (e.mono (by grind [otm])) _ b⟩
theorem uT{c:Nat->Option (Nat × Nat)} : ∀{parts:List (Nat × Operand)}{cs:List C}{k:List C->Prop},fillP F c parts cs k->∃a,k a/\∀F':Nat->AV,ir F F' (tms (parts.map (·.2)))->∀d:List C->Prop,d a->fillP F' c parts cs d
 | [],cs,k,h=>⟨cs,h,λ_ _ _ h=>h⟩
 | p::rest,cs,k,h=>by
  simp only[fillP]at h;split at h
  case h_2=>exact h.elim
  rename_i q i;obtain⟨j,xs,b,l⟩:=cB h;cases e:(bp xs&&Nat.beq xs.length q.2&&Nat.ble (q.1+q.2) cs.length) with
  | false=>grind
  | true=>
   rw[e]at b;simp only[cond_true,dr]at b;obtain⟨a,f,g⟩:=uT b
   grind [ir.mono,dr,fillP,tms]
variable{parts:List (Nat × Operand)}
theorem M5(h:vt TE F T parts K):oV (λF K=>vt TE F T parts K) F (tms (parts.map (·.2))) K:=by grind [uT,CT,vt,oV]
theorem J7{n:Nat}(h:wS TE F T n parts K):oV (λF K=>wS TE F T n parts K) F (tms (parts.map (·.2))) K:=by
 obtain⟨e,g,a,c⟩:=iI h;cases d:Nat.ble (n*g.size) 16777216 with
 | false=>grind
 | true=>
  rw[d]at a;simp only[cond_true]at a;split at a
  ·exact⟨_,a,CT _ _ _ _,λi j k f=>c _ (by rw[d];exact f)⟩
  ·rw[dr]at a
   obtain⟨l,b,o⟩:=uT a;rw[p8]at b;exact⟨_,b,CT _ _ _ _,λi j k f=>c _ (by grind [dr,p8])⟩
  exact a.elim
theorem Q6(h:Lr TE F T x y K):oV (λF K=>Lr TE F T x y K) F (tm x++tm y) K:=by
 obtain⟨e,q,a,g⟩:=iI h;obtain⟨j,cs,a,i⟩:=cB a
 match j,cs,a with
 | none,[.z],a=>
  obtain⟨ag2,cs2,a,b⟩:=cB a
  match ag2,cs2,a with
  | none,[.s o rows],a=>
   obtain⟨k,l,n,a⟩:=a.out;exact⟨_,a,CT _ _ _ _,λc d p f=>g _ (i c (d.mono (by simp +contextual)) _ (b c (d.mono (by simp +contextual)) _ (Fl.mk k l n f)))⟩
  | none,[.z],a=>
   exact⟨_,a,CT _ _ _ _,λc d p f=>g _ (i c (d.mono (by simp +contextual)) _ (b c (d.mono (by simp +contextual)) _ f))⟩
def QK(h:Lt TE F T x y K):oV (λF K=>Lt TE F T x y K) F (tm x++tm y) K:=by
 obtain⟨e,r,a,g⟩:=iI h;obtain⟨l,a,i⟩:=og a;obtain⟨c,a,b⟩:=og a;obtain⟨n,j,k,o,p,a⟩:=a.out;exact⟨_,a,CT _ _ _ _,λd f t q=>g _ (i d (f.mono (by simp +contextual)) _ (b d (f.mono (by simp +contextual)) _ (Mk.mk n j k o p rfl q)))⟩
def QJ{ok:Bool}(h:yY TE F T x y ok K):oV (λF K=>yY TE F T x y ok K) F (tm x++tm y) K:=by
 unfold yY at h;split at h
 case h_2=>exact h.elim
 rename_i i;cases ok with
 | true=>exact h.elim
 | false=>
  simp only[cond_false]at h;obtain⟨j,cs,b,c⟩:=cB h
  match j,cs,b,c with
  | none,[.m es],b,c=>
   obtain⟨v,d,a⟩:=jr b
   match v,d,a with
   | .int .i64 z,d,a=>
    refine⟨_,d.out,CT _ _ _ _,λf g k e=>?_⟩;simp only[yY,i,cond_false];exact c f (g.mono (by simp +contextual)) _ (a f (g.mono (by simp +contextual)) _ (Ml.mk rfl e))
def N6{lo j:Option Operand}(h:DH TE F T x lo j K):oV (λF K=>DH TE F T x lo j K) F (tm x++otm lo++otm j) K:=by
 obtain⟨e,q,b,t⟩:=iI h;obtain⟨l,b,u⟩:=Lu b;obtain⟨r,b,g⟩:=Lu b;obtain⟨w,cs,b,i⟩:=cB b;have back:∀(c:List (List C))(k:List (List C)->Prop),Sl c q.size l r k->∃a,k a/\∀n:List (List C)->Prop,n a->Sl c q.size l r n:=λc k h=>by
  obtain⟨x,y,A,B,D,E,G,H⟩:=h.out;exact⟨_,H,λn b=>by refine .mk_ ?_;exact⟨x,y,A,B,D,E,G,_,rfl,b⟩⟩
 match w,cs,b with
 | none,[.s .S c],b=>
  obtain⟨a,b,o⟩:=back _ _ b;exact⟨_,b,CT _ _ _ _,λd f J p=>t _ (u d (f.mono (by simp +contextual)) _ (g d (f.mono (by simp +contextual)) _ (i d (f.mono (by simp +contextual)) _ (o _ p))))⟩
 | none,[.z],b=>
  obtain⟨a,b,o⟩:=back _ _ b;exact⟨_,b,CT _ _ _ _,λd f J p=>t _ (u d (f.mono (by simp +contextual)) _ (g d (f.mono (by simp +contextual)) _ (i d (f.mono (by simp +contextual)) _ (o _ p))))⟩
theorem JU{b c:Operand}(h:Tf TE F T x b c K):oV (λF K=>Tf TE F T x b c K) F (tm x) K:=by
 obtain⟨e,p,a,j⟩:=iI h;cases d:Uu b&&Uu c with
 | false=>grind
 | true=>
  rw[d]at a;obtain⟨l,cs,a,k⟩:=cB a
  match l,cs,a with
  | none,[.s o rows],a=>exact⟨_,a,CT _ _ _ _,λf g n i=>j _ (by rw[d];exact k f g _ i)⟩
  | none,[.z],a=>exact⟨_,a,CT _ _ _ _,λf g n i=>j _ (by rw[d];exact k f g _ i)⟩
theorem N7{f:Nat}(h:sA TE F T x f K):oV (λF K=>sA TE F T x f K) F (tm x) K:=by
 unfold sA at h;split at h
 case h_2=>exact h.elim
 rename_i flds e;split at h
 case h_2=>exact h.elim
 rename_i p g;split at h
 case h_2=>exact h.elim
 rename_i i j;obtain⟨b,cs,a,k⟩:=cB h;cases c:(b.isSome&&(i.agg || Nat.beq i.size 1)&&Nat.ble (p.1+i.size) cs.length) with
 | false=>grind
 | true=>
  rw[c]at a;simp only[cond_true]at a;cases d:bp (bE cs p.1 i.size) with
  | false=>grind
  | true=>
   rw[d]at a;simp only[cond_true,dr]at a;exact⟨_,a,CT _ _ _ _,λl n o q=>by grind [dr,sA]⟩
def Rk{b c:Nat}(h:yE TE F b c x K):oV (λF K=>yE TE F b c x K) F (tm x) K:=by
 unfold yE at h;split at h
 ·rename_i d e
  obtain⟨n,a,f⟩:=og h;obtain⟨z,g,a⟩:=a.out;exact⟨_,a,CT _ _ _ _,λi j l k=>by unfold yE;simp only[d,e];exact f i j _ (CM g k)⟩
 exact h.elim
def NZ{c:Bool}(h:Vx c F x y K):oV (λF K=>Vx c F x y K) F (tm x++tm y) K:=by
 obtain⟨z,d,g⟩:=jr h;cases z with
 | int k n=>
  obtain⟨m,a,b⟩:=og d;obtain⟨z,i,a⟩:=a.out;exact⟨_,a,CT _ _ _ _,λe f l j=>g e (f.mono (by simp +contextual)) _ (b e (f.mono (by simp +contextual)) _ (CS i j))⟩
 | _=>exact d.elim
theorem eI.mono{a:List Nat}{av:AV}(h:eI F ts av)(b:∀t,t∈ts->t∈a):eI F a av:=λd c=>(h d c).imp (b d) ψ
def oV.mono{p:(Nat->AV)->(AV->Prop)->Prop}{a:List Nat}(h:oV p F ts K)(b:∀t,t∈ts->t∈a):oV p F a K:=by
 obtain⟨c,d,e,f⟩:=h;exact⟨c,d,e.mono b,λg i j k=>f g (i.mono b) j k⟩
def dy(o:Op):List Nat:=o.operands.toList.flatMap tm
theorem kF{o:Op}(h:dh P TE F o K):oV (λF K=>dh P TE F o K) F (dy o) K:=by
 cases o with
 | move x=>exact(kJ h).mono (by grind [dy,Go.Op.operands])
 | assign x=>exact(kJ h).mono (by grind [dy,Go.Op.operands])
 | nilCheck x=>
  cases x with
  | tmp t=>
   have G:t∈tm (.tmp t):=by simp[tm]
   have key:∀a:Nat->AV,a t=F t->∀b,dh P TE a (.nilCheck (.tmp t)) b=(match F t with|.ref ..=>b9 a (.tmp t) b|.iref ..=>b9 a (.tmp t) b|.H .box _=>b9 a (.tmp t) b|_=>False):=λa e b=>by grind [dh]
   rw[key F rfl]at h;have fin:b9 F (.tmp t) K->(∀b (a:Nat->AV),a t=F t->b9 a (.tmp t) b->dh P TE a (.nilCheck (.tmp t)) b)->oV (λF K=>dh P TE F (.nilCheck (.tmp t)) K) F (dy (.nilCheck (.tmp t))) K:=λR H=>by
    obtain⟨k,p,q,w⟩:=kJ R;exact⟨k,p,q.mono (by grind [dy,Go.Op.operands]),λa j b g=>H _ a (j t (by grind [dy,Go.Op.operands])).1 (w a (j.mono (by grind [dy,Go.Op.operands])) b g)⟩
   grind
  | _=>exact h.elim
 | load T x=>exact(Py h).mono (by grind [dy,Go.Op.operands])
 | fieldAddr T x f=>exact(A3 h).mono (by grind [dy,Go.Op.operands])
 | indexAddr T x y=>exact(Ay h).mono (by grind [dy,Go.Op.operands])
 | binOp A T x y yT=>
  simp only[dh]at h;cases J:yC A y with
  | true=>
   rw[J]at h;obtain⟨k,p,q,w⟩:=TP h;exact⟨k,p,q.mono (by grind [dy,Go.Op.operands]),λa j b g=>by grind [ir.mono,dh,dy,Go.Op.operands]⟩
  | false=>
   rw[J]at h;have L:∀t,t∈tm x->t∈dy (.binOp A T x y yT):=λt G=>by grind [dy,Go.Op.operands]
   cases M:isAgg F x with
   | true=>
    rw[M]at h;obtain⟨k,p,q,w⟩:=Uc h;exact⟨k,p,q.mono (by grind [dy,Go.Op.operands]),λa j b g=>by grind [Dr,ir.mono,dh,dy,Go.Op.operands]⟩
   | false=>
   rw[M]at h;obtain⟨z,B,C⟩:=jr h;obtain⟨z2,D,S⟩:=jr B;obtain⟨v,E,N⟩:=PQ D;refine⟨_,E,CT _ _ _ _,λa j b g=>by grind [Dr,ir.mono,dh,dy,Go.Op.operands]⟩
 | unOp A T x=>
  obtain⟨z,B,C⟩:=jr h;obtain⟨v,E,N⟩:=TS B;exact⟨_,E,CT _ _ _ _,λa j b g=>C a (j.mono (by grind [dy,Go.Op.operands])) _ (Qg N ψ)⟩
 | pick c x y=>exact(Rb h).mono (by simp[dy,Op.operands])
 | alloc T=>
  simp only[dh]at h;unfold zq at h;split at h
  ·rename_i i U
   exact⟨_,h,CT _ _ _ _,λa _ b g=>by grind [dh,zq]⟩
  exact h.elim
 | box T x=>exact(Tr h).mono (by grind [dy,Go.Op.operands])
 | extract x i=>exact(Hb h).mono (by grind [dy,Go.Op.operands])
 | build T V=>exact(M5 h).mono (by grind [dy,Go.Op.operands,tms])
 | buildSlice T n V=>exact(J7 h).mono (by grind [dy,Go.Op.operands,tms])
 | makeSlice T x y=>exact(QK h).mono (by grind [dy,Go.Op.operands])
 | makeMap T r=>
  simp only[dh,tn]at h |-;split at h
  case h_2=>exact h.elim
  exact⟨_,h,CT _ _ _ _,ψ⟩
 | lookup T x y ok=>exact(QJ h).mono (by grind [dy,Go.Op.operands])
 | slice T x W X Y=>
  cases Y with
  | none=>exact(N6 h).mono (by grind [dy,Go.Op.operands,otm])
  | some m=>
   cases W with
   | some _=>exact h.elim
   | none=>
    cases X with
    | none=>exact h.elim
    | some y=>exact(JU h).mono (by simp +contextual [dy,Op.operands])
 | field T x f=>exact(N7 h).mono (by grind [dy,Go.Op.operands])
 | convert T1 T2 x=>exact(Rk h).mono (by grind [dy,Go.Op.operands])
 | makeFunc fn fs cs=>
  simp only[dh]at h;split at h
  ·rename_i f Z
   obtain⟨l,g,C⟩:=rC h;refine⟨_,g,λd O=>.inl ?_,λa _ b hK'=>?_⟩
   ·simp only[AV.uses,S5]at O
    obtain⟨c,H,he⟩:=O;have:=C3 he;subst this;simp only[dy,Op.operands,List.mem_flatMap];refine⟨.tmp c,?_,by simp[tm]⟩
    grind
   grind [Gx,dh]
  exact h.elim
 | call c=>
  obtain⟨callee,args,ts⟩:=c;simp only[dh]at h;split at h
  ·rename_i f
   exact(PU h).mono (by grind [dy,Go.Op.operands,Go.Call.operands,tms])
  ·exact(Nl h).mono (λt G=>by grind [dy,Go.Op.operands,Go.Call.operands,tm,tms])
  ·split at h
   ·rename_i x T Q U
    have u:args = #[x]:=ψ
    have e2:ts = #[T]:=ψ
    subst u e2;exact(Tk h).mono (by grind [dy,Go.Op.operands,Go.Call.operands])
   exact h.elim
  ·split at h
   all_goals grind [Q6,dy,Go.Op.operands,Go.Call.operands,dh]
  ·split at h
   ·rename_i x y Q
    have u:args = #[x,y]:=ψ
    subst u;exact(NZ h).mono (by simp[dy,Op.operands,Call.operands])
   exact h.elim
  ·split at h
   ·rename_i x y Q
    have u:args = #[x,y]:=ψ
    subst u;exact(NZ h).mono (by simp[dy,Op.operands,Call.operands])
   exact h.elim
  exact h.elim
 | _=>exact h.elim
end
end Go.Proofs.YtiopgblagimpmaaGreat.Ab
