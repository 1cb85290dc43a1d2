/- Calls that only read what they are handed, on abstract frames; all slot-only operations together. No condition. -/
import Derived.Test.YtecefhjnejfheaaGreatKoa
import Derived.Deep.LoopGhost
set_option linter.unusedVariables false
set_option linter.defProp false
set_option linter.unusedSimpArgs false
set_option linter.constructorNameAsVariable false
namespace Go.Proofs.YtecefhjnejfheaaGreat.Ab
open Go.RowKit
inductive RA where
 |val (ag:Option Nat) (cs:List C)
 |ptr (cs:List C)
 |fn (Ok:af->World->Value->Prop)
def pn(w:World)(S:af):RA->Value->Prop
 | .val ag cs,v=>cb w S NO ag cs v
 | .ptr cs,v=>∃g b u,v=.pointer (some ⟨g,b,none⟩)/\(∀d,d<cs.length->S g (b+d)/\cel w g (b+d)=some (u d))/\dn w S NO cs u
 | .fn Ok,v=>∃(a:af)(w1:World),(∀b o,a b o->S b o)/\bq a w1 w/\Ok a w1 v
def zi(w:World)(S:af):List RA->List Value->Prop
 | [],[]=>True
 | A::As,v::vs=>pn w S A v/\zi w S As vs
 | _,_=>False
def MD(P : Program)(f : Nat) : Prop := ∃a, P.funcs[f]? = some a /\ (a.name == "runtime.NumGoroutine") = false /\ a.body.isSome = true
structure ar(P:Program)(f:Nat)(sh:Bool)(A:List RA)(k:Kd)(rcs:List C):Prop where
 has:MD P f
 run:∀(w:World)(S:af)(vs:List Value),(∀b o,S b o->b<w.heap.size)->zi w S A vs->
  Calls P f vs.toArray w λe w1=>∃v,e=.returned v/\bZ NO w w1/\∃X S1:af,(∀b o,X b o->b<w1.heap.size/\w.heap.size<=b)/\
   (∀b o,S1 b o->(sh=true/\S b o)\/(b<w1.heap.size/\w.heap.size<=b))/\(∀b o,X b o->¬S1 b o)/\gu w1 NO k rcs.length v/\dn w1 S1 X rcs (cr w1 k v)
structure rP(P:Program)(f:Nat)(sh:Bool)(A:List RA)(k:Kd)(rcs:List C):Prop where
 has:MD P f
 run:∀(w:World)(S:af)(vs:List Value),(∀b o,S b o->b<w.heap.size)->zi w S A vs->
  Calls P f vs.toArray w λe w1=>∃v,e=.returned v/\bZ NO w w1/\∃X S1:af,(∀b o,X b o->b<w1.heap.size/\w.heap.size<=b)/\
   (∀b o,S1 b o->(sh=true/\S b o)\/(b<w1.heap.size/\w.heap.size<=b))/\(∀b o,X b o->¬S1 b o)/\∃X1 Y:af,(∀b o,X1 b o->X b o)/\(∀b o,Y b o->X b o)/\(∀b o,X1 b o->¬Y b o)/\gu w1 X1 k rcs.length v/\dn w1 S1 Y rcs (cr w1 k v)
variable{rcs:List C}{k:Kd}{A:List RA}{f:Nat}{P:Program}
def ar.toG{sh:Bool}(h:ar P f sh A k rcs):rP P f sh A k rcs:=
 ⟨h.has,λw S a b c=>(h.run w S a b c).mono λ_ _ ⟨v,d,e,X,g,i,j,l,n,o⟩=>⟨v,d,e,X,g,i,j,l,NO,X,λ_ _ h=>h.elim,λ_ _ h=>h,λ_ _ h=>h.elim,n,o⟩⟩
def wi(K:Bool->RA->Prop)(ag:Option Nat)(cs:List C):Prop:=bif aZ cs then K true (.val ag cs) else K false (.val ag (eH cs))
def argV(F:Nat->AV)(x:Operand)(K:Bool->RA->Prop):Prop:=
 match n8 F x with
 | .H .box b=>K false (.ptr (eH b))
 | .H .one b=>wi K none b
 | .H .agg b=>wi K (some b.length) b
 | .H (.tup _) _=>False
 | .c2 t a c ag=>iO F (.c2 t a c ag) (wi K)
 | .ref t a c=>(match a,c,F t with|0,[],.H .box b=>K false (.ptr (eH b))|_,_,_=>False)
 | .iref r a=>bif Nat.beq a 0 then K true (.ptr r) else False
 | .fv Ok=>K true (.fn Ok)
 | .fn _ _=>False
 | .dead=>False
def ns(F:Nat->AV):List Nat->(List RA->Prop)->Prop
 | [],K=>K []
 | c::cs,K=>(match F c with
   | .H .box xs=>ns F cs λD=>K (.ptr (eH xs)::D)
   | .H .one xs=>ns F cs λD=>K (.val none (eH xs)::D)
   | .H .agg xs=>ns F cs λD=>K (.val (some xs.length) (eH xs)::D)
   | _=>False)
def mN(P:Program)(Q:List (Option Nat × List C)->Kd->List C->Prop)(a:af)(w1:World)(v:Value):Prop:=
 ∃(f:Nat)(caps:List Value),v=.func (.func f) #[] caps.toArray/\MD P f/\∀L k rcs,Q L k rcs->∀(w:World)(S:af)(c:List Value),(∀b o,a b o->S b o)->bq a w1 w->(∀b o,S b o->b<w.heap.size)->zi w S (L.map λp=>.val p.1 p.2) c->
  Calls P f (c++caps).toArray w λe w1=>∃v,e=.returned v/\bZ NO w w1/\∃X a:af,(∀b o,X b o->b<w1.heap.size/\w.heap.size<=b)/\
   (∀b o,a b o->(false=true/\S b o)\/(b<w1.heap.size/\w.heap.size<=b))/\(∀b o,X b o->¬a b o)/\gu w1 NO k rcs.length v/\dn w1 a X rcs (cr w1 k v)
inductive Cq(P:Program)(f:Nat)(D:List RA)(K:(af->World->Value->Prop)->Prop):Prop
 | mk_ (h:∃Q:List (Option Nat × List C)->Kd->List C->Prop,MD P f/\(∀L k rcs,Q L k rcs->ar P f false (L.map (λp=>RA.val p.1 p.2)++D) k rcs)/\K (mN P Q))
def Cq.mk{D:List RA}{K:(af->World->Value->Prop)->Prop}(Q:List (Option Nat × List C)->Kd->List C->Prop)(h1:MD P f)(a:∀L k rcs,Q L k rcs->ar P f false (L.map (λp=>RA.val p.1 p.2)++D) k rcs)(b:K (mN P Q)):Cq P f D K:=.mk_ ⟨Q,h1,a,b⟩
inductive Fv(P:Program)(Ok:af->World->Value->Prop)(L:List (Option Nat × List C))(K:AV->Prop):Prop
 |mk_ (h:∃(Q:List (Option Nat × List C)->Kd->List C->Prop)(k:Kd)(rcs:List C),Ok=mN P Q/\Q L k rcs/\K (.H k rcs))
variable{K:AV->Prop}
def Fv.mk{Q:List (Option Nat × List C)->Kd->List C->Prop}{L:List (Option Nat × List C)}(h:Q L k rcs)(a:K (.H k rcs)):Fv P (mN P Q) L K:=.mk_ ⟨Q,k,rcs,rfl,h,a⟩
def argA(P:Program)(F:Nat->AV)(x:Operand)(K:Bool->RA->Prop):Prop:=
 match n8 F x with
 | .fn f caps=>ns F caps λD=>Cq P f D λOk=>K false (.fn Ok)
 | _=>argV F x K
def AC(P:Program)(F:Nat->AV):List Operand->(Bool->List RA->Prop)->Prop
 | [],K=>K true []
 | x::xs,K=>argA P F x λa A=>AC P F xs λb As=>K (bif a then b else false) (A::As)
def argsV(F:Nat->AV):List Operand->(List (Option Nat × List C)->Prop)->Prop
 | [],K=>K []
 | x::xs,K=>iO F (n8 F x) λb a=>argsV F xs λL=>K ((b,bif aZ a then a else eH a)::L)
inductive Cl(P:Program)(f:Nat)(b:Bool)(A:List RA)(K:AV->Prop):Prop
 |mk_ (h:∃sh k rcs,rP P f sh A k rcs/\(sh=false\/b=true)/\K (.H k rcs))
variable{b:Bool}
def Cl.mk(h:ar P f false A k rcs)(a:K (.H k rcs)):Cl P f b A K:=by refine .mk_ ?_;exact⟨false,k,rcs,h.toG,.inl rfl,a⟩
def C9:type_of% @Cl.mk:=@Cl.mk
def Cl.sh(h:ar P f true A k rcs)(a:b=true)(c:K (.H k rcs)):Cl P f b A K:=by refine .mk_ ?_;exact⟨true,k,rcs,h.toG,.inr a,c⟩
def Cl.g{sh:Bool}(h:rP P f sh A k rcs)(a:sh=false\/b=true)(c:K (.H k rcs)):Cl P f b A K:=by refine .mk_ ?_;exact⟨sh,k,rcs,h,a,c⟩
def Cl.out(h:Cl P f b A K):∃sh k rcs,rP P f sh A k rcs/\(sh=false\/b=true)/\K (.H k rcs):=by obtain⟨h⟩:=h;exact h
def KC(P:Program)(F:Nat->AV)(f:Nat)(args:List Operand)(K:AV->Prop):Prop:=
 AC P F args λb A=>Cl P f b A K
def mL(P:Program)(F:Nat->AV)(t:Nat)(args:List Operand)(K:AV->Prop):Prop:=
 match F t with
 | .fn f caps=>AC P F args λ_ A=>ns F caps λD=>Cl P f false (A++D) K
 | .fv Ok=>argsV F args λL=>Fv P Ok L K
 | _=>False
section
variable{P:Program}{w0 w w1:World}{M S0 S:af}{N:fD}{φ:Nat->af}{F:Nat->AV}{a:Act}
variable{v:Value}{cs:List C}{ag:Option Nat}{S':af}
def cb.mono{S Y a:af}(h:cb w S Y ag cs v)(c:∀b o,S b o->S' b o)(d:∀b o,Y b o->a b o):cb w S' a ag cs v:=
 ⟨h.1,h.2.choose,h.2.choose_spec.1,h.2.choose_spec.2.mono c d⟩
def cb.freeze{Y:af}(h:cb w S Y ag cs v):cb w (λb o=>S b o\/Y b o) NO ag (eH cs) v:=
 ⟨by rw[co,I1];exact h.1,h.2.choose,h.2.choose_spec.1,h.2.choose_spec.2.freeze⟩
def nS(S:af)(φ:Nat->af):af:=λb o=>S b o\/∃t,φ t b o
def cb.keepS(h:cb w S NO ag cs v)(a:bq S w w1)(c:∀b o,S b o->S' b o):cb w1 S' NO ag cs v:=by
 obtain⟨d,u,e,f⟩:=h;exact⟨d,u,e,(f.keep a (λ_ _ h=>h.elim)).mono c (λ_ _ h=>h)⟩
def pn.keep{A:RA}(h:pn w S A v)(e:bq S w w1)(i:∀b o,S b o->S' b o):pn w1 S' A v:=by
 cases A with
 | val q l=>exact cb.keepS h e i
 | ptr l=>
  obtain⟨g,b,u,f,a,j⟩:=h;exact⟨g,b,u,f,λd k=>⟨i _ _ (a d k).1,(e _ _ (a d k).1).1.trans (a d k).2⟩,(j.keep e (λ_ _ h=>h.elim)).mono i (λ_ _ h=>h)⟩
 | fn Ok=>
  obtain⟨n,p,f,a,j⟩:=h;exact⟨n,p,λb o c=>i _ _ (f b o c),λb o c=>⟨(e b o (f b o c)).1.trans (a b o c).1,(e b o (f b o c)).2.trans (a b o c).2⟩,j⟩
def zi.keep{S':af}(a:bq S w w1)(c:∀b o,S b o->S' b o):∀{A:List RA}{vs:List Value},zi w S A vs->zi w1 S' A vs
 | [],[],_=>trivial
 | _::_,_::_,h=>⟨h.1.keep a c,zi.keep a c h.2⟩
 | [],_::_,h=>h.elim
 | _::_,[],h=>h.elim
def zi.append:∀{A B:List RA}{vs a:List Value},zi w S A vs->zi w S B a->zi w S (A++B) (vs++a)
 | [],_,[],_,_,h=>h
 | _::_,_,_::_,_,h,b=>⟨h.1,zi.append h.2 b⟩
 | [],_,_::_,_,h,_=>h.elim
 | _::_,_,[],_,h,_=>h.elim
def bq.rfl'(X:af)(w:World):bq X w w:=λ_ _ _=>⟨rfl,rfl⟩
def Dw{X:af}{tv:Nat->Value}(h:cS w S F tv X (.H .box cs) v){T:af}(c:∀b o,S b o\/X b o->T b o):pn w T (.ptr (eH cs)) v:=by
 obtain⟨p,Y,i,j,q,⟨g,o,e,a⟩,k⟩:=h;refine⟨g,o,cr w .box v,e,λd f=>?_,k.freeze.mono (λb o a=>c b o (a.imp id (j b o))) (λ_ _ h=>h)⟩;rw[co,I1]at f;obtain⟨l,⟨z,n⟩,-⟩:=a d f;exact⟨c _ _ (.inr (i _ _ l)),by rw[e];simp only[cr,n,Option.getD_some]⟩
def bo.argVal(h:bo w0 M S0 N S φ F a w){av:AV}{X:af}(i:∀b o,X b o->nS S φ b o)(j:cS w S F (tvs a) X av v){K:Bool->RA->Prop}(k:iO F av (wi K)) :
  ∃b A,K b A/\pn w (nS S φ) A v/\(b=true->pn w S A v):=by
 obtain⟨p,l,Y,c,e,n⟩:=h.val j k;have f:∀b o,Y b o->nS S φ b o:=λb o g=>(n b o g).elim (i b o) .inr
 unfold wi at c;cases d:aZ l with
 | true=>
  rw[d]at c;exact⟨true,_,c,(e.bare d).mono (λ_ _ h=>.inl h) (λ_ _ h=>h),λ_=>e.bare d⟩
 | false=>
  rw[d]at c;exact⟨false,_,c,e.freeze.mono (λb o h=>h.elim .inl (f b o)) (λ_ _ h=>h),λg=>by cases g⟩
variable{x:Operand}
def bo.argV(h:bo w0 M S0 N S φ F a w){K:Bool->RA->Prop}(c:Ab.argV F x K):∃b A,K b A/\pn w (nS S φ) A (a.eval x)/\(b=true->pn w S A (a.eval x)):=by
 have i:=h.ev x;have q:∀b o,UN φ x b o->nS S φ b o:=λb o d=>by
  cases x with
  | tmp t=>exact .inr ⟨t,d⟩
  | _=>exact d.elim
 unfold Ab.argV at c;cases e:n8 F x with
 | H k B=>
  rw[e]at c i;cases k with
  | box=>exact⟨false,_,c,Dw i λb o d=>d.elim .inl (q b o),λd=>by cases d⟩
  | one=>exact h.argVal q i (show iO F (.H .one B) (wi K) from c)
  | agg=>exact h.argVal q i (show iO F (.H .agg B) (wi K) from c)
  | tup O=>exact c.elim
 | c2 t l H P=>rw[e]at c i;exact h.argVal q i c
 | ref t l H=>
  rw[e]at c i;simp only at c;split at c
  ·rename_i B E
   have C:=h.slot t;rw[E]at C;obtain⟨k,J,r,j,g,o,y,G,n,L⟩:=i;rw[E]at y;cases y;have D:a.eval x=tvs a t:=by
    obtain⟨Q,Y,-,-,-,⟨R,T,D,-⟩,-⟩:=C;rw[D]at n |-;simp only[plc,oX,Z5,C1,Prod.mk.injEq,Nat.add_zero]at n;obtain⟨rfl,rfl⟩:=n;exact L
   rw[D];exact⟨false,_,c,Dw C λb o d=>d.elim .inl (λd=>.inr ⟨t,d⟩),λd=>by cases d⟩
  exact c.elim
 | iref r l=>
  rw[e]at c i;simp only at c;cases d:Nat.beq l 0 with
  | false=>rw[d]at c;exact c.elim
  | true=>
   rw[d]at c;have:=O2 d;subst this;have p:pn w S (.ptr r) (a.eval x):=by
    obtain⟨g,b,u,y,G,n⟩:=i;exact⟨g,b,u,by rw[y,Nat.add_zero],G,n⟩
   exact⟨true,_,c,p.keep (bq.rfl' _ _) (λ_ _ h=>.inl h),λ_=>p⟩
 | fv Ok=>
  rw[e]at c i;have p:pn w S (.fn Ok) (a.eval x):=i;exact⟨true,_,c,p.keep (bq.rfl' _ _) (λ_ _ h=>.inl h),λ_=>p⟩
 | fn f caps=>rw[e]at c;exact c.elim
 | dead=>rw[e]at c;exact c.elim
def bo.caps(h:bo w0 M S0 N S φ F a w):∀{cs:List Nat}{K:List RA->Prop},ns F cs K->∃D,K D/\zi w (nS S φ) D (cs.map (tvs a))
 | [],K,e=>⟨[],e,trivial⟩
 | c::cs,K,e=>by
  have p:=h.slot c;have f:∀(k:Kd)(xs:List C)(q:Option Nat),F c=.H k xs->iO F (.H k xs) (λi j=>i=q/\j=xs)->pn w (nS S φ) (.val q (eH xs)) (tvs a c):=λk xs q g r=>by
   rw[g]at p;obtain⟨i,j,Y,⟨rfl,rfl⟩,r,t⟩:=h.val p r;exact r.freeze.mono (λb o d=>d.elim .inl (λd=>(t b o d).elim (λd=>.inr ⟨c,d⟩) .inr)) (λ_ _ h=>h)
  simp only[ns]at e;split at e
  ·rename_i xs g
   obtain⟨D,l,n⟩:=bo.caps h e;rw[g]at p;exact⟨_,l,Dw p (λb o d=>d.elim .inl λd=>.inr ⟨c,d⟩),n⟩
  ·rename_i xs g
   obtain⟨D,l,n⟩:=bo.caps h e;exact⟨_,l,f _ _ _ g ⟨rfl,rfl⟩,n⟩
  ·rename_i xs g
   obtain⟨D,l,n⟩:=bo.caps h e;exact⟨_,l,f _ _ _ g ⟨rfl,rfl⟩,n⟩
  exact e.elim
def bo.argA(h:bo w0 M S0 N S φ F a w){K:Bool->RA->Prop}(e:Ab.argA P F x K):∃b A,K b A/\pn w (nS S φ) A (a.eval x)/\(b=true->pn w S A (a.eval x)):=by
 unfold Ab.argA at e;split at e
 ·rename_i f caps g
  have l:=h.ev x;rw[g]at l;obtain⟨D,n,o⟩:=h.caps e;obtain⟨Q,p,q,r⟩:=n;refine⟨false,_,r,⟨nS S φ,w,λ_ _ h=>h,bq.rfl' _ _,f,caps.map (tvs a),l,p,λL k rcs t u y C d c i j=>?_⟩,λB=>by cases B⟩;exact(q L k rcs t).run u y _ i (zi.append j (zi.keep c d o))
 exact h.argV e
def bo.args(h:bo w0 M S0 N S φ F a w):∀{xs:List Operand}{K:Bool->List RA->Prop},AC P F xs K->∃b A,K b A/\zi w (nS S φ) A (xs.map a.eval)/\(b=true->zi w S A (xs.map a.eval))
 | [],K,c=>⟨true,[],c,trivial,λ_=>trivial⟩
 | x::xs,K,c=>by
  obtain⟨f,A,d,g,i⟩:=h.argA c;obtain⟨b,As,d,j,k⟩:=bo.args h d;refine⟨_,_,d,⟨g,j⟩,λe=>?_⟩;cases f with
  | false=>cases e
  | true=>exact⟨i rfl,k e⟩
def bo.argsV(h:bo w0 M S0 N S φ F a w):∀{xs:List Operand}{K:List (Option Nat × List C)->Prop},Ab.argsV F xs K->∃L,K L/\zi w (nS S φ) (L.map λp=>.val p.1 p.2) (xs.map a.eval)
 | [],K,d=>⟨[],d,trivial⟩
 | x::xs,K,d=>by
  obtain⟨n,i,Y,e,g,j⟩:=h.val (h.ev x) d;obtain⟨L,e,k⟩:=bo.argsV h e;have f:∀b o,Y b o->nS S φ b o:=λb o c=>by
   rcases j b o c with c|c
   ·cases x with
    | tmp t=>exact .inr ⟨t,c⟩
    | _=>exact c.elim
   exact .inr c
  refine⟨_,e,?_,k⟩;cases l:aZ i with
  | true=>exact(g.bare l).mono (λ_ _ h=>.inl h) (λ_ _ h=>h)
  | false=>exact g.freeze.mono (λb o h=>h.elim .inl (f b o)) (λ_ _ h=>h)
variable{ts:Array TypeId}{f:Nat}{o:Oper}
def Fx{args:Array Operand}(d:o.op=.call ⟨.value (.func f),args,ts⟩)(g:MD P f) :
  (execOp a.eval o).run P w=.ok (.enter f (args.map a.eval)) w:=by
 obtain⟨h,i,j,c⟩:=g;have b : ¬ h.name = "runtime.NumGoroutine" := by simpa using j
 simp[execOp,d,resolve,Act.eval,Deferred.ofValue,invoke,callFunc,i,b];intro e;rw[e]at c;cases c
def ux{t:Nat}{args:Array Operand}{caps:List Value}(g:o.op=.call ⟨.value (.tmp t),args,ts⟩)(h:MD P f)(i:tvs a t=.func (.func f) #[] caps.toArray) :
  (execOp a.eval o).run P w=.ok (.enter f (args.toList.map a.eval++caps).toArray) w:=by
 obtain⟨j,k,l,d⟩:=h;have b : ¬ j.name = "runtime.NumGoroutine" := by simpa using l
 have c:a.tmps.getD t undef=.func (.func f) #[] caps.toArray:=i;have n:args.map a.eval++caps.toArray=(args.toList.map a.eval++caps).toArray:=by
  apply Array.ext';simp
 rw[<-n];simp[execOp,g,resolve,Act.eval,c,Deferred.ofValue,invoke,callFunc,k,b];intro e;rw[e]at d;cases d
variable{rcs:List C}{vs:List Value}
def bo.enterG(h:bo w0 M S0 N S φ F a w){k:Kd}{sh:Bool}(d:(execOp a.eval o).run P w=.ok (.enter f vs.toArray) w){S2:af}(l:sh=true->∀b o,S2 b o->S b o)(u:Calls P f vs.toArray w λe w1=>∃v,e=.returned v/\bZ NO w w1/\∃X g:af,(∀b o,X b o->b<w1.heap.size/\w.heap.size<=b)/\
    (∀b o,g b o->(sh=true/\S2 b o)\/(b<w1.heap.size/\w.heap.size<=b))/\(∀b o,X b o->¬g b o)/\∃i Y:af,(∀b o,i b o->X b o)/\(∀b o,Y b o->X b o)/\(∀b o,i b o->¬Y b o)/\gu w1 i k rcs.length v/\dn w1 g Y rcs (cr w1 k v)):Ac P o a w (mi w S F a (.H k rcs)):=by
 refine Ac.enter d ?_;refine u.mono λe w1 ⟨v,y,A,X,g,t,n,B,i,Y,p,D,q,E,G⟩=>⟨v,y,A,X,λb o=>S b o\/g b o,t,λ_ _ h=>.inl h,λb o c=>?_,λb o c j=>?_,?_⟩
 ·rcases c with c|c
  ·exact .inl c
  rcases n b o c with⟨r,H⟩|r
  ·exact .inl (l r b o H)
  exact .inr r
 ·rcases j with j|j
  ·have:=(h.sup b o j).1;have:=(t b o c).2;omega
  exact B b o c j
 exact⟨i,Y,p,D,q,E,G.mono (λ_ _ h=>.inr h) (λ_ _ h=>h)⟩
def bo.enter(h:bo w0 M S0 N S φ F a w){k:Kd}{sh:Bool}(c:(execOp a.eval o).run P w=.ok (.enter f vs.toArray) w){S2:af}(g:sh=true->∀b o,S2 b o->S b o)(i:Calls P f vs.toArray w λe w1=>∃v,e=.returned v/\bZ NO w w1/\∃X d:af,(∀b o,X b o->b<w1.heap.size/\w.heap.size<=b)/\
    (∀b o,d b o->(sh=true/\S2 b o)\/(b<w1.heap.size/\w.heap.size<=b))/\(∀b o,X b o->¬d b o)/\gu w1 NO k rcs.length v/\dn w1 d X rcs (cr w1 k v)):Ac P o a w (mi w S F a (.H k rcs)):=
 h.enterG c g (i.mono λ_ _ ⟨v,j,l,X,d,n,p,q,r,t⟩=>⟨v,j,l,X,d,n,p,q,NO,X,λ_ _ h=>h.elim,λ_ _ h=>h,λ_ _ h=>h.elim,r,t⟩)
def bo.all_lt(h:bo w0 M S0 N S φ F a w):∀b o,nS S φ b o->b<w.heap.size:=λb o d=>d.elim (λc=>(h.sup b o c).1) (λ⟨t,c⟩=>(h.ex t b o c).1)
variable{K:AV->Prop}
def bo.call(h:bo w0 M S0 N S φ F a w){args:Array Operand}(l:o.op=.call ⟨.value (.func f),args,ts⟩)(n:KC P F f args.toList K) :
  ∃av,K av/\Ac P o a w (mi w S F a av):=by
 obtain⟨b,A,e,p,q⟩:=h.args n;obtain⟨t,k,rcs,g,i,r⟩:=e.out;have d:args.map a.eval=(args.toList.map a.eval).toArray:=by apply Array.ext';rw[Array.toList_map]
 have c:=Fx (a:=a) (w:=w) l g.1;rw[d]at c;refine⟨_,r,?_⟩;rcases i with rfl|j
 ·exact h.enterG c (S2:=nS S φ) (λh=>by cases h) (g.2 w _ _ h.all_lt p)
 exact h.enterG c (S2:=S) (λ_ _ _ h=>h) (g.2 w S _ (λb o j=>(h.sup b o j).1) (q j))
def bo.callT(h:bo w0 M S0 N S φ F a w){t:Nat}{args:Array Operand}(p:o.op=.call ⟨.value (.tmp t),args,ts⟩)(c:mL P F t args.toList K) :
  ∃av,K av/\Ac P o a w (mi w S F a av):=by
 have d:=h.slot t;unfold mL at c;split at c
 ·rename_i f caps e
  rw[e]at d;obtain⟨b,A,c,g,-⟩:=h.args c;obtain⟨D,i,r⟩:=h.caps c;obtain⟨sh,k,rcs,q,j,l⟩:=i.out;have n:sh=false:=j.elim id (λh=>by cases h);subst n;exact⟨_,l,h.enterG (ux p q.1 d) (S2:=nS S φ) (λh=>by cases h) (q.2 w _ _ h.all_lt (zi.append g r))⟩
 ·rename_i Ok e
  rw[e]at d;obtain⟨L,u,g⟩:=h.argsV c;obtain⟨Q,k,rcs,rfl,y,l⟩:=u;obtain⟨O,w1,B,C,f,caps,E,G,H⟩:=d;exact⟨_,l,h.enter (ux p G E) (S2:=nS S φ) (sh:=false) (λh=>by cases h) (H L k rcs y w _ _ (λb o J=>.inl (B b o J)) C h.all_lt g)⟩
 exact c.elim
def Ej:List (Option Nat)->Nat->Option (Nat × Option Nat)
 | [],_=>none
 | a::_,0=>some (0,a)
 | a::b,i+1=>(Ej b i).map λp=>(a.getD 1+p.1,p.2)
def kD(F:Nat->AV)(x:Operand)(i:Nat)(K:AV->Prop):Prop:=
 match x with
 | .tmp t=>match F t with
  | .H (.tup sh) b=>match Ej sh i with
   | some (s,a)=>bif aZ (bz b s (a.getD 1)) then K (.H (mh a) (bz b s (a.getD 1))) else K (.c2 t s [] a)
   | none=>False
  | _=>False
 | _=>False
def rh(ag:Option Nat)(sh:List (Option Nat)):qP (ag::sh)=ag.getD 1+qP sh:=by cases ag<;>rfl
def Jx{sh:List (Option Nat)}(h:xW (ag::sh) (v::vs)):v.cells.toList.length=ag.getD 1/\(v=mkv ag λj=>v.cells.toList.getD j undef)/\xW sh vs:=by
 cases ag with
 | none=>
  have a:v.cells = #[v]:=h.1;exact⟨by rw[a];rfl,by rw[a];rfl,h.2⟩
 | some n=>
  obtain⟨⟨arr,rfl,b⟩,c⟩:=h;exact⟨by simp[Value.cells,b],by have:=qu arr;rw[b]at this;exact this,c⟩
def MZ:∀{sh:List (Option Nat)}{vs:List Value}{i s:Nat}{ag:Option Nat},xW sh vs->Ej sh i=some (s,ag)->
  ∃v,vs[i]? = some v/\s+ag.getD 1<=qP sh/\v=mkv ag λj=>(vs.flatMap λv=>v.cells.toList).getD (s+j) undef
 | [],_,i,s,ag,_,a=>by cases a
 | ag0::sh,[],i,s,ag,h,_=>by cases ag0<;>exact h.elim
 | ag0::sh,c::vs,i,s,ag,h,a=>by
  obtain⟨k,d,e⟩:=Jx h;cases i with
  | zero=>
   simp only[Ej,C1,Prod.mk.injEq]at a;obtain⟨rfl,rfl⟩:=a;refine⟨c,rfl,by rw[rh];omega,d.trans (iU λj l=>?_)⟩;simp only[W7,Y7,List.getD];rw[v5 ω]
  | succ i=>
   simp only[Ej]at a;cases b:Ej sh i with
   | none=>rw[b]at a;cases a
   | some p=>
    rw[b]at a;simp only[Z5,C1,Prod.mk.injEq]at a;obtain⟨rfl,rfl⟩:=a;obtain⟨v,f,n,g⟩:=MZ e (show Ej sh i=some (p.1,p.2) from b);refine⟨v,by simpa using f,by rw[rh];omega,g.trans (iU λj _=>?_)⟩;simp only[W7,List.getD];rw[z5 ω]
    congr 2
    omega
def bo.extract(h:bo w0 M S0 N S φ F a w){i:Nat}(b:kD F x i K) :
  ∃av v,K av/\(Instr.extract (a.eval x) i).run P w=.ok v w/\cS w S F (tvs a) NO av v:=by
 cases x with
 | tmp t=>
  have r:=h.slot t;show ∃av v,K av/\(Instr.extract (tvs a t) i).run P w=.ok v w/\_
  simp only[kD]at b;cases e:F t with
  | H k f=>
   rw[e]at b r;cases k with
   | tup g=>
    simp only at b;obtain⟨E,Y,G,H,J,⟨A,u,B,L⟩,C⟩:=r;cases d:Ej g i with
    | none=>rw[d]at b;exact b.elim
    | some p=>
     obtain⟨s,l⟩:=p;rw[d]at b;simp only at b;obtain⟨v,n,D,o⟩:=MZ B d;have c:(Instr.extract (tvs a t) i).run P w=.ok v w:=by
      have:A[i]? = some v:=by rw[<-Array.getElem?_toList];exact n
      simp[u,Instr.extract,this]
     have y:v=mkv l λj=>cr w (.tup g) (tvs a t) (s+j):=by rw[o,u];rfl
     cases q:aZ (bz f s (l.getD 1)) with
     | true=>
      rw[q]at b;refine⟨_,v,b,c,cb.slot ⟨by simp[bz];omega,_,y,?_⟩⟩;exact(C.part s (l.getD 1)).bare q
     | false=>
      rw[q]at b;exact⟨_,v,b,c,.tup g,f,f,s,e,rfl,ω,y⟩
   | _=>exact b.elim
  | _=>rw[e]at b;exact b.elim
 | _=>exact b.elim
inductive Es(x:ByteArray)(K:ByteArray->Prop):Prop
 |mk_ (h:∃z,x=z/\K z)
def Es.mk{x z:ByteArray}{K:ByteArray->Prop}(h:x=z)(a:K z):Es x K:=by refine .mk_ ?_;exact⟨z,h,a⟩
def Es.out{x:ByteArray}{K:ByteArray->Prop}(h:Es x K):∃z,x=z/\K z:=by obtain⟨h⟩:=h;exact h
def EH(TE:Nat->Option TI)(c:BinOp)(T:Nat)(d e:Value)(K:Value->Prop):Prop:=
 match d,e with
 | .bool a,.bool b=>(match TE T with
   | some ⟨_,_,_,.sc .bool⟩=>(match c with
     | .eql=>K (.bool (a == b))
     | .neq=>K (.bool (a != b))
     | _=>False)
   | _=>False)
 | .string a,.string b=>(match c with
   | .eql=>K (.bool (a.toList == b.toList))
   | .neq=>K (.bool (!(a.toList == b.toList)))
   | .add=>Cd (((a.size+b.size:Nat):Int)<=9223372036854775807) (Es (a++b) λz=>K (.string z))
   | _=>False)
 | d,e=>D0 c d e K
variable{y:Operand}{T:Nat}{TE:Nat->Option TI}
def MQ(e:∀t i,TE t=some i->bQ P t i){d:BinOp}{f g:Value}{K:Value->Prop}(c:EH TE d T f g K):∃v,K v/\v.oneCell'=true/\(do eqGuard d T x y f g;binOp d T f g:Sem Value).run P w=.ok v w:=by
 unfold EH at c;split at c
 ·rename_i a b
  split at c
  case h_2=>exact c.elim
  rename_i l;have n:P.underlying T=some .bool:=(e _ _ l).2.2.1;have h:(eqGuard d T x y (.bool a) (.bool b)).run P w=.ok () w:=by
   unfold eqGuard;split<;>rfl
  rw[Sem.run_bind,h];have k:(Op.equal T (.bool a) (.bool b)).run P w=.ok (a == b) w:=by
   unfold Op.equal;rw[show Op.maxDepth=(Op.maxDepth - 1)+1 from rfl,Op.equalIn];rw[Sem.run_bind,run_underlying n]
   rfl
  cases d<;>simp only at c<;>try exact c.elim
  case eql=>exact⟨_,c,rfl,by simp only[Result.andThen_ok,binOp,Sem.run_bind,k,Sem.run_pure]⟩
  case neq=>exact⟨_,c,rfl,by simp only[Result.andThen_ok,binOp,Sem.run_bind,k,Sem.run_pure];rfl⟩
 ·rename_i a b
  have h:(eqGuard d T x y (.string a) (.string b)).run P w=.ok () w:=by
   unfold eqGuard;split<;>rfl
  rw[Sem.run_bind,h];cases d<;>simp only at c<;>try exact c.elim
  case eql=>exact⟨_,c,rfl,by simp[binOp,Op.stringOp]⟩
  case neq=>exact⟨_,c,rfl,by simp[binOp,Op.stringOp]⟩
  case add=>
   obtain⟨o,j⟩:=c.out;obtain⟨z,rfl,j⟩:=j.out;refine⟨_,j,rfl,?_⟩;have:¬((a.size+b.size:Nat):Int) > IntKind.i64.max:=by
    have:IntKind.i64.max=9223372036854775807:=by decide
    omega
   simp only[Result.andThen_ok,binOp,Op.stringOp];rw[CB this]
   rfl
 exact MW c
inductive Nn(rows:List (List C))(K:Prop):Prop
 |mk_ (h:rows≠[]/\K)
variable{rows:List (List C)}
def Nn.mk{K:Prop}(h:rows≠[])(a:K):Nn rows K:=by refine .mk_ ?_;exact⟨h,a⟩
def Nn.out{K:Prop}(h:Nn rows K):rows≠[]/\K:=by obtain⟨h⟩:=h;exact h
def Tf:Operand->Bool
 | .const (.slice none 0 0)=>true
 | _=>false
def yo(a:BinOp)(y:Operand):Bool:=
 match a with
 | .eql=>Tf y
 | _=>false
def HU(TE:Nat->Option TI)(F:Nat->AV)(T:Nat)(x:Operand)(K:AV->Prop):Prop:=
 match TE T with
 | some ⟨_,_,_,.sl _⟩=>iO F (n8 F x) λa b=>match a,b with
  | none,[.s _ rows]=>Nn rows (K (.H .one [.v (.bool false)]))
  | none,[.v (.slice A _ _)]=>K (.H .one [.v (.bool A.isNone)])
  | _,_=>False
 | _=>False
def Mw{a:BinOp}(h:yo a y=true):a=.eql/\y=.const (.slice none 0 0):=by
 unfold yo at h;split at h
 ·refine⟨rfl,?_⟩
  unfold Tf at h;split at h
  ·rfl
  cases h
 cases h
def eY.slice_some{w:World}{S F:af}{o:dN}(h:eY w S F (.s o rows) v)(b:rows≠[]):∃ad cap,v=.slice (some ad) rows.length cap:=by
 generalize a:C.s o rows=c at h;cases h with
 | v=>cases a
 | x=>cases a
 | z=>cases a
 | m=>cases a
 | it=>cases a
 | nil=>cases a;exact absurd rfl b
 | own=>cases a;subst_vars;exact⟨_,_,rfl⟩
 | U=>cases a;subst_vars;exact⟨_,_,rfl⟩
def eY.val_v{w:World}{S F:af}{y:Value}(h:eY w S F (.v y) v):v=y:=by
 generalize a:C.v y=c at h;cases h with
 | v=>cases a;rfl
 | _=>cases a
def bo.nilq(h:bo w0 M S0 N S φ F a w)(j:∀t i,TE t=some i->bQ P t i)(g:HU TE F T x K) :
  ∃b:Bool,K (.H .one [.v (.bool b)])/\(do eqGuard .eql T x (.const (.slice none 0 0)) (a.eval x) (.slice none 0 0);binOp .eql T (a.eval x) (.slice none 0 0):Sem Value).run P w=.ok (.bool b) w:=by
 unfold HU at g;split at g
 ·rename_i r
  have y:=(j _ _ r).2.2;have run:∀(A:Option Addr)(n c:Nat),(do eqGuard .eql T x (.const (.slice none 0 0)) (.slice A n c) (.slice none 0 0);binOp .eql T (.slice A n c) (.slice none 0 0):Sem Value).run P w=.ok (.bool A.isNone) w:=λA n c=>by
   have B:(eqGuard .eql T x (.const (.slice none 0 0)) (.slice A n c) (.slice none 0 0)).run P w=.ok () w:=by
    unfold eqGuard;split<;>rfl
   rw[Sem.run_bind,B];have C:(Op.equal T (.slice A n c) (.slice none 0 0)).run P w=.ok A.isNone w:=by
    unfold Op.equal;rw[show Op.maxDepth=(Op.maxDepth - 1)+1 from rfl,Op.equalIn];rw[Sem.run_bind,run_underlying y];cases A<;>rfl
   simp only[Result.andThen_ok,binOp,Sem.run_bind,C,Sem.run_pure]
  obtain⟨D,E,Y,d,⟨H,u,l,f,p,-⟩,-⟩:=h.val (h.ev x) g
  match D,E,d with
  | none,[.s o rows],d=>
   obtain⟨k,d⟩:=d.out;obtain⟨q,e,G⟩:=(p 0 _ rfl).slice_some k;have:a.eval x=.slice (some q) rows.length e:=l.trans G;rw[this];exact⟨false,d,run (some q) rows.length e⟩
  | none,[.v (.slice A n c)],d=>
   have:a.eval x=.slice A n c:=l.trans (p 0 _ rfl).val_v;rw[this];exact⟨A.isNone,d,run A n c⟩
 exact g.elim
structure Qz(P:Program)(op:BinOp)(T:Nat)(vs us:List Value)(r:Bool):Prop where
 run:∀(x y:Operand)(w:World),(do eqGuard op T x y (.agg vs.toArray) (.agg us.toArray);binOp op T (.agg vs.toArray) (.agg us.toArray):Sem Value).run P w=.ok (.bool r) w
inductive Ld(P:Program)(op:BinOp)(T:Nat)(vs us:List Value)(K:Bool->Prop):Prop
 |mk_ (h:∃r,Qz P op T vs us r/\K r)
variable{b:List Value}
def Ld.mk{P:Program}{a:BinOp}{K:Bool->Prop}{r:Bool}(h:Qz P a T vs b r)(c:K r):Ld P a T vs b K:=by refine .mk_ ?_;exact⟨r,h,c⟩
def Ld.out{P:Program}{a:BinOp}{K:Bool->Prop}(h:Ld P a T vs b K):∃r,Qz P a T vs b r/\K r:=by obtain⟨h⟩:=h;exact h
def Ut:List C->(List Value->Prop)->Prop
 | [],K=>K []
 | .v x::cs,K=>Ut cs λl=>K (x::l)
 | _,_=>False
def GR:∀(l:List Value){K:List Value->Prop},K l->Ut (l.map C.v) K
 | [],_,h=>h
 | x::l,K,h=>GR l (K:=λl=>K (x::l)) h
def pp:∀{cs:List C}{K:List Value->Prop},Ut cs K->∃l,K l/\cs=l.map C.v
 | [],K,h=>⟨[],h,rfl⟩
 | .v x::cs,K,h=>by
  obtain⟨l,a,b⟩:=pp (cs:=cs) h;exact⟨_,a,by rw[b];rfl⟩
 | .s _ _::_,_,h=>h.elim
 | .x::_,_,h=>h.elim
 | .z::_,_,h=>h.elim
 | .m _::_,_,h=>h.elim
 | .it _ _::_,_,h=>h.elim
def isAgg(F:Nat->AV)(x:Operand):Bool:=
 match x with
 | .tmp t=>(match F t with|.H .agg _=>true|_=>false)
 | _=>false
def GS(P:Program)(F:Nat->AV)(a:BinOp)(T:Nat)(x y:Operand)(K:AV->Prop):Prop:=
 iO F (n8 F x) λb c=>iO F (n8 F y) λag2 ds=>match b,ag2 with
  | some _,some _=>Ut c λd=>Ut ds λe=>Ld P a T d e λr=>K (.H .one [.v (.bool r)])
  | _,_=>False
def PE{S Y:af}{n:Nat}{l:List Value}(h:cb w S Y (some n) (l.map C.v) v):v=.agg l.toArray:=by
 obtain⟨b,u,c,f,d,-⟩:=h;have i:l.length=n:=by simpa using b
 rw[c];show Value.agg ((List.range n).map u).toArray=_
 congr 2
 apply List.ext_getElem?;intro j;rw[X3];by_cases e:j<n
 ·have a:j<l.length:=ω
  have g:=d j (.v l[j]) (by rw[X3,W2 a];rfl);rw[X7 e,W2 a];have key:∀(Z:af)(y z:Value),eY w S Z (.v y) z->z=y:=λZ y z h=>by cases h;rfl
  have:u j=l[j]:=key _ _ _ g;simp[this]
 rw[Z2 (by simp;omega),Z2 ω];rfl
def bo.eqs(h:bo w0 M S0 N S φ F a w){b:BinOp}(e:GS P F b T x y K) :
  ∃r,K (.H .one [.v (.bool r)])/\(do eqGuard b T x y (a.eval x) (a.eval y);binOp b T (a.eval x) (a.eval y):Sem Value).run P w=.ok (.bool r) w:=by
 unfold GS at e;obtain⟨i,u,Y,j,f,-⟩:=h.val (h.ev x) e;obtain⟨ag2,ds,A,c,g,-⟩:=h.val (h.ev y) j
 match i,ag2,c with
 | some n,some m,d=>
  obtain⟨B,k,l⟩:=pp d;obtain⟨C,o,p⟩:=pp k;obtain⟨r,q,t⟩:=o.out;rw[l]at f;rw[p]at g;refine⟨r,t,?_⟩;rw[PE f,PE g];exact q.run x y w
def Kw:List Operand->(List Nat->Prop)->Prop
 | [],K=>K []
 | .tmp t::xs,K=>Kw xs λl=>K (t::l)
 | _,_=>False
def G7:∀(l:List Nat){K:List Nat->Prop},K l->Kw (l.map .tmp) K
 | [],_,h=>h
 | t::l,K,h=>G7 l (K:=λl=>K (t::l)) h
def rR:∀{xs:List Operand}{K:List Nat->Prop},Kw xs K->∃l,K l/\xs=l.map .tmp
 | [],K,h=>⟨[],h,rfl⟩
 | .tmp t::xs,K,h=>by
  obtain⟨l,a,b⟩:=rR (xs:=xs) h;exact⟨_,a,by rw[b];rfl⟩
 | .const _::_,_,h=>h.elim
 | .global _::_,_,h=>h.elim
 | .func _::_,_,h=>h.elim
def dz(P:Program)(TE:Nat->Option TI)(F:Nat->AV)(o:Op)(K:AV->Prop):Prop:=
 match o with
 | .move x=>bu F x K
 | .assign x=>bu F x K
 | .nilCheck x=>(match x with|.tmp t=>(match F t with|.ref ..=>bu F x K|.iref ..=>bu F x K|.H .box _=>bu F x K|_=>False)|_=>False)
 | .load T x=>vm TE F T x K
 | .fieldAddr T x f=>iM TE F T x f K
 | .indexAddr T x y=>iL TE F T x y K
 | .binOp op T x y _=>bif yo op y then HU TE F T x K else bif isAgg F x then GS P F op T x y K else HT F x λa=>HT F y λg=>EH TE op T a g λv=>K (.H .one [.v v])
 | .unOp op _ x=>HT F x λa=>QH op a λv=>K (.H .one [.v v])
 | .pick c x y=>JG F c x y K
 | .alloc T=>xU TE T K
 | .box _ x=>QG F x K
 | .extract x i=>kD F x i K
 | .build T ps=>rS TE F T ps.toList K
 | .buildSlice T n ps=>wK TE F T n ps.toList K
 | .makeSlice T x y=>J0 TE F T x y K
 | .makeFunc fn fs cs=>(match fn,fs.toList with|.func f,[]=>Kw cs.toList λl=>K (.fn f l)|_,_=>False)
 | .makeMap T r=>sO TE T r K
 | .lookup T x y ok=>y2 TE F T x y ok K
 | .slice T x d e h=>(match h with|none=>Dj TE F T x d e K|some m=>(match d,e with|none,some y=>Q9 TE F T x y m K|_,_=>False))
 | .field T x f=>rT TE F T x f K
 | .convert T1 b x=>yF TE F T1 b x K
 | .call c=>match c.callee with
  | .value (.func f)=>KC P F f c.args.toList K
  | .value (.tmp t)=>mL P F t c.args.toList K
  | .builtin .len=>(match c.args.toList,c.argTypes.toList with|[x],[T]=>Hx TE F T x K|_,_=>False)
  | .builtin .append=>(match c.args.toList,c.argTypes.toList with|[x,y],[T,b]=>bif Nat.beq T b then JN TE F T x y K else False|_,_=>False)
  | .builtin .min=>(match c.args.toList with|[x,y]=>Uy false F x y K|_=>False)
  | .builtin .max=>(match c.args.toList with|[x,y]=>Uy true F x y K|_=>False)
  | _=>False
 | _=>False
def bo.pure_(h:bo w0 M S0 N S φ F a w)(A:∀t i,TE t=some i->bQ P t i)(d:dz P TE F o.op K):∃av,K av/\Ac P o a w (mi w S F a av):=by
 cases p:o.op with
 | move x=>rw[p]at d;obtain⟨av,e,B⟩:=h.move d;exact⟨av,e,.same (by simp[execOp,p]) B⟩
 | assign x=>rw[p]at d;obtain⟨av,e,B⟩:=h.move d;exact⟨av,e,.same (by simp[execOp,p]) B⟩
 | nilCheck x=>
  rw[p]at d;cases x with
  | tmp t=>
   have C:=h.slot t;simp only[dz]at d;have J:bu F (.tmp t) K/\∃R,a.eval (.tmp t)=.pointer (some R):=by
    show _/\∃R,tvs a t=_
    cases Q:F t with
    | H k U=>
     rw[Q]at d C;cases k with
     | box=>obtain⟨X1,Y,-,-,-,⟨g,b,L,-⟩,-⟩:=C;exact⟨d,_,L⟩
     | _=>exact d.elim
    | ref=>rw[Q]at d C;obtain⟨k,U,r,j,g,b,-,-,-,L⟩:=C;exact⟨d,_,L⟩
    | iref=>rw[Q]at d C;obtain⟨g,b,u,L,-⟩:=C;exact⟨d,_,L⟩
    | _=>rw[Q]at d;exact d.elim
   obtain⟨hm,R,V⟩:=J;obtain⟨av,e,B⟩:=h.move hm;exact⟨av,e,.same (v:=a.eval (.tmp t)) (by simp[execOp,p,V]) B⟩
  | _=>exact d.elim
 | load T x=>rw[p]at d;obtain⟨av,v,e,q,B⟩:=h.load A d;exact⟨av,e,.same (by simp[execOp,p,q]) B⟩
 | fieldAddr T x f=>rw[p]at d;obtain⟨av,v,e,q,B⟩:=h.fieldAddr A d;exact⟨av,e,.same (by simp[execOp,p,q]) B⟩
 | indexAddr T x y=>rw[p]at d;obtain⟨av,v,e,q,B⟩:=h.indexAddr A d;exact⟨av,e,.same (by simp[execOp,p,q]) B⟩
 | binOp Z T x y yT=>
  rw[p]at d;simp only[dz]at d;cases H:yo Z y with
  | true=>
   rw[H]at d;obtain⟨rfl,rfl⟩:=Mw H;obtain⟨b,e,q⟩:=h.nilq A d;refine⟨_,e,.same (v:=.bool b) ?_ (jV rfl)⟩;simp only[execOp,p];rw[Sem.run_bind];have E:a.eval (.const (.slice none 0 0))=.slice none 0 0:=rfl;rw[E,q]
   rfl
  | false=>
   rw[H]at d;cases hg:isAgg F x with
   | true=>
    rw[hg]at d;obtain⟨r,e,q⟩:=h.eqs d;refine⟨_,e,.same (v:=.bool r) ?_ (jV rfl)⟩;simp only[execOp,p];rw[Sem.run_bind,q]
    rfl
   | false=>
   rw[hg]at d;obtain⟨G,-⟩:=h.scalar d;obtain⟨hy,-⟩:=h.scalar G;obtain⟨v,e,D,q⟩:=MQ (P:=P) (w:=w) A (T:=T) (x:=x) (y:=y) hy;refine⟨_,e,.same (v:=v) ?_ (jV D)⟩;simp only[execOp,p];rw[Sem.run_bind,q]
   rfl
 | unOp Z T x=>
  rw[p]at d;obtain⟨G,-⟩:=h.scalar d;obtain⟨v,e,D,q⟩:=R7 (P:=P) (w:=w) G;exact⟨_,e,.same (v:=v) (by simp[execOp,p,q]) (jV D)⟩
 | pick c x y=>
  rw[p]at d;obtain⟨av,b,e,H,B⟩:=h.pick d;exact⟨av,e,.same (v:=if b then a.eval x else a.eval y) (by simp[execOp,p,H,asBool]) B⟩
 | alloc T=>rw[p]at d;obtain⟨av,v,w1,e,q,B⟩:=h.alloc A d;exact⟨av,e,.value (by simp[execOp,p,q]) B⟩
 | box T x=>rw[p]at d;obtain⟨av,v,w1,e,q,B⟩:=h.box (P:=P) (T:=T) d;exact⟨av,e,.value (by simp[execOp,p,q]) B⟩
 | extract x i=>rw[p]at d;obtain⟨av,v,e,q,B⟩:=h.extract (P:=P) d;exact⟨av,e,.same (by simp[execOp,p,q]) B⟩
 | build T ps=>rw[p]at d;obtain⟨av,v,e,q,B⟩:=h.build A d;exact⟨av,e,.same (by simp only[execOp,p];rw[Sem.run_bind,q];rfl) B⟩
 | buildSlice T n ps=>rw[p]at d;obtain⟨av,v,w1,e,q,B⟩:=h.buildS A d;exact⟨av,e,.value (by simp only[execOp,p];rw[Sem.run_bind,q];rfl) B⟩
 | makeMap T r=>rw[p]at d;obtain⟨av,v,w1,e,q,B⟩:=h.makeMap A d;exact⟨av,e,.value (by simp[execOp,p,q]) B⟩
 | lookup T x y ok=>rw[p]at d;obtain⟨v,e,D,q⟩:=h.look A d;exact⟨_,e,.same (v:=v) (by simp[execOp,p,q]) (jV D)⟩
 | makeSlice T x y=>rw[p]at d;obtain⟨av,v,w1,e,q,B⟩:=h.make A d;exact⟨av,e,.value (by simp[execOp,p,q]) B⟩
 | slice T x lo hi mx=>
  rw[p]at d;cases mx with
  | none=>obtain⟨av,v,e,q,B⟩:=h.slice A d;exact⟨av,e,.same (by simp only[execOp,p];rw[Sem.run_bind,Option.map_none,q];rfl) B⟩
  | some m=>
   cases lo with
   | some _=>exact d.elim
   | none=>
    cases hi with
    | none=>exact d.elim
    | some y=>obtain⟨v,e,q,B⟩:=h.slice0 A d;exact⟨_,e,.same (by simp only[execOp,p];rw[Sem.run_bind,Option.map_none,Z5,Z5,q];rfl) B⟩
 | field T x f=>rw[p]at d;obtain⟨av,v,e,q,B⟩:=h.field A d;exact⟨av,e,.same (by simp[execOp,p,q]) B⟩
 | convert T1 T2 x=>rw[p]at d;obtain⟨v,e,D,q⟩:=h.conv A d;exact⟨_,e,.same (v:=v) (by simp[execOp,p,q]) (jV D)⟩
 | makeFunc fn fs U=>
  rw[p]at d;simp only[dz]at d;split at d
  ·rename_i f W
   obtain⟨l,e,hl⟩:=rR d;have E:fs = #[]:=by apply Array.ext';simpa using W
   have O:U.map a.eval=(l.map (tvs a)).toArray:=by
    apply Array.ext';rw[Array.toList_map,hl,List.map_map]
    rfl
   subst E;exact⟨_,e,.same (v:=.func (.func f) #[] (l.map (tvs a)).toArray) (by simp[execOp,p,Instr.makeFunc,O]) rfl⟩
  exact d.elim
 | call c=>
  rw[p]at d;obtain⟨callee,args,ts⟩:=c;simp only[dz]at d;split at d
  ·exact h.call p d
  ·exact h.callT p d
  ·split at d
   ·rename_i x T G X
    obtain⟨v,e,D,q⟩:=h.len (ty:=o.type) A d;have E:args = #[x]:=by apply Array.ext';simpa using G
    have O:ts = #[T]:=by apply Array.ext';simpa using X
    subst E O;refine⟨_,e,.same (v:=v) ?_ (jV D)⟩;simp[execOp,p,resolve,invoke,builtin,q]
   exact d.elim
  ·split at d
   ·rename_i x y T T2 G X
    cases H:Nat.beq T T2 with
    | false=>rw[H]at d;exact d.elim
    | true=>
     rw[H]at d;have:=O2 H;subst this;obtain⟨av,v,w1,e,q,B⟩:=h.appP (ty:=o.type) A d;have E:args = #[x,y]:=by apply Array.ext';simpa using G
     have O:ts = #[T,T]:=by apply Array.ext';simpa using X
     subst E O;exact⟨av,e,.value (by simp[execOp,p,resolve,invoke,builtin,q]) B⟩
   exact d.elim
  ·split at d
   ·rename_i x y G
    obtain⟨v,e,D,q⟩:=h.mm (P:=P) (ts:=ts) (ty:=o.type) d;have E:args = #[x,y]:=by apply Array.ext';simpa using G
    subst E;refine⟨_,e,.same (v:=v) ?_ (jV D)⟩;simp only[Bool.false_eq_true,if_false]at q;simp[execOp,p,resolve,invoke,builtin,q]
   exact d.elim
  ·split at d
   ·rename_i x y G
    obtain⟨v,e,D,q⟩:=h.mm (P:=P) (ts:=ts) (ty:=o.type) d;have E:args = #[x,y]:=by apply Array.ext';simpa using G
    subst E;refine⟨_,e,.same (v:=v) ?_ (jV D)⟩;simp only[if_true]at q;simp[execOp,p,resolve,invoke,builtin,q]
   exact d.elim
  exact d.elim
 | _=>rw[p]at d;exact d.elim
end
inductive Lq(bs:List C)(off:Nat)(st:cM)(n:Nat)(K:List C->List C->Prop):Prop
 |mk_ (h:∃r j cs bs',cn bs off st=some (r,j)/\kU bs off st/\j+n<=r.length/\cs=bz r j n/\bs'=gl bs off st (splice r j (List.replicate n .x))/\K cs bs')
variable{r cs a:List C}{rows:List (List C)}{o:dN}{off j:Nat}
def Lq.one{b:List C}{i k n:Nat}{K:List C->List C->Prop}(h1:b[off]? = some (.s o rows))(f:o.mine=true)(c:rows[i]? = some r)(g:r.length=k)(q:j+n<=k)(h:cs=bz r j n)(l:a=b.set off (.s o (rows.set i (splice r j (List.replicate n .x)))))(p:K cs a):Lq b off [(i,k,j)] n K:=by
 have d:o≠.U:=λe=>by subst e;cases f
 refine .mk_ ?_;exact⟨r,j,cs,a,by simp[cn,h1,c,g],by simp[kU,h1,c,d],ω,h,by rw[l];simp[gl,h1,c],p⟩
variable{st:cM}
def Lq.out{n:Nat}{K:List C->List C->Prop}(h:Lq a off st n K):∃r j,cn a off st=some (r,j)/\kU a off st/\j+n<=r.length/\K (bz r j n) (gl a off st (splice r j (List.replicate n .x))):=by
 obtain⟨h⟩:=h;obtain⟨r,j,g,b,c,d,e,rfl,rfl,f⟩:=h;exact⟨r,j,c,d,e,f⟩
def Q1(t:Nat):AV->AV
 | .c2 t' off (s::st) ag=>bif Nat.beq t' t then .dead else .c2 t' off (s::st) ag
 | .c2 t' off [] ag=>.c2 t' off [] ag
 | .ref t' off (s::st)=>bif Nat.beq t' t then .dead else .ref t' off (s::st)
 | .ref t' off []=>.ref t' off []
 | .H k cs=>.H k cs
 | .iref r off=>.iref r off
 | .fn f caps=>.fn f caps
 | .fv Ok=>.fv Ok
 | .dead=>.dead
def updN(F:Nat->AV)(t:Nat)(k:Kd)(cs:List C):Nat->AV:=λs=>bif Nat.beq s t then .H k cs else Q1 t (F s)
def tX(F:Nat->AV)(t:Nat)(k:Kd)(cs:List C):updN F t k cs t=.H k cs:=by simp[updN]
variable{t:Nat}
def xf(F:Nat->AV){s:Nat}(k:Kd)(cs:List C)(h:s≠t):updN F t k cs s=Q1 t (F s):=by
 unfold updN;rw[show Nat.beq s t=false by rw[<-I6,Nat.beq_eq];exact h];rfl
def Rm(F:Nat->AV)(t:Nat)(k:Kd)(cs:List C):Nat->AV:=match k with
 | .box=>updH F t .box cs
 | .one=>updN F t .one cs
 | .agg=>updN F t .agg cs
 | .tup l=>updN F t (.tup l) cs
variable{F:Nat->AV}
def qm{a:Nat}{i:Kd}{cs2:List C}(h:updH F t k cs a=.H i cs2):updN F t k cs a=.H i cs2:=by
 by_cases e:a=t
 ·subst e;rw[ic]at h;rw[tX];exact h
 rw[f8 _ _ _ e]at h;rw[xf _ _ _ e];cases b:F a with
 | H j cs3=>rw[b]at h;exact h
 | c2 c d f l=>rw[b]at h;simp only[si]at h;cases g:Nat.beq c t<;>rw[g]at h<;>cases h
 | ref c d f=>
  rw[b]at h;cases f with
  | nil=>cases h
  | cons s f=>simp only[si]at h;cases g:Nat.beq c t<;>rw[g]at h<;>cases h
 | _=>rw[b]at h;cases h
def AF(cs:List C)(off:Nat)(s:Nat × Nat × Nat)(st:cM)(r:List C):(gl cs off (s::st) r).length=cs.length:=by
 obtain⟨i,k,j⟩:=s;simp only[gl]
 (repeat' split)<;>simp
def ij(F:Nat->AV)(y:Operand)(K:(Nat->AV)->Option Nat->List C->Prop):Prop:=
 match y with
 | .tmp t=>match F t with
  | .H .one a=>K (updH F t .one (splice a 0 (List.replicate a.length .x))) none a
  | .H .agg a=>K (updH F t .agg (splice a 0 (List.replicate a.length .x))) (some a.length) a
  | .c2 c b [] ag=>(match F c with
    | .H k a=>bif Nat.ble (b+ag.getD 1) a.length then K (updN F c k (splice a b (List.replicate (ag.getD 1) .x))) ag (bz a b (ag.getD 1)) else False
    | _=>False)
  | .c2 c b (s::st) ag=>(match F c with
    | .H k a=>Lq a b (s::st) (ag.getD 1) λxs d=>K (updN F c k d) ag xs
    | _=>False)
  | _=>False
 | _=>False
def bS(N:fD)(F:Nat->AV)(d:Nat)(av:AV)(K:(Nat->AV)->Prop):Prop:=bif N.free d&&!av.uses d then K (put F d av) else False
def fD.al(N:fD)(d:Nat):Bool:=N.mo.any λp=>Nat.beq p.1 (1000000+d)
def lv(N:fD)(F:Nat->AV)(d:Nat)(x:Operand)(K:(Nat->AV)->Prop):Prop:=
 match x with
 | .tmp t=>match F t with
  | .c2 ..=>bif N.al d then bu F x λa=>bS N F d a K else ij F x λc e b=>bS N c d (.H (mh e) b) K
  | .H .one b=>bif aZ b then bu F x λa=>bS N F d a K else ij F x λc e b=>bS N c d (.H (mh e) b) K
  | .H .agg b=>bif aZ b then bu F x λa=>bS N F d a K else ij F x λc e b=>bS N c d (.H (mh e) b) K
  | _=>bu F x λa=>bS N F d a K
 | x=>bu F x λa=>bS N F d a K
inductive Pu(bs:List C)(off:Nat)(st:cM)(xs:List C)(K:List C->Prop):Prop
 |mk_ (h:∃r j bs',cn bs off st=some (r,j)/\kU bs off st/\j+xs.length<=r.length/\bs'=gl bs off st (splice r j xs)/\K bs')
variable{xs:List C}
def Pu.mk{b:List C}{K:List C->Prop}(h1:cn b off st=some (r,j))(c:kU b off st)(d:j+xs.length<=r.length)(e:a=gl b off st (splice r j xs))(f:K a):Pu b off st xs K:=by
 refine .mk_ ?_;exact⟨r,j,a,h1,c,d,e,f⟩
def Pu.one{b:List C}{i k:Nat}{K:List C->Prop}(h1:b[off]? = some (.s o rows))(f:o.mine=true)(c:rows[i]? = some r)(g:r.length=k)(n:j+xs.length<=k)(h:a=b.set off (.s o (rows.set i (splice r j xs))))(l:K a):Pu b off [(i,k,j)] xs K:=by
 have d:o≠.U:=λe=>by subst e;cases f
 refine Pu.mk (r:=r) (j:=j) (by simp[cn,h1,c,g]) (by simp[kU,h1,c,d]) ω (by rw[h];simp[gl,h1,c]) l
def CS:type_of% @Pu.one:=@Pu.one
def Pu.out{K:List C->Prop}(h:Pu a off st xs K):∃r j,cn a off st=some (r,j)/\kU a off st/\j+xs.length<=r.length/\K (gl a off st (splice r j xs)):=by
 obtain⟨h⟩:=h;obtain⟨r,j,b,c,d,e,rfl,f⟩:=h;exact⟨r,j,c,d,e,f⟩
def rg(F:Nat->AV)(x:Operand)(cs:List C)(K:(Nat->AV)->Prop):Prop:=
 match x with
 | .tmp d=>match F d with
  | .H .box c=>bif Nat.ble cs.length c.length then fc (splice c 0 cs) λa=>K (updH F d .box a) else False
  | .ref t b []=>(match F t with
    | .H .box c=>bif Nat.ble (b+cs.length) c.length then fc (splice c b cs) λa=>K (updH F t .box a) else False
    | _=>False)
  | .ref t b (s::st)=>(match F t with
    | .H k c=>Pu c b (s::st) cs λa=>K (Rm F t k a)
    | _=>False)
  | _=>False
 | _=>False
def mT(TE:Nat->Option TI)(F:Nat->AV)(T:Nat)(x y:Operand)(K:(Nat->AV)->Prop):Prop:=
 match TE T with
 | some i=>iO F (n8 F y) λ_ a=>bif Nat.beq a.length i.size then(bif aZ a then rg F x a K else ij F y λb _ a=>bif Nat.beq a.length i.size then rg b x a K else False) else False
 | none=>False
section
variable{P:Program}{w0 w w1:World}{M S0 S:af}{N:fD}{φ:Nat->af}{F:Nat->AV}{a:Act}{TE:Nat->Option TI}
variable{cs:List C}{t:Nat}{φ1:Nat->af}
def bo.toN{B:af}{k:Kd}{l:List C}{A:World}(h:bo w0 M S0 N B φ1 (updH F t k l) a A)(G:bo w0 M S0 N S φ F a w)(H:∀v,cr A k v=cr w k v)(J:F t=.H k cs)(O:l.length=cs.length):bo w0 M S0 N B φ1 (updN F t k l) a A:=by
 refine⟨λs=>?_,h.dis,h.disS,h.ex,h.sub,h.sup,h.old,h.size,h.defers,h.par⟩;have b:=h.slot s;by_cases e:s=t
 ·subst e;rw[ic]at b;rw[tX];exact b
 rw[f8 _ _ _ e]at b;rw[xf _ _ _ e];cases c:F s with
 | dead=>trivial
 | H P cs3=>rw[c]at b;exact b
 | iref r q=>rw[c]at b;exact b
 | fn f caps=>rw[c]at b;exact b
 | fv Ok=>rw[c]at b;exact b
 | ref y q u=>
  rw[c]at b;cases u with
  | nil=>
   obtain⟨i,cs2,r,j,g,o,d,n⟩:=b;exact⟨i,cs2,r,j,g,o,qm d,n⟩
  | cons K u=>
   simp only[si]at b;simp only[Q1];cases p:Nat.beq y t with
   | true=>trivial
   | false=>
    rw[p]at b;obtain⟨i,cs2,r,j,g,o,d,n⟩:=b;exact⟨i,cs2,r,j,g,o,qm d,n⟩
 | c2 y q u Q=>
  rw[c]at b;simp only[si]at b;cases u with
  | nil=>
   simp only[Q1];cases p:Nat.beq y t with
   | true=>
    have:=O2 p;subst this;have d:=G.slot s;rw[c]at d;obtain⟨i,cs2,r,j,D,E,R,L⟩:=d;rw[J]at D;cases D;simp only[cn,C1,Prod.mk.injEq]at E;obtain⟨rfl,rfl⟩:=E;exact⟨_,_,_,_,tX ..,rfl,ω,by rw[H];exact L⟩
   | false=>
    rw[p]at b;obtain⟨i,cs2,r,j,d,n⟩:=b;exact⟨i,cs2,r,j,qm d,n⟩
  | cons K u=>
   simp only[Q1];cases p:Nat.beq y t with
   | true=>trivial
   | false=>
    rw[p]at b;obtain⟨i,cs2,r,j,d,n⟩:=b;exact⟨i,cs2,r,j,qm d,n⟩
def bo.toP{c:af}{k:Kd}{b:List C}{d:World}(h:bo w0 M S0 N c φ1 (updH F t k b) a d)(e:bo w0 M S0 N S φ F a w)(f:F t=.H k cs)(g:b.length=cs.length):bo w0 M S0 N c φ1 (Rm F t k b) a d:=by
 cases k with
 | box=>exact h
 | _=>exact h.toN e (λ_=>rfl) f g
def bo.taken(h:bo w0 M S0 N S φ F a w){y:Operand}{K:(Nat->AV)->Option Nat->List C->Prop}(f:ij F y K) :
  ∃F' ag cs V φ',K F' ag cs/\bo w0 M S0 N S φ' F' a w/\cb w S V ag cs (a.eval y)/\(∀b o,V b o->(∀t,¬φ' t b o)/\¬S b o/\b<w.heap.size/\(w0.heap.size<=b\/M b o))/\(∀t b o,φ' t b o->φ t b o)/\(∀b o,V b o->∃t,φ t b o):=by
 cases y with
 | tmp t=>
  have D:=h.slot t;simp only[ij]at f;have fin:∀(e c n:Nat)(k:Kd)(cs:List C),F e=.H k cs->c+n<=cs.length->∀(ag:Option Nat),ag.getD 1=n->(a.eval (.tmp t)=mkv ag λj=>cr w k (tvs a e) (c+j))->
    K (updH F e k (splice cs c (List.replicate n .x))) ag (bz cs c n)->
    ∃F' ag cs V φ',K F' ag cs/\bo w0 M S0 N S φ' F' a w/\cb w S V ag cs (a.eval (.tmp t))/\(∀b o,V b o->(∀t,¬φ' t b o)/\¬S b o/\b<w.heap.size/\(w0.heap.size<=b\/M b o))/\(∀t b o,φ' t b o->φ t b o)/\(∀b o,V b o->∃t,φ t b o):=by
   intro e c n k cs p E ag J G H;obtain⟨V,X,i,A,L,B,q⟩:=h.take p E;refine⟨_,ag,_,V,_,H,q,⟨by simp[bz];omega,_,G,B⟩,λb o d=>⟨λu g=>?_,h.disS e b o (i b o d),h.ex e b o (i b o d)⟩,λu b o d=>?_,λb o d=>⟨e,i b o d⟩⟩
   ·by_cases l:u=e
    ·rw[CD l]at g;exact A b o d g
    rw[CB l]at g;exact h.dis u e l b o g (i b o d)
   by_cases l:u=e
   ·subst l;rw[CD rfl]at d;exact L b o d
   rw[CB l]at d;exact d
  have vZ:∀(e c n:Nat)(k:Kd)(cs:List C),F e=.H k cs->c+n<=cs.length->∀(ag:Option Nat),ag.getD 1=n->(a.eval (.tmp t)=mkv ag λj=>cr w k (tvs a e) (c+j))->
    K (updN F e k (splice cs c (List.replicate n .x))) ag (bz cs c n)->
    ∃F' ag cs V φ',K F' ag cs/\bo w0 M S0 N S φ' F' a w/\cb w S V ag cs (a.eval (.tmp t))/\(∀b o,V b o->(∀t,¬φ' t b o)/\¬S b o/\b<w.heap.size/\(w0.heap.size<=b\/M b o))/\(∀t b o,φ' t b o->φ t b o)/\(∀b o,V b o->∃t,φ t b o):=by
   intro e c n k cs p E ag J G H;obtain⟨V,X,i,A,L,B,q⟩:=h.take p E;refine⟨_,ag,_,V,_,H,q.toN h (λ_=>rfl) p (by simp[splice];omega),⟨by simp[bz];omega,_,G,B⟩,λb o d=>⟨λu g=>?_,h.disS e b o (i b o d),h.ex e b o (i b o d)⟩,λu b o d=>?_,λb o d=>⟨e,i b o d⟩⟩
   ·by_cases l:u=e
    ·rw[CD l]at g;exact A b o d g
    rw[CB l]at g;exact h.dis u e l b o g (i b o d)
   by_cases l:u=e
   ·subst l;rw[CD rfl]at d;exact L b o d
   rw[CB l]at d;exact d
  cases p:F t with
  | H k cs=>
   rw[p]at f D;obtain⟨X1,Y,-,-,-,q,-⟩:=D;cases k with
   | one=>
    have E:cs.length=1:=q;refine fin t 0 cs.length .one cs p ω none (by simp[E]) rfl ?_;rw[show bz cs 0 cs.length=cs by simp[bz]];exact f
   | agg=>
    obtain⟨arr,G,O⟩:=q;refine fin t 0 cs.length .agg cs p ω (some cs.length) rfl ?_ ?_
    ·show tvs a t=_
     rw[G];have:=qu arr;rw[O]at this;exact this.trans (iU λj _=>by simp[cr,Value.cells])
    rw[show bz cs 0 cs.length=cs by simp[bz]];exact f
   | _=>exact f.elim
  | c2 e c P ag=>
   rw[p]at f D;cases P with
   | cons s P=>
    simp only at f;obtain⟨k,cs,r,j,i,A,B,q⟩:=D;rw[i]at f;simp only at f;obtain⟨r',j',Q,R,T,H⟩:=Lq.out f;obtain⟨V,φ',U,W,Z,g4,g5⟩:=h.lend i Q R T;exact⟨_,ag,_,V,φ',H,W.toN h (λ_=>rfl) i (AF ..),⟨by simp[bz];omega,_,q,U⟩,Z,g4,λb o d=>⟨e,g5 b o d⟩⟩
   | nil=>
    simp only at f;obtain⟨k,cs,r,j,i,A,B,q⟩:=D;rw[i]at f;simp only[cn,C1,Prod.mk.injEq]at A;obtain⟨rfl,rfl⟩:=A;simp only at f;cases d:Nat.ble (c+ag.getD 1) cs.length with
    | false=>rw[d]at f;exact f.elim
    | true=>
     rw[d]at f;exact vZ e c (ag.getD 1) k cs i B ag rfl (q.trans rfl) f
  | _=>rw[p]at f;exact f.elim
 | _=>exact f.elim
variable{K:(Nat->AV)->Prop}{v:Value}{d:Nat}
def bo.putD_new(h:bo w0 M S0 N S φ F a w){av:AV}(e:mi w S F a av v w1)(b:bS N F d av K):∃F',K F'/\St w0 M S0 N F' (a.put (some d) v) w1:=by
 unfold bS at b;cases c:(N.free d&&!av.uses d) with
 | false=>rw[c]at b;exact b.elim
 | true=>
  rw[c]at b;simp only[I0,Bool.not_eq_true']at c;exact⟨_,b,h.put_newR c.1 e c.2⟩
variable{ag:Option Nat}
def bo.putD_taken{φ':Nat->af}{F':Nat->AV}(h:bo w0 M S0 N S φ' F' a w){V:af}(j:cb w S V ag cs v)(g:∀b o,V b o->(∀t,¬φ' t b o)/\¬S b o/\b<w.heap.size/\(w0.heap.size<=b\/M b o))(c:bS N F' d (.H (mh ag) cs) K):∃i,K i/\St w0 M S0 N i (a.put (some d) v) w:=by
 unfold bS at c;cases e:(N.free d&&!(AV.H (mh ag) cs).uses d) with
 | false=>rw[e]at c;exact c.elim
 | true=>
  rw[e]at c;simp only[I0,Bool.not_eq_true']at e;exact⟨_,c,S,_,h.put_gen (Cb _ _) e.1 j.slot e.2 (λb o f=>(g b o f).2.2) (λt _ b o f=>(g b o f).1 t) (λb o f=>(g b o f).2.1)⟩
variable{x:Operand}
def bo.assign(h:bo w0 M S0 N S φ F a w)(b:lv N F d x K):∃F',K F'/\St w0 M S0 N F' (a.put (some d) (a.eval x)) w:=by
 have e:bu F x (λn=>bS N F d n K)->∃F',K F'/\St w0 M S0 N F' (a.put (some d) (a.eval x)) w:=λj=>by
  obtain⟨n,k,p⟩:=h.move j;exact h.putD_new (mi.same p) k
 have l:ij F x (λF' o i=>bS N F' d (.H (mh o) i) K)->∃F',K F'/\St w0 M S0 N F' (a.put (some d) (a.eval x)) w:=λj=>by
  obtain⟨F',o,i,V,φ',k,q,r,u,-⟩:=h.taken j;exact q.putD_taken r u k
 cases x with
 | tmp t=>
  simp only[lv]at b;split at b
  ·cases c:N.al d with
   | true=>rw[c]at b;exact e b
   | false=>rw[c]at b;exact l b
  ·rename_i i _
   cases c:aZ i with
   | true=>rw[c]at b;exact e b
   | false=>rw[c]at b;exact l b
  ·rename_i i _
   cases c:aZ i with
   | true=>rw[c]at b;exact e b
   | false=>rw[c]at b;exact l b
  exact e b
 | const v=>exact e b
 | global g=>exact e b
 | func f=>exact e b
variable{T:Nat}
def bo.storeSt(h:bo w0 M S0 N S φ F a w){k:Kd}{B r:List C}{off j:Nat}{st:cM}(hF:F t=.H k B)(G:st≠[])(hr:cn B off st=some (r,j))(ho:kU B off st)(X:j+cs.length<=r.length){V:af}{u:Nat->Value}(i:dn w S V cs u)(D:Free w0 M S φ w V)(H:(P.info? T).map (·.size)=some cs.length)(J:v.cells.toList=(List.range cs.length).map u){g o:Nat}(K:plc w (cr w k (tvs a t)) (oX k (tvs a t)) off st=some (g,o)) :
  ∃w1,(Instr.storeAt T (.pointer (some ⟨g,o,none⟩)) v).run P w=.ok () w1/\St w0 M S0 N (updH F t k (gl B off st (splice r j cs))) a w1:=by
 obtain⟨f,b,u',Y,Z,e2,e3,e4,p,e6⟩:=h.focus hF G hr ho;rw[e4]at K;simp only[C1,Prod.mk.injEq]at K;obtain⟨rfl,rfl⟩:=K;have L:v.cells.toList.length=cs.length:=by rw[J];simp
 have O:v.cells.size=cs.length:=by simpa using L
 have n:∀d,d<cs.length->(∃z,cel w f (b+j+d)=some z)/\fro w f (b+j+d)=NF:=λd e=>by
  obtain⟨-,-,a3,a4⟩:=p (j+d) ω;rw[Nat.add_assoc];exact⟨⟨_,a3⟩,a4⟩
 have q:∀x∈v.cells.toList,x.oneCell'=true:=λx c=>by
  rw[J]at c;obtain⟨d,e,rfl⟩:=Z4.1 c;exact i.one (List.mem_range.1 e)
 have l:=run_storeCells_cells (P:=P) f (b+j) v.cells.toList 0 w (λd e=>by obtain⟨z,hz⟩:=(n d ω).1;simp only[Nat.add_zero];show(cel w f (b+j+d)).isSome=true;rw[hz];rfl)
  (λd e=>by simp only[Nat.add_zero];exact Z0 Prod.fst (n d ω).2) q
 simp only[Nat.add_zero]at l;have E:bZ (λx o=>x=f/\b+j<=o/\o<b+j+cs.length) w (w.setCells f (b+j) v.cells.toList):=pw _ _ _ λd e=>⟨rfl,ω,ω⟩
 have Q:∀d,d<cs.length->v.cells.toList[d]? = some (u d):=λd e=>by rw[J,X3,X7 e];rfl
 have y:bq S w (w.setCells f (b+j) v.cells.toList):=λx o c=>⟨E.cel x o (h.sup x o c).1 (λA=>by
   have:=(p (o - b) ω).1;rw[show b+(o - b)=o by omega,<-A.1]at this;exact h.disS t x o this c),fm _ _ _ _ _ _⟩
 have R:bq Y w (w.setCells f (b+j) v.cells.toList):=λx o c=>⟨E.cel x o (h.ex t x o (Z x o c)).1 (λA=>by
   have:=(p (o - b) ω).2.1;rw[show b+(o - b)=o by omega,<-A.1]at this;exact this c),fm _ _ _ _ _ _⟩
 have U:bq V w (w.setCells f (b+j) v.cells.toList):=λx o c=>⟨E.cel x o (D x o c).2.2.1 (λA=>by
   have:=(p (o - b) ω).1;rw[show b+(o - b)=o by omega,<-A.1]at this;exact(D x o c).1 t this),fm _ _ _ _ _ _⟩
 refine⟨_,by simp[Instr.storeAt,Instr.sureAddr,storeVar,kr H,O,l],S,_,e6 _ (splice r j cs) (λd=>if j<=d/\d<j+cs.length then u (d - j) else u' d) (λx o=>Y x o\/V x o) _ E (λx o c=>.inr ⟨c.1,ω,ω⟩) (λd e=>⟨?_,by rw[fm];exact(p d e).2.2.2⟩) (cC X) ((e2.keep y R).join (i.keep y U) X (λx o c W=>(D x o W).1 t (Z x o c))) (λx o c=>c.imp id (D x o))⟩;by_cases hq:j<=d/\d<j+cs.length
 ·rw[CD hq]
  have:=kO (w:=w) (g:=f) (o:=b+j) (vs:=v.cells.toList) (λd e=>(n d ω).1) (Q (d - j) ω);rw[show b+j+(d - j)=b+d by omega]at this;exact this
 rw[CB hq,ia ω];exact(p d e).2.2.1
def bo.putB(h:bo w0 M S0 N S φ F a w){V:af}(L:cb w S V ag cs v)(A:∀b o,V b o->(∀t,¬φ t b o)/\¬S b o/\b<w.heap.size/\(w0.heap.size<=b\/M b o))(f:(P.info? T).map (·.size)=some cs.length)(c:rg F x cs K) :
  ∃F' w1,K F'/\(Instr.storeAt T (a.eval x) v).run P w=.ok () w1/\St w0 M S0 N F' a w1:=by
 obtain⟨u,B,D⟩:=L.cells;cases x with
 | tmp E=>
  have n:=h.slot E;show ∃F' w1,K F'/\(Instr.storeAt T (tvs a E) v).run P w=.ok () w1/\_
  simp only[rg]at c;cases y:F E with
  | H k O=>
   rw[y]at c n;cases k with
   | box=>
    simp only at c;cases i:Nat.ble cs.length O.length with
    | false=>rw[i]at c;exact c.elim
    | true=>
     rw[i]at c;simp only[cond_true,d3]at c;obtain⟨X1,Y,-,-,-,⟨g,o,p,-⟩,-⟩:=n;obtain⟨w1,d,e⟩:=h.store (P:=P) y (off:=0) (by simpa using O1 i) D A f B (g:=g) (o:=o) (by rw[p];rfl);exact⟨_,w1,c,by rw[p];exact d,e⟩
   | _=>exact c.elim
  | ref t off J=>
   rw[y]at c n;cases J with
   | cons s J=>
    simp only at c;obtain⟨k,q,r,j,g,o,l,Q,G,H⟩:=n;rw[l]at c;obtain⟨r',j',R,U,W,X⟩:=c.out;obtain⟨w1,d,Z,φ1,e⟩:=h.storeSt (P:=P) l (by simp) R U W D A f B G;exact⟨_,w1,X,by rw[H];exact d,Z,φ1,e.toP h l (AF ..)⟩
   | nil=>
    simp only at c;obtain⟨k,q,r,j,g,o,l,Q,G,H⟩:=n;rw[l]at c;cases k with
    | box=>
     simp only at c;cases i:Nat.ble (off+cs.length) q.length with
     | false=>rw[i]at c;exact c.elim
     | true=>
      rw[i]at c;simp only[cond_true,d3]at c;obtain⟨w1,d,e⟩:=h.store (P:=P) l (O1 i) D A f B G;exact⟨_,w1,c,by rw[H];exact d,e⟩
    | _=>exact c.elim
  | _=>rw[y]at c;exact c.elim
 | _=>exact c.elim
def bo.storeOp(h:bo w0 M S0 N S φ F a w)(g:∀t i,TE t=some i->bQ P t i){y:Operand}(f:mT TE F T x y K) :
  ∃F' w1,K F'/\(Instr.storeAt T (a.eval x) (a.eval y)).run P w=.ok () w1/\St w0 M S0 N F' a w1:=by
 unfold mT at f;split at f
 case h_2=>exact f.elim
 rename_i i p;have e:=(g _ _ p).size;obtain⟨B,o,Y,b,q,-⟩:=h.val (h.ev y) f;cases j:Nat.beq o.length i.size with
 | false=>rw[j]at b;exact b.elim
 | true=>
  rw[j]at b;simp only[cond_true]at b;cases k:aZ o with
  | true=>
   rw[k]at b;exact h.putB (V:=NO) (q.bare k) (λ_ _ h=>h.elim) (by rw[e,O2 j]) b
  | false=>
   rw[k]at b;simp only[cond_false]at b;obtain⟨F',r,l,V,φ',c,u,n,A,-⟩:=h.taken b;cases d:Nat.beq l.length i.size with
   | false=>rw[d]at c;exact c.elim
   | true=>
    rw[d]at c;exact u.putB n A (by rw[e,O2 d]) c
end
def vK(F:Nat->AV)(x:Operand)(K:(Nat->AV)->Option Nat->List C->Prop):Prop:=iO F (n8 F x) λb a=>bif aZ a then K F b a else ij F x K
def fillW(c:Nat->Option (Nat × Nat)):List (Nat × Operand)->List C->((Nat->AV)->List C->Prop)->(Nat->AV)->Prop
 | [],a,K,F=>K F a
 | p::rest,a,K,F=>match c p.1 with
  | some q=>vK F p.2 λd _ xs=>bif Nat.beq xs.length q.2&&Nat.ble (q.1+q.2) a.length then fc (splice a q.1 xs) λb=>fillW c rest b K d else False
  | none=>False
def lf(TE:Nat->Option TI)(N:fD)(F:Nat->AV)(d T:Nat)(parts:List (Nat × Operand))(K:(Nat->AV)->Prop):Prop:=
 match TE T with
 | some ⟨_,_,zero,.st flds⟩=>bif yP TE flds then fillW (TZ TE flds) parts zero (λa b=>bS N a d (.H .agg b) K) F else False
 | _=>False
def gh(TE:Nat->Option TI)(N:fD)(F:Nat->AV)(d T n:Nat)(parts:List (Nat × Operand))(K:(Nat->AV)->Prop):Prop:=
 KF TE T λ_ b=>bif Nat.ble (n*b.size) 16777216 then(match n,parts with
   | 0,[]=>bS N F d (.H .one [.z]) K
   | n+1,parts=>fc (rep b.zero (n+1)) λe=>fillW (UK b.size) parts e (λf c=>UA b.size (n+1) c λa=>bS N f d (.H .one [.s .own a]) K) F
   | _,_=>False) else False
def Qi(N:fD)(F:Nat->AV)(d:Nat)(x:Operand)(K:(Nat->AV)->Prop):Prop:=vK F x λa _ b=>bS N a d (.H .box b) K
inductive Ap(flat:Bool)(rows xr:List (List C))(sz by_:Nat)(K:List (List C)->Prop):Prop
 |mk_ (h:(∀r∈rows,r.length=sz)/\(∀r∈xr,r.length=sz)/\(flat=true->∀r∈xr,aZ r=true)/\rows.length+xr.length<=140737488355328/\(rows.length+xr.length)*by_<=140737488355328/\∃rs,rs=rows++xr/\K rs)
variable{xr:List (List C)}{flat:Bool}
def Ap.mk{a:List (List C)}{sz by_:Nat}{K:List (List C)->Prop}(h1:∀r∈rows,r.length=sz)(b:∀r∈xr,r.length=sz)(c:flat=true->∀r∈xr,aZ r=true)(d:rows.length+xr.length<=140737488355328)(e:(rows.length+xr.length)*by_<=140737488355328)(f:a=rows++xr)(g:K a):Ap flat rows xr sz by_ K:=by refine .mk_ ?_;exact⟨h1,b,c,d,e,a,f,g⟩
def CU:type_of% @Ap.mk:=@Ap.mk
def Ap.out{sz by_:Nat}{K:List (List C)->Prop}(h:Ap flat rows xr sz by_ K) :
  (∀r∈rows,r.length=sz)/\(∀r∈xr,r.length=sz)/\(flat=true->∀r∈xr,aZ r=true)/\rows.length+xr.length<=140737488355328/\(rows.length+xr.length)*by_<=140737488355328/\K (rows++xr):=by
 obtain⟨h⟩:=h;obtain⟨a,b,c,d,e,g,rfl,f⟩:=h;exact⟨a,b,c,d,e,f⟩
def Et(F:Nat->AV)(y:Operand)(K:Bool->(Nat->AV)->List (List C)->Prop):Prop:=
 match n8 F y with
 | .H .one [.s .own _]=>ij F y λc a b=>match a,b with|none,[.s .own rows]=>K false c rows|_,_=>False
 | d=>iO F d λa b=>match a,b with
  | none,[.s _ rows]=>K true F rows
  | none,[.z]=>K true F []
  | _,_=>False
def Ax(F:Nat->AV)(x:Operand)(K:(Nat->AV)->List (List C)->Prop):Prop:=
 iO F (n8 F x) λa b=>match a,b with
  | none,[.z]=>K F []
  | none,[.s .own _]=>ij F x λc a b=>match a,b with|none,[.s .own rows]=>K c rows|_,_=>False
  | _,_=>False
def Bi(TE:Nat->Option TI)(N:fD)(F:Nat->AV)(d T:Nat)(x y:Operand)(K:(Nat->AV)->Prop):Prop:=
 KF TE T λ_ b=>Et F y λc e f=>Ax e x λF'' a=>Ap c a f b.size b.bytes λg=>bS N F'' d (.H .one [.s .own g]) K
section
variable{P:Program}{w0 w w1:World}{M S0 S:af}{N:fD}{φ:Nat->af}{F:Nat->AV}{a:Act}{TE:Nat->Option TI}
variable{x:Operand}
def bo.give(h:bo w0 M S0 N S φ F a w){K:(Nat->AV)->Option Nat->List C->Prop}(e:vK F x K) :
  ∃F' ag cs V φ',K F' ag cs/\bo w0 M S0 N S φ' F' a w/\cb w S V ag cs (a.eval x)/\Free w0 M S φ' w V/\(∀t b o,φ' t b o->φ t b o)/\(∀b o,V b o->∃t,φ t b o):=by
 obtain⟨ag,cs,Y,c,f,-⟩:=h.val (h.ev x) e;cases d:aZ cs with
 | true=>rw[d]at c;exact⟨F,ag,cs,NO,φ,c,h,f.bare d,λ_ _ h=>h.elim,λ_ _ _ h=>h,λ_ _ h=>h.elim⟩
 | false=>rw[d]at c;exact h.taken c
def bo.fillW{E:Nat->Option (Nat × Nat)} : ∀{parts:List (Nat × Operand)}{cs:List C}{K:(Nat->AV)->List C->Prop}{F:Nat->AV}{φ:Nat->af}{u:Nat->Value}{cells:Array Value}{Y:af},bo w0 M S0 N S φ F a w->Ab.fillW E parts cs K F->dn w S Y cs u->Free w0 M S φ w Y->
  cells.toList=(List.range cs.length).map u->
  ∃F' φ' c g cells' i,K F' c/\bo w0 M S0 N S φ' F' a w/\c.length=cs.length/\dn w S i c g/\Free w0 M S φ' w i/\Instr.fill E cells (parts.map λp=>(p.1,a.eval p.2))=some cells'/\cells'.toList=(List.range c.length).map g
 | [],cs,K,F,φ,u,cells,Y,h,e,k,j,l=>⟨F,φ,cs,u,cells,Y,e,h,rfl,k,j,rfl,l⟩
 | p::rest,cs,K,F,φ,u,cells,Y,h,e,k,j,l=>by
  simp only[Ab.fillW]at e;split at e
  case h_2=>exact e.elim
  rename_i q G;obtain⟨F',ag,xs,V,φ',f,H,J,L,O,n⟩:=h.give e;cases d:(Nat.beq xs.length q.2&&Nat.ble (q.1+q.2) cs.length) with
  | false=>rw[d]at f;exact f.elim
  | true=>
   rw[d]at f;simp only[I0]at d;have P:=O2 d.1;have Q:=O1 d.2;simp only[cond_true,d3]at f;obtain⟨u2,r,y⟩:=J.cells;obtain⟨cells1,R,A⟩:=Bg (rest:=rest.map λp=>(p.1,a.eval p.2)) G l r P Q;have B:=k.join y (off:=q.1) ω (λb o d D=>by obtain⟨t,T⟩:=n b o D;exact(j b o d).1 t T);obtain⟨U,φ2,c,g,cells',i,W,X,Z,e4,e5,e6,e7⟩:=bo.fillW H f B ((j.less O).or L) A;exact⟨U,φ2,c,g,cells',i,W,X,by rw[Z,cC ω],e4,e5,by rw[Y6,R];exact e6,e7⟩
variable{K:(Nat->AV)->Prop}{d:Nat}
def bo.putD_free(h:bo w0 M S0 N S φ F a w){k:Kd}{cs:List C}{v:Value}{X:af}(j:cS w S F (tvs a) X (.H k cs) v)(g:Free w0 M S φ w X)(c:bS N F d (.H k cs) K) :
  ∃i,K i/\St w0 M S0 N i (a.put (some d) v) w:=by
 unfold bS at c;cases e:(N.free d&&!(AV.H k cs).uses d) with
 | false=>rw[e]at c;exact c.elim
 | true=>
  rw[e]at c;simp only[I0,Bool.not_eq_true']at e;exact⟨_,c,S,_,h.put_gen (Cb _ _) e.1 j e.2 (λb o f=>(g b o f).2.2) (λt _ b o f=>(g b o f).1 t) (λb o f=>(g b o f).2.1)⟩
def Jo{zero:List C}{cells:Array Value}(b:cells.toList=zero.map cval):cells.toList=(List.range zero.length).map (λj=>(zero.map cval).getD j undef):=by
 rw[b];apply List.ext_getElem?;intro j;rw[X3,X3];by_cases a:j<zero.length
 ·rw[X7 a,W2 a];simp[List.getD,a]
 rw[Z2 ω,Z2 (by simp;omega)];rfl
variable{parts:Array (Nat × Operand)}{T:Nat}
def bo.buildW(h:bo w0 M S0 N S φ F a w)(e:∀t i,TE t=some i->bQ P t i)(b:lf TE N F d T parts.toList K) :
  ∃v F',K F'/\(Instr.build T (parts.map λ(i,x)=>(i,a.eval x))).run P w=.ok v w/\St w0 M S0 N F' (a.put (some d) v) w:=by
 unfold lf at b;split at b
 case h_2=>exact b.elim
 rename_i size bytes zero flds l;cases g:yP TE flds with
 | false=>rw[g]at b;exact b.elim
 | true=>
  rw[g]at b;have j:=(e _ _ l).2.1;obtain⟨F',φ',c,o,cells',p,q,r,G,u,y,A,n⟩:=bo.fillW h b (pB j S) (λ_ _ h=>h.elim) (Jo (cells:=(zero.map cval).toArray) (by simp));have B:cells'.size=c.length:=by have:=Z0 List.length n;simpa using this
  have f:cb w S p (some c.length) c (.agg cells'):=⟨rfl,o,by simp only[mkv];congr 1;apply Array.ext';rw[n],u⟩
  obtain⟨C,D,k⟩:=r.putD_free f.slot y q;refine⟨.agg cells',C,D,xt e l g λcells E=>?_,k⟩;have:cells=(zero.map cval).toArray:=by apply Array.ext';simpa using E
  rw[this,Array.toList_map];exact A
def bo.buildSW(h:bo w0 M S0 N S φ F a w)(y:∀t i,TE t=some i->bQ P t i){n:Nat}(V:gh TE N F d T n parts.toList K) :
  ∃v w1 F',K F'/\(Instr.buildSlice T n (parts.map λ(i,x)=>(i,a.eval x))).run P w=.ok v w1/\St w0 M S0 N F' (a.put (some d) v) w1:=by
 obtain⟨e,u,q,z,f,he,J,A,L,l,O,W,B,g,Y,Z⟩:=lW y V;cases c:Nat.ble (n*u.size) 16777216 with
 | false=>rw[c]at f;exact f.elim
 | true=>
  rw[c]at f;have C:=O1 c;simp only[cond_true]at f;split at f
  ·rename_i hparts
   have:parts = #[]:=by apply Array.ext';simpa using hparts
   subst this;have D:=h.world (w1:=w.alloc (.cells #[] e)) (dl w _) (λ_ _ h=>h.elim);obtain⟨E,j,k⟩:=D.putD_free (X:=NO) (v:=.slice (some ⟨w.heap.size,0,none⟩) 0 0) (gz (.z _ _)) (λ_ _ h=>h.elim) f;exact⟨_,_,E,j,by rw[Array.map_empty];exact ve J O,k⟩
  ·rename_i n
   rw[Nat.succ_eq_add_one]at C;rw[d3]at f;obtain⟨F',φ',G,u',cells',Y',Q,p,e3,e4,R,U,e7⟩:=bo.fillW h f (uX A.2.1 S _) (λ_ _ h=>h.elim) (pD B ω (rep u.zero (n+1)).length);rw[pY]at Q;have H:G.length=(n+1)*u.size:=by rw[e3,nL,L]
   have D:=p.world (w1:=w.alloc (.cells cells' e)) (dl w _) (λ_ _ h=>h.elim);have r:=za (e:=e) e4 H ω e7 (λb o c=>(p.sup b o c).1) (λb o c=>(R b o c).2.2.1);obtain⟨E,j,k⟩:=D.putD_free (gz r) (λb o c=>by
     rcases c with c|c
     · obtain⟨a1,a2,a3,a4⟩:=R b o c
       exact⟨a1,a2,by rw[gc];omega,a4⟩
     exact⟨λt A=>by have:=(p.ex t b o A).1;omega,λhS=>by have:=(p.sup b o hS).1;omega,c.2,.inl (O5 p.old.size c.1)⟩) Q
   refine⟨_,_,E,j,run_buildSlice w T e (n+1) _ cells' q z J O W (by rw[g];omega) (by rw[g];have:0<(n+1)*u.size:=Nat.mul_pos ω l;omega) ?_,k⟩;rw[g,Array.toList_map];rw[nL,L]at U;exact U
  exact f.elim
def bo.boxW(h:bo w0 M S0 N S φ F a w)(y:Qi N F d x K) :
  ∃v w1 F',K F'/\(Instr.box T (a.eval x)).run P w=.ok v w1/\St w0 M S0 N F' (a.put (some d) v) w1:=by
 obtain⟨A,W,cs,V,φ',B,g,C,q,Y,D⟩:=h.give y;obtain⟨u,r,E⟩:=C.cells;have G:(a.eval x).cells.size=cs.length:=by have:=Z0 List.length r;simpa using this
 have H:=g.world (w1:=w.alloc (.cells (a.eval x).cells T)) (dl w _) (λ_ _ h=>h.elim);have c:∀j,j<cs.length->cel (w.alloc (.cells (a.eval x).cells T)) w.heap.size j=some (u j):=λj i=>by
  rw[iz,<-Array.getElem?_toList,r,X3,X7 i];rfl
 have f:∀b o,V b o->b<w.heap.size:=λb o e=>(q b o e).2.2.1
 obtain⟨J,l,n⟩:=H.putD_free (X:=λb o=>V b o\/(b=w.heap.size/\o<cs.length)) (k:=.box) (cs:=cs) (v:=.pointer (some ⟨w.heap.size,0,none⟩)) (F:=A) ⟨λb o=>b=w.heap.size/\o<cs.length,V,λ_ _ h=>.inr h,λ_ _ h=>.inl h,λb o e p=>by have:=f b o p;omega,
   ⟨_,_,rfl,λj i=>⟨⟨rfl,ω⟩,by rw[Y7];exact⟨_,c j i⟩,by rw[Y7,jW]⟩⟩,(E.keep (iK (dl w _) λb o e=>(g.sup b o e).1) (iK (dl w _) f)).congr λj i=>by simp only[cr,Y7,c j i,Option.getD_some]⟩ (λb o e=>by
   rcases e with e|e
   · obtain⟨L,O,Z,Q⟩:=q b o e
     exact⟨L,O,by rw[gc];omega,Q⟩
   exact⟨λt R=>by have:=(g.ex t b o R).1;omega,λU=>by have:=(g.sup b o U).1;omega,by rw[gc];omega,.inl (by rw[e.1];exact g.old.size)⟩) B
 exact⟨_,_,J,l,by simp[Instr.box,newVar,newRow],n⟩
def bo.src(h:bo w0 M S0 N S φ F a w){y:Operand}{sz:Nat}{K:Bool->(Nat->AV)->List (List C)->Prop}(A:Et F y K) :
  ∃Q F' xr φ',K Q F' xr/\bo w0 M S0 N S φ' F' a w/\(∀t b o,φ' t b o->φ t b o)/\((∀r∈xr,r.length=sz)->(Q=true->∀r∈xr,aZ r=true)->
    ∃b c R X V,a.eval y=.slice b xr.length c/\pP w b (xr.length*sz) ((List.range (xr.length*sz)).map R)/\Ex w S V xr sz R X/\Free w0 M S φ' w V/\(∀b o,V b o->∃t,φ t b o)):=by
 unfold Et at A;split at A
 ·obtain⟨F',D,E,V,φ',l,Z,B,hV,hs,G⟩:=h.taken A
  match D,E,l with
  | none,[.s .own d],l=>
   refine⟨false,F',d,φ',l,Z,hs,λH _=>?_⟩;rcases B.rep1.els (by simp) H with⟨rfl,a0,e⟩|⟨g,J,u,f,e,T,U,L,hu,hE⟩
   ·exact⟨a0,0,λ_=>undef,λ_=>NO,NO,e,⟨by simp,λ_=>by simp,λW j u _ k=>by simp at k⟩,⟨λr n=>(by cases n),λ_ _ _ _ h=>h.elim,λ_ _ _ _ _ _ _ h=>h.elim,λi j r c O=>(by simp at O)⟩,λ_ _ h=>h.elim,λ_ _ h=>h.elim⟩
   refine⟨_,J,u,f,_,e,⟨by simp,λh=>(by cases h),λW j y P k=>?_⟩,hE,λb o p=>hV b o p.1,λb o p=>G b o p.1⟩;cases P;rw[X3]at k;have q:j<d.length*sz:=by
    rcases Nat.lt_or_ge j (d.length*sz) with h|h
    ·exact h
    rw[Z2 (by simpa using h)]at k;cases k
   rw[X7 q]at k;simp only[Z5,C1]at k;subst k;rw[kq,Y7];exact hu j q
 obtain⟨D,E,Y,l,B,-⟩:=h.val (h.ev y) A
 match D,E,l with
 | none,[.s o d],l=>
  refine⟨true,F,d,φ,l,h,λ_ _ _ h=>h,λH hn=>?_⟩;obtain⟨b,c,u,e1,e2,e3⟩:=B.rep1.flat (λr n=>⟨H r n,hn rfl r n⟩);exact⟨b,c,u,_,NO,e1,e2,e3,λ_ _ h=>h.elim,λ_ _ h=>h.elim⟩
 | none,[.z],l=>
  obtain⟨b,p⟩:=wX B.rep1;exact⟨true,F,[],φ,l,h,λ_ _ _ h=>h,λ_ _=>⟨b,0,λ_=>undef,λ_=>NO,NO,p,⟨by simp,λ_=>by simp,λW j u _ k=>by simp at k⟩,⟨λr n=>(by cases n),λ_ _ _ _ h=>h.elim,λ_ _ _ _ _ _ _ h=>h.elim,λi j r c O=>(by simp at O)⟩,λ_ _ h=>h.elim,λ_ _ h=>h.elim⟩⟩
def bo.base(h:bo w0 M S0 N S φ F a w){K:(Nat->AV)->List (List C)->Prop}(i:Ax F x K) :
  ∃F' rows φ' V,K F' rows/\bo w0 M S0 N S φ' F' a w/\(∀t b o,φ' t b o->φ t b o)/\eY w S V (.s .own rows) (a.eval x)/\Free w0 M S φ' w V/\(∀b o,V b o->∃t,φ t b o):=by
 obtain⟨d,e,Y,c,f,-⟩:=h.val (h.ev x) i
 match d,e,c with
 | none,[.z],c=>
  obtain⟨b,j⟩:=wX f.rep1;exact⟨F,[],φ,NO,c,h,λ_ _ _ h=>h,by rw[j];exact .nil _ _ _ trivial,λ_ _ h=>h.elim,λ_ _ h=>h.elim⟩
 | none,[.s .own _],c=>
  obtain⟨F',d,e,V,φ',c,k,f,l,n,g⟩:=h.taken c
  match d,e,c with
  | none,[.s .own rows],c=>exact⟨F',rows,φ',V,c,k,n,f.rep1,l,g⟩
def bo.appW(h:bo w0 M S0 N S φ F a w)(D:∀t i,TE t=some i->bQ P t i){ty:Nat}{y:Operand}(hp:Bi TE N F d T x y K) :
  ∃v w1 F',K F'/\(Builtin.append_ #[T,T] ty #[a.eval x,a.eval y]).run P w=.ok v w1/\St w0 M S0 N F' (a.put (some d) v) w1:=by
 obtain⟨e,ie,q,z,g,he,hu,n,hl,hpos,hi,hz,E,p,G,H⟩:=lW D hp;obtain⟨fl,F1,xr,φ1,g,s1,hs1,r⟩:=h.src (sz:=ie.size) g;obtain⟨F2,rows,φ2,V,g,u,J,A,C,L⟩:=s1.base g;obtain⟨h1,h2,h3,h4,h5,g⟩:=g.out;obtain⟨b,c,u2,f2,V2,hy,hR,hE,j,hVt2⟩:=r h2 h3;have O:∀x∈z.cells.toList,x.oneCell'=true:=by rw[E];exact Gp n.2.1
 rw[<-p]at hR hE;obtain⟨v',w',B,k,l⟩:=xB (P:=P) (ty:=ty) (c:=c) hu hi hz H O A (by rw[p];exact h1) hE hR (λb o f Q=>by obtain⟨t,n⟩:=L b o f;exact(j b o Q).1 t n) (λb o f=>(C b o f).2.1) (λb o f=>(C b o f).2.2.1)
  (λb o f=>(j b o f).2.2.1) (λb o f=>(u.sup b o f).1) h4 (by rw[G];exact h5)
 have s3:=u.world k C;obtain⟨F3,R,U⟩:=s3.putD_free (gz l) (λb o f=>by
   rcases f with f|f|f
   · obtain⟨W,X,Y,Z⟩:=C b o f
     exact⟨W,X,C4 Y k.size,Z⟩
   · obtain⟨W,X,Y,Z⟩:=(j.less J) b o f
     exact⟨W,X,C4 Y k.size,Z⟩
   exact⟨λt n=>by have:=(u.ex t b o n).1;omega,λhS=>by have:=(u.sup b o hS).1;omega,f.2,.inl (O5 u.old.size f.1)⟩) g
 exact⟨v',w',F3,R,by rw[hy];exact B,U⟩
end
inductive MA where
 |val (ag:Option Nat) (cs:List C)
 |mut (ag:Option Nat) (cs:List C)
 |ptr (cs:List C)
def qD(w:World)(S V:af):MA->Value->Prop
 | .val ag cs,v=>cb w S NO ag cs v
 | .mut ag cs,v=>cb w S V ag cs v
 | .ptr cs,v=>∃a Y:af,(∀b o,a b o->V b o)/\(∀b o,Y b o->V b o)/\(∀b o,a b o->¬Y b o)/\gu w a .box cs.length v/\dn w S Y cs (cr w .box v)
def Qx(w:World)(S:af):(Nat->af)->List MA->List Value->Prop
 | _,[],[]=>True
 | V,m::ms,v::vs=>qD w S (V 0) m v/\Qx w S (λi=>V (i+1)) ms vs
 | _,_,_=>False
def Hy(w:World)(S V:af):MA->Value->Prop
 | .val _ _,_=>True
 | m,v=>qD w S V m v
def FD(w:World)(S:af):(Nat->af)->List MA->List Value->Prop
 | _,[],[]=>True
 | V,m::ms,v::vs=>Hy w S (V 0) m v/\FD w S (λi=>V (i+1)) ms vs
 | _,_,_=>False
structure aW(P:Program)(f:Nat)(sh:Bool)(A B:List MA)(k:Kd)(rcs:List C):Prop where
 has:MD P f
 run:∀(w:World)(S:af)(V:Nat->af)(vs:List Value),(∀b o,S b o->b<w.heap.size)->(∀i b o,V i b o->b<w.heap.size/\¬S b o)->(∀i i',i≠i'->∀b o,V i b o->¬V i' b o)->Qx w S V A vs->
  Calls P f vs.toArray w λe w1=>∃v,e=.returned v/\bZ (λb o=>∃i,V i b o) w w1/\∃(X:af)(V':Nat->af)(S1:af),
   (∀b o,X b o->(∃i,V i b o)\/(b<w1.heap.size/\w.heap.size<=b))/\(∀i b o,V' i b o->(∃i,V i b o)\/(b<w1.heap.size/\w.heap.size<=b))/\
   (∀b o,S1 b o->(sh=true/\S b o)\/(∃i,V i b o)\/(b<w1.heap.size/\w.heap.size<=b))/\
   (∀i i',i≠i'->∀b o,V' i b o->¬V' i' b o)/\(∀i b o,X b o->¬V' i b o)/\(∀b o,X b o->¬S1 b o)/\(∀i b o,V' i b o->¬S1 b o)/\
   gu w1 NO k rcs.length v/\dn w1 S1 X rcs (cr w1 k v)/\FD w1 (λb o=>S b o\/S1 b o) V' B vs
inductive rW where
 |no
 |at_ (t off:Nat) (st:cM)
 |box (t:Nat)
def lendAt(F:Nat->AV)(t off:Nat)(st:cM)(n:Nat)(K:(Nat->AV)->List C->Prop):Prop:=
 match F t with
 | .H k b=>(match st with
   | []=>bif Nat.ble (off+n) b.length then fc (bz b off n) λc=>fc (splice b off (List.replicate n .x)) λa=>K (updH F t k a) c else False
   | s::st=>Lq b off (s::st) n λc a=>K (updH F t k a) c)
 | _=>False
def lendP:List (Operand × Nat)->((Nat->AV)->List (MA × rW)->Prop)->(Nat->AV)->Prop
 | [],K,F=>K F []
 | (_,0)::xs,K,F=>lendP xs (λa l=>K a ((.val none [],.no)::l)) F
 | (x,1)::xs,K,F=>(match x with
   | .tmp s=>(match F s with
     | .H .one _=>lendAt F s 0 [] 1 λc b=>lendP xs (λa l=>K a ((.mut none b,.at_ s 0 [])::l)) c
     | .H .agg cs0=>lendAt F s 0 [] cs0.length λc b=>lendP xs (λa l=>K a ((.mut (some cs0.length) b,.at_ s 0 [])::l)) c
     | .c2 t off st ag=>lendAt F t off st (ag.getD 1) λc b=>lendP xs (λa l=>K a ((.mut ag b,.at_ t off st)::l)) c
     | _=>False)
   | _=>False)
 | (x,_+2)::xs,K,F=>(match x with
   | .tmp s=>(match F s with
     | .ref t 0 []=>(match F t with|.H .box b=>lendP xs (λa l=>K a ((.ptr b,.box t)::l)) (kill F t)|_=>False)
     | .H .box b=>lendP xs (λa l=>K a ((.ptr b,.box s)::l)) (kill F s)
     | _=>False)
   | _=>False)
def UJ:C->C
 | .s (.tag _) rows=>.s .own rows
 | c=>c
def Uk:List C->List C
 | []=>[]
 | c::cs=>UJ c::Uk cs
def Vj:MA->MA
 | .mut ag a=>.mut ag (Uk a)
 | m=>m
def UZ:C->C->C
 | .s (.tag z) _,.s .own rows=>.s (.tag z) rows
 | _,o=>o
def Qv:List C->List C->List C
 | c::cs,o::a=>UZ c o::Qv cs a
 | _,a=>a
def Vh:MA->List C
 | .val _ cs=>cs
 | .mut _ cs=>cs
 | .ptr cs=>cs
def Dq:∀(cs:List C),Uk cs=cs.map UJ
 | []=>rfl
 | c::cs=>by simp[Uk,Dq cs]
def sF:∀(cs a:List C),(Qv cs a).length=a.length
 | [],a=>by cases a<;>rfl
 | c::cs,[]=>rfl
 | c::cs,o::a=>by simp[Qv,sF cs a]
def KG:∀{cs a:List C}{j:Nat}{b:C},(Qv cs a)[j]? = some b->∃o,a[j]? = some o/\(b=o\/∃z r rows,cs[j]? = some (.s (.tag z) r)/\o=.s .own rows/\b=.s (.tag z) rows)
 | [],a,j,b,h=>by
  have:Qv [] a=a:=by cases a<;>rfl
  rw[this]at h;exact⟨b,h,.inl rfl⟩
 | c::cs,[],j,b,h=>by simp[Qv]at h
 | c::cs,o::a,0,b,h=>by
  simp only[Qv,List.getElem?_cons_zero,C1]at h;refine⟨o,rfl,?_⟩;unfold UZ at h;split at h
  ·rename_i z r rows
   exact .inr ⟨z,r,rows,rfl,rfl,h.symm⟩
  exact .inl h.symm
 | c::cs,o::a,j+1,b,h=>by
  simp only[Qv,List.getElem?_cons_succ]at h |-;exact KG h
variable{v:Value}{S Y:af}{w:World}
def eY.ut{c:C}(h:eY w S Y c v):eY w S Y (UJ c) v:=by
 cases c with
 | s o b=>
  cases o with
  | tag z=>
   cases h with
   | nil _ o a j=>exact .nil _ _ _ trivial
   | own _ o g k n i b u f j l p d e q r t y A=>exact .own _ _ g k n i b u f trivial l p d e q r t y A
  | _=>exact h
 | _=>exact h
def eY.tagOf{z:Value}(h:eY w S Y (.s (.tag z) rows) v):z=v:=by
 cases h with
 | nil _ o a b=>exact b
 | own _ o g k n e rows u f b i j c d l p q r t=>exact b
def eY.rt{z:Value}(h:eY w S Y (.s .own rows) v)(e:z=v):eY w S Y (.s (.tag z) rows) v:=by
 cases h with
 | nil _ o a i=>exact .nil _ _ _ e
 | own _ o g k n d rows u f i j l b c p q r t y=>exact .own _ _ g k n d rows u f e j l b c p q r t y
variable{u:Nat->Value}
def dn.ut(h:dn w S Y cs u):dn w S Y (Uk cs) u:=by
 obtain⟨f,e,g,i⟩:=h;rw[Dq];refine⟨f,λj c a=>?_,λj a=>g j (by simpa using a),λj k a b=>i j k (by simpa using a) (by simpa using b)⟩;rw[X3]at a;cases d:cs[j]? with
 | none=>rw[d]at a;cases a
 | some l=>
  rw[d]at a;simp only[Z5,C1]at a;subst a;exact(e j l d).ut
def dn.rt{w1:World}{S' q:af}{e:List C}{g:Nat->Value}(h:dn w S Y cs u)(h':dn w1 S' q e g)(y:∀d,d<e.length->g d=u d):dn w1 S' q (Qv cs e) g:=by
 obtain⟨f,A,G,H⟩:=h;obtain⟨B,a,i,k⟩:=h';refine⟨B,λj c b=>?_,λj b=>i j (by rwa [sF]at b),λj D b l=>k j D (by rwa [sF]at b) (by rwa [sF]at l)⟩;obtain⟨o,n,E⟩:=KG b;have p:=(X2.1 n).1;rcases E with rfl|⟨z,r,t,F,rfl,rfl⟩
 ·exact a j _ n
 exact(a j _ n).rt ((A j _ F).tagOf.trans (y j p).symm)
def valsP(F:Nat->AV):List (MA × rW)->List Operand->(Bool->List MA->Prop)->Prop
 | [],[],K=>K true []
 | (_,.no)::l,x::xs,K=>iO F (n8 F x) λc a=>valsP F l xs λb A=>bif aZ a then K b (.val c a::A) else K false (.val c (eH a)::A)
 | (m,.at_ _ _ _)::l,_::xs,K=>valsP F l xs λb A=>K b (Vj m::A)
 | (m,.box _)::l,_::xs,K=>valsP F l xs λb A=>K b (m::A)
 | _,_,_=>False
def setH(F:Nat->AV)(t:Nat)(av:AV):Nat->AV:=λs=>bif Nat.beq s t then av else F s
def rW.slot:rW->List Nat
 | .no=>[]
 | .at_ t _ _=>[t]
 | .box t=>[t]
def vw:List (MA × rW)->Bool
 | []=>true
 | q::l=>(q.2.slot.all λt=>l.all λa=>!a.2.slot.any (Nat.beq t))&&vw l
def im:List (MA × rW)->List MA->((Nat->AV)->Prop)->(Nat->AV)->Prop
 | [],[],K,F=>K F
 | (_,.no)::l,_::B,K,F=>im l B K F
 | (m,.at_ t a c)::l,.mut _ out::B,K,F=>(match F t with
   | .H k d=>(match c with
     | []=>bif Nat.ble (a+out.length) d.length then fc (splice d a (Qv (Vh m) out)) λb=>im l B K (updH F t k b) else False
     | s::c=>Pu d a (s::c) out λb=>im l B K (updH F t k b))
   | _=>False)
 | (_,.box t)::l,.ptr out::B,K,F=>(match F t with
   | .dead=>im l B K (setH F t (.H .box out))
   | _=>False)
 | _,_,_,_=>False
def FP:List MA->Prop
 | []=>True
 | .val _ _::B=>FP B
 | .mut _ cs::B=>iD cs/\FP B
 | .ptr cs::B=>iD cs/\FP B
inductive cT(P:Program)(f:Nat)(b:Bool)(A:List MA)(K:Kd->List C->List MA->Prop):Prop
 |mk_ (h:∃sh B k rcs,aW P f sh A B k rcs/\(b=true\/(sh=false/\FP B))/\K k rcs B)
def cT.mk{sh:Bool}{A B:List MA}{K:Kd->List C->List MA->Prop}(h:aW P f sh A B k rcs)(a:b=true\/(sh=false/\FP B))(c:K k rcs B):cT P f b A K:=by refine .mk_ ?_;exact⟨sh,B,k,rcs,h,a,c⟩
def CM:type_of% @cT.mk:=@cT.mk
def cT.out{A:List MA}{K:Kd->List C->List MA->Prop}(h:cT P f b A K):∃sh B k rcs,aW P f sh A B k rcs/\(b=true\/(sh=false/\FP B))/\K k rcs B:=by obtain⟨h⟩:=h;exact h
def lF(P:Program)(N:fD)(F:Nat->AV)(d:Option Nat)(f:Nat)(args:List Operand)(modes:List Nat)(K:(Nat->AV)->Prop):Prop:=
 lendP (args.zip modes) (λa l=>bif vw l&&Nat.beq args.length modes.length then valsP a l args λb A=>cT P f b A λk rcs B=>im l B (λF''=>match d with|some d=>bS N F'' d (.H k rcs) K|none=>K F'') a else False) F
def zA(F:Nat->AV)(x:Operand)(K:Nat->Nat->Prop):Prop:=
 match x with
 | .tmp s=>(match F s with
   | .ref t off []=>K t off
   | _=>False)
 | _=>False
def zc(N:fD)(F:Nat->AV)(d:Option Nat)(t:Nat)(cs:List C)(c e f g:Nat)(K:(Nat->AV)->Prop)(k:Kd)(rcs:List C):List MA->Prop
 | [.ptr a,.ptr c1']=>bif Nat.beq a.length e&&Nat.beq c1'.length g then fc (splice (splice cs c a) f c1') λb=>(match d with|some d=>bS N (setH (kill F t) t (.H .box b)) d (.H k rcs) K|none=>K (setH (kill F t) t (.H .box b))) else False
 | _=>False
def kL(P:Program)(N:fD)(F:Nat->AV)(d:Option Nat)(f:Nat)(args:List Operand)(c e:Nat)(K:(Nat->AV)->Prop):Prop:=
 match args with
 | [x0,h]=>zA F x0 λt g=>zA F h λi a=>(match F t with
   | .H .box b=>bif Nat.beq i t&&Nat.ble (g+c) a&&Nat.ble (a+e) b.length then fc (bz b g c) λj=>fc (bz b a e) λl=>cT P f true [.ptr j,.ptr l] λk rcs B=>zc N F d t b g c a e K k rcs B else False
   | _=>False)
 | _=>False
def Up:List Nat->Option (Nat × Nat)
 | []=>none
 | m::l=>bif Nat.beq m 3 then(match l with
   | []=>none
   | a::l=>(match l with
     | []=>none
     | b::_=>some (a,b))) else none
def kM(P:Program)(N:fD)(F:Nat->AV)(d:Option Nat)(f:Nat)(args:List Operand)(modes:List Nat)(K:(Nat->AV)->Prop):Prop:=
 match Up modes with
 | some p=>kL P N F d f args p.1 p.2 K
 | none=>lF P N F d f args modes K
section
variable{P:Program}{w0 w w1:World}{M S0 S:af}{N:fD}{φ:Nat->af}{F:Nat->AV}{a:Act}{TE:Nat->Option TI}
variable{V S':af}
def bo.addS(h:bo w0 M S0 N S φ F a w)(g:Free w0 M S φ w V)(d:∀b o,S b o->S' b o)(e:∀b o,S' b o->S b o\/V b o):bo w0 M S0 N S' φ F a w:=by
 refine⟨λt=>(h.slot t).keep (φ:=φ) (λt _ _ _=>h.slot t) (λt _=>⟨λ_ _ h=>h,rfl,λ_ _ _=>⟨rfl,rfl⟩⟩) (λ_ _ _=>⟨rfl,rfl⟩) (λ_ _ _=>⟨rfl,rfl⟩) (λ_ _ h=>h) d,h.dis,λt b o c f=>?_,h.ex,λb o c=>d b o (h.sub b o c),λb o c=>?_,h.old,h.size,h.defers,h.par⟩
 ·rcases e b o f with f|f
  ·exact h.disS t b o c f
  exact(g b o f).1 t c
 rcases e b o c with c|c
 ·exact h.sup b o c
 exact⟨(g b o c).2.2.1,.inr (g b o c).2.2.2⟩
def qz(F:Nat->AV)(t:Nat)(av:AV):setH F t av t=av:=by simp[setH]
variable{t:Nat}
def fC(F:Nat->AV){s:Nat}(av:AV)(h:s≠t):setH F t av s=F s:=by
 have:Nat.beq s t=false:=by rw[<-I6,Nat.beq_eq];exact h
 simp[setH,this]
variable{cs:List C}
def bo.revive(h:bo w0 M S0 N S φ F a w)(J:F t=.dead){k:Kd}{X:af}(D:Free w0 M S φ w X)(K:cS w S F (tvs a) X (.H k cs) (tvs a t)) :
  bo w0 M S0 N S (λs=>if s=t then X else φ s) (setH F t (.H k cs)) a w:=by
 have G:∀s,(F s).uses t=true->cS w S (setH F t (.H k cs)) (tvs a) (φ s) (F s) (tvs a s):=λs i=>by
  have c:=h.slot s;cases d:F s with
  | dead=>rw[d]at i;cases i
  | H=>rw[d]at i;cases i
  | iref=>rw[d]at i;cases i
  | ref u H L=>
   rw[d]at i c;have:u=t:=by simpa[AV.uses] using i
   subst this;obtain⟨k,cs,r,j,g,o,y,-⟩:=c;rw[J]at y;cases y
  | c2 u H L P=>
   rw[d]at i c;have:u=t:=by simpa[AV.uses] using i
   subst this;obtain⟨k,cs,r,j,y,-⟩:=c;rw[J]at y;cases y
  | fn f caps=>rw[d]at c;exact c
  | fv Ok=>rw[d]at c;exact c
 refine⟨λs=>?_,λs E p b o l n=>?_,λs b o l=>?_,λs b o l=>?_,h.sub,h.sup,h.old,h.size,h.defers,h.par⟩
 ·by_cases q:s=t
  ·subst q
   rw[qz,CD rfl];exact K
  rw[fC _ _ q,CB q];cases i:(F s).uses t with
  | true=>exact G s i
  | false=>
   refine(h.slot s).keep (φ:=φ) (λt _ _ _=>h.slot t) (λu A=>?_) (λ_ _ _=>⟨rfl,rfl⟩) (λ_ _ _=>⟨rfl,rfl⟩) (λ_ _ h=>h) (λ_ _ h=>h);have p:u≠t:=λe=>by subst e;rw[i]at A;cases A
   exact⟨λk cs O=>by rw[fC _ _ p];exact O,rfl,λ_ _ _=>⟨rfl,rfl⟩⟩
 ·by_cases e:s=t
  ·rw[CD e]at l
   by_cases B:E=t
   ·exact p (e.trans B.symm)
   rw[CB B]at n;exact(D b o l).1 E n
  rw[CB e]at l;by_cases B:E=t
  ·rw[CD B]at n;exact(D b o n).1 s l
  rw[CB B]at n;exact h.dis s E p b o l n
 ·split at l
  ·exact(D b o l).2.1
  exact h.disS s b o l
 split at l
 ·exact(D b o l).2.2
 exact h.ex s b o l
def eQ(F F':Nat->AV):Prop:=∀s k a,F' s=.H k a->∃cs0,F s=.H k cs0
def eQ.trans{F F' F'':Nat->AV}(h:eQ F F')(h':eQ F' F''):eQ F F'':=λs k a e=>by obtain⟨b,c⟩:=h' s k a e;exact h s k b c
def qO{k:Kd}{i b:List C}(j:F t=.H k i):eQ F (updH F t k b):=λs l n e=>by
 by_cases h:s=t
 ·subst h;rw[ic]at e;cases e;exact⟨i,j⟩
 rw[f8 _ _ _ h]at e;cases a:F s with
 | H o cs3=>rw[a]at e;simp only[si]at e;cases e;exact⟨_,rfl⟩
 | dead=>rw[a]at e;cases e
 | iref=>rw[a]at e;cases e
 | fn=>rw[a]at e;cases e
 | fv=>rw[a]at e;cases e
 | c2 c d f p=>rw[a]at e;simp only[si]at e;cases g:Nat.beq c t<;>rw[g]at e<;>cases e
 | ref c d f=>
  rw[a]at e;cases f with
  | nil=>cases e
  | cons s f=>simp only[si]at e;cases g:Nat.beq c t<;>rw[g]at e<;>cases e
def zV(t:Nat):eQ F (kill F t):=λs i j e=>by
 by_cases h:s=t
 ·subst h;rw[n6]at e;cases e
 rw[iI _ h]at e;cases a:F s with
 | H k c=>rw[a]at e;cases e;exact⟨_,rfl⟩
 | ref b d g=>rw[a]at e;simp only[Qw]at e;cases f:Nat.beq b t<;>rw[f]at e<;>cases e
 | c2 b d g l=>rw[a]at e;simp only[Qw]at e;cases f:Nat.beq b t<;>rw[f]at e<;>cases e
 | _=>rw[a]at e;cases e
variable{off n:Nat}
def bo.lendAt(h:bo w0 M S0 N S φ F a w){st:cM}{K:(Nat->AV)->List C->Prop}(c:Ab.lendAt F t off st n K) :
  ∃k f V φ' F' cs,F t=.H k f/\K F' cs/\cs.length=n/\dn w S V cs (λd=>cellv w (cr w k (tvs a t)) off st d)/\bo w0 M S0 N S φ' F' a w/\Free w0 M S φ' w V/\(∀s b o,φ' s b o->φ s b o)/\(∀b o,V b o->φ t b o)/\eQ F F':=by
 unfold Ab.lendAt at c;split at c
 case h_2=>exact c.elim
 rename_i k f e;split at c
 ·cases g:Nat.ble (off+n) f.length with
  | false=>rw[g]at c;exact c.elim
  | true=>
   rw[g]at c;simp only[cond_true,d3]at c;have i:=O1 g;obtain⟨V,φ',l,p,q,u,y⟩:=h.lend (st:=[]) (off:=off) (j:=off) (n:=n) e rfl trivial i;exact⟨k,f,V,φ',_,_,e,c,by simp[bz];omega,l,p,q,u,y,qO e⟩
 obtain⟨r,j,A,B,D,E⟩:=c.out;obtain⟨V,φ',l,p,q,u,y⟩:=h.lend e A B D;exact⟨k,f,V,φ',_,_,e,E,by simp[bz];omega,l,p,q,u,y,qO e⟩
def Fn(w:World)(S:af)(a:Act)(e:Nat->AV)(V:af)(m:MA)(p:rW)(v:Value):Prop:=
 match p with
 | .no=>∀b o,¬V b o
 | .at_ t off st=>∃d c,m=.mut d c/\cb w S V d c v/\∃k cs0,e t=.H k cs0/\v=mkv d (cellv w (cr w k (tvs a t)) off st)
 | .box t=>∃c,m=.ptr c/\qD w S V m v/\v=tvs a t
def qL(w:World)(S:af)(a:Act)(b:Nat->AV):(Nat->af)->List (MA × rW)->List Value->Prop
 | _,[],[]=>True
 | V,q::l,v::vs=>Fn w S a b (V 0) q.1 q.2 v/\qL w S a b (λi=>V (i+1)) l vs
 | _,_,_=>False
variable{v:Value}{m:MA}{F1:Nat->AV}
def Fn.back{F:Nat->AV}{p:rW}(h:Fn w S a F1 V m p v)(b:eQ F F1):Fn w S a F V m p v:=by
 cases p with
 | no=>exact h
 | at_ t c o=>obtain⟨d,e,f,g,k,cs0,i,j⟩:=h;obtain⟨l,n⟩:=b t k cs0 i;exact⟨d,e,f,g,k,l,n,j⟩
 | box t=>exact h
def qL.back{F:Nat->AV}(b:eQ F F1):∀{l:List (MA × rW)}{V:Nat->af}{vs:List Value},qL w S a F1 V l vs->qL w S a F V l vs
 | [],_,[],_=>trivial
 | _::_,_,_::_,h=>⟨h.1.back b,h.2.back b⟩
 | [],_,_::_,h=>h.elim
 | _::_,_,[],h=>h.elim
def MO(a:af)(V:Nat->af):Nat->af
 | 0=>a
 | i+1=>V i
def bo.lendP:∀{xs:List (Operand × Nat)}{K:(Nat->AV)->List (MA × rW)->Prop}{F:Nat->AV}{φ:Nat->af},bo w0 M S0 N S φ F a w->Ab.lendP xs K F->
  ∃F' l φ' V,K F' l/\bo w0 M S0 N S φ' F' a w/\(∀s b o,φ' s b o->φ s b o)/\(∀i,Free w0 M S φ' w (V i))/\(∀i b o,V i b o->∃t,φ t b o)/\(∀i d,i≠d->∀b o,V i b o->¬V d b o)/\eQ F F'/\qL w S a F V l (xs.map λx=>a.eval x.1)
 | [],K,F,φ,h,c=>⟨F,[],φ,λ_=>NO,c,h,λ_ _ _ h=>h,λ_ _ _ h=>h.elim,λ_ _ _ h=>h.elim,λ_ _ _ _ _ h=>h.elim,λs k p e=>⟨p,e⟩,trivial⟩
 | (x,m)::xs,K,F,φ,h,c=>by
  have fin:∀(G:Nat->AV)(φ1:Nat->af)(O:af)(q:MA × rW),Fn w S a F O q.1 q.2 (a.eval x)->bo w0 M S0 N S φ1 G a w->(∀s b o,φ1 s b o->φ s b o)->Free w0 M S φ1 w O->(∀b o,O b o->∃t,φ t b o)->eQ F G->Ab.lendP xs (λF' l=>K F' (q::l)) G->
    ∃F' l φ' V,K F' l/\bo w0 M S0 N S φ' F' a w/\(∀s b o,φ' s b o->φ s b o)/\(∀i,Free w0 M S φ' w (V i))/\(∀i b o,V i b o->∃t,φ t b o)/\(∀i d,i≠d->∀b o,V i b o->¬V d b o)/\eQ F F'/\qL w S a F V l (((x,m)::xs).map λx=>a.eval x.1):=by
   intro G φ1 O q hq B Z P hV0t f c;obtain⟨F',l,φ',V,e1,e2,e3,e4,e5,e6,e7,e8⟩:=bo.lendP B c;refine⟨F',q::l,φ',MO O V,e1,e2,λs b o f=>Z s b o (e3 s b o f),λi=>?_,λi b o X=>?_,λi d D b o X Q=>?_,f.trans e7,hq,e8.back f⟩
   ·cases i with
    | zero=>exact P.less e3
    | succ i=>exact e4 i
   ·cases i with
    | zero=>exact hV0t b o X
    | succ i=>obtain⟨t,H⟩:=e5 i b o X;exact⟨t,Z t b o H⟩
   cases i with
   | zero=>
    cases d with
    | zero=>exact D rfl
    | succ d=>obtain⟨t,H⟩:=e5 d b o Q;exact(P b o X).1 t H
   | succ i=>
    cases d with
    | zero=>obtain⟨t,H⟩:=e5 i b o X;exact(P b o Q).1 t H
    | succ d=>exact e6 i d (λe=>D (by rw[e])) b o X Q
  have box:∀t p,F t=.H .box p->a.eval x=tvs a t->Ab.lendP xs (λF' l=>K F' ((.ptr p,.box t)::l)) (kill F t)->
    ∃F' l φ' V,K F' l/\bo w0 M S0 N S φ' F' a w/\(∀s b o,φ' s b o->φ s b o)/\(∀i,Free w0 M S φ' w (V i))/\(∀i b o,V i b o->∃t,φ t b o)/\(∀i d,i≠d->∀b o,V i b o->¬V d b o)/\eQ F F'/\qL w S a F V l (((x,m)::xs).map λx=>a.eval x.1):=by
   intro t p A E c;have u:=h.slot t;rw[A]at u;obtain⟨X1,Y,B,h2,R,h4,h5⟩:=u;refine fin _ _ (φ t) (.ptr p,.box t) ⟨p,rfl,⟨X1,Y,B,h2,R,by rw[E];exact h4,by rw[E];exact h5⟩,E⟩ (h.forget t) (λs b o f=>?_) (λb o f=>⟨λs u=>?_,h.disS t b o f,h.ex t b o f⟩) (λb o f=>⟨t,f⟩) (zV t) c
   ·replace f:(if s=t then NO else φ s) b o:=f
    split at f
    ·exact f.elim
    exact f
   replace u:(if s=t then NO else φ s) b o:=u;split at u
   ·exact u.elim
   rename_i D;exact h.dis s t D b o u f
  have at_:∀t y T J n (K':(Nat->AV)->List C->Prop),n=J.getD 1->(∀k U,F t=.H k U->a.eval x=mkv J (cellv w (cr w k (tvs a t)) y T))->Ab.lendAt F t y T n (λG p=>Ab.lendP xs (λF' l=>K F' ((.mut J p,.at_ t y T)::l)) G)->
    ∃F' l φ' V,K F' l/\bo w0 M S0 N S φ' F' a w/\(∀s b o,φ' s b o->φ s b o)/\(∀i,Free w0 M S φ' w (V i))/\(∀i b o,V i b o->∃t,φ t b o)/\(∀i d,i≠d->∀b o,V i b o->¬V d b o)/\eQ F F'/\qL w S a F V l (((x,m)::xs).map λx=>a.eval x.1):=by
   intro t y T J n K' hn E c;obtain⟨k,U,O,φ1,G,p,e1,e2,e3,e4,e5,e6,e7,e8,e9⟩:=h.lendAt c;have hvx:=E k U e1;exact fin G φ1 O (.mut J p,.at_ t y T) ⟨J,p,rfl,⟨by rw[e3,hn],_,hvx,e4⟩,k,U,e1,hvx⟩ e5 e7 e6 (λb o f=>⟨t,e8 b o f⟩) e9 e2
  match m,c with
  | 0,c=>exact fin F φ NO (.val none [],.no) (λ_ _ h=>h) h (λ_ _ _ h=>h) (λ_ _ h=>h.elim) (λ_ _ h=>h.elim) (λs k p e=>⟨p,e⟩) c
  | 1,c=>
   simp only[Ab.lendP]at c;split at c
   case h_2=>exact c.elim
   rename_i s _;have u:=h.slot s;split at c
   ·rename_i cs0 A
    exact at_ s 0 [] none 1 (λ_ _=>True) rfl (λk U L=>by rw[A]at L;cases L;rfl) c
   ·rename_i cs0 A
    rw[A]at u;obtain⟨X1,Y,-,-,-,⟨arr,E,hsz⟩,-⟩:=u;refine at_ s 0 [] (some cs0.length) cs0.length (λ_ _=>True) rfl (λk U L=>?_) c;rw[A]at L;cases L;show tvs a s=_;rw[E];have:=qu arr;rw[hsz]at this;exact this.trans (iU λj _=>by simp[cellv,cr,Value.cells])
   ·rename_i t y T J A
    rw[A]at u;obtain⟨k,p,r,j,B,h2,R,h4⟩:=u;refine at_ t y T J _ (λ_ _=>True) rfl (λk' U L=>?_) c;rw[B]at L;cases L;exact h4
   exact c.elim
  | n+2,c=>
   simp only[Ab.lendP]at c;split at c
   case h_2=>exact c.elim
   rename_i s _;have u:=h.slot s;split at c
   ·rename_i t A
    rw[A]at u;obtain⟨k,p,r,j,g,o,B,h2,R,h4⟩:=u;split at c
    ·rename_i cs2 W
     rw[W]at B;simp only[AV.H.injEq]at B;obtain⟨rfl,rfl⟩:=B;have H:=h.slot t;rw[W]at H;obtain⟨X1,Y,-,-,-,⟨g',o',E,-⟩,-⟩:=H;refine box t _ W ?_ c;show tvs a s=tvs a t;rw[E]at R |-;simp only[plc,oX,Z5,C1,Prod.mk.injEq,Nat.add_zero]at R;rw[h4,<-R.1,<-R.2]
    exact c.elim
   ·rename_i cs2 A
    exact box s cs2 A rfl c
   exact c.elim
def qD.mono{S:af}(h:qD w S V m v)(a:∀b o,S b o->S' b o):qD w S' V m v:=by
 cases m with
 | val d c=>exact cb.mono h a (λ_ _ h=>h)
 | «mut» d c=>exact cb.mono h a (λ_ _ h=>h)
 | ptr c=>obtain⟨e,Y,f,g,i,j,k⟩:=h;exact⟨e,Y,f,g,i,j,k.mono a (λ_ _ h=>h)⟩
def bo.valsP(h:bo w0 M S0 N S φ F a w){r:Nat->AV} : ∀{l:List (MA × rW)}{xs:List Operand}{K:Bool->List MA->Prop}{V:Nat->af},qL w S a r V l (xs.map a.eval)->Ab.valsP F l xs K->
  ∃b A,K b A/\Qx w (nS S φ) V A (xs.map a.eval)/\(b=true->Qx w S V A (xs.map a.eval))
 | [],[],K,V,_,f=>⟨true,[],f,trivial,λ_=>trivial⟩
 | (m,.no)::l,x::xs,K,V,g,f=>by
  obtain⟨q,k,Y,d,e,y⟩:=h.val (h.ev x) f;obtain⟨b,A,d,i,j⟩:=bo.valsP h g.2 d;have p:∀b o,Y b o->nS S φ b o:=λb o c=>by
   rcases y b o c with c|c
   ·cases x with
    | tmp t=>exact .inr ⟨t,c⟩
    | _=>exact c.elim
   exact .inr c
  cases n:aZ k with
  | true=>rw[n]at d;exact⟨b,_,d,⟨(e.bare n).mono (λ_ _ h=>.inl h) (λ_ _ h=>h),i⟩,λc=>⟨e.bare n,j c⟩⟩
  | false=>rw[n]at d;exact⟨false,_,d,⟨e.freeze.mono (λb o h=>h.elim .inl (p b o)) (λ_ _ h=>h),i⟩,λc=>by cases c⟩
 | (m,.at_ t off st)::l,x::xs,K,V,g,f=>by
  obtain⟨b,A,d,i,j⟩:=bo.valsP h g.2 f;obtain⟨q,k,rfl,⟨B,u,C,D⟩,-⟩:=g.1;have e:cb w S (V 0) q (Uk k) (a.eval x):=⟨by rw[Dq];simpa using B,u,C,D.ut⟩
  exact⟨b,_,d,⟨e.mono (λ_ _ h=>.inl h) (λ_ _ h=>h),i⟩,λc=>⟨e,j c⟩⟩
 | (m,.box t)::l,x::xs,K,V,g,f=>by
  obtain⟨b,A,d,i,j⟩:=bo.valsP h g.2 f;obtain⟨k,rfl,e,-⟩:=g.1;exact⟨b,_,d,⟨e.mono (λ_ _ h=>.inl h),i⟩,λc=>⟨e,j c⟩⟩
def QD{ag:Option Nat}{u b:Nat->Value}(h:mkv ag u=mkv ag b):∀d,d<ag.getD 1->u d=b d:=by
 cases ag with
 | none=>
  intro d a;simp only[Option.getD_none]at a;have:d=0:=ω
  subst this;exact h
 | some n=>
  intro d a;simp only[Option.getD_some]at a;simp only[mkv,Value.agg.injEq]at h;have c:=Z0 Array.toList h;have e:=Z0 (λl=>l[d]?) c;simpa[a] using e
def MM{v:AV}{k:Kd}(h:si t v=.H k cs):v=.H k cs:=by
 cases v with
 | H=>exact h
 | dead=>cases h
 | iref=>cases h
 | fn=>cases h
 | fv=>cases h
 | c2 a b c e=>simp only[si]at h;cases d:Nat.beq a t<;>rw[d]at h<;>cases h
 | ref a b c=>
  cases c with
  | nil=>cases h
  | cons s c=>simp only[si]at h;cases d:Nat.beq a t<;>rw[d]at h<;>cases h
def bo.rest{φ':Nat->af}{F' F0:Nat->AV}{S':af}{Vall:af}(hw:bo w0 M S0 N S φ' F' a w)(hk:bZ Vall w w1)(A:Free w0 M S φ' w Vall)(hb:eQ F0 F') :
  ∀{l:List (MA × rW)}{B:List MA}{vs:List Value}{V V':Nat->af}{K:(Nat->AV)->Prop}{F:Nat->AV}{φ:Nat->af},bo w0 M S0 N S' φ F a w1->qL w S a F0 V l vs->FD w1 S' V' B vs->(∀q,q∈l->∀t,t∈q.2.slot->∀k cs,F t=.H k cs->F' t=.H k cs)->
   (∀i,Free w0 M S' φ w1 (V' i))->(∀i i',i≠i'->∀b o,V' i b o->¬V' i' b o)->vw l=true->im l B K F->∃E φ2,K E/\bo w0 M S0 N S' φ2 E a w1/\∀s b o,φ2 s b o->φ s b o\/∃i,V' i b o
 | [],B,vs,V,V',K,F,φ,h,hl,hm,f,hf,P,g,c=>by
  cases B with
  | nil=>exact⟨F,φ,c,h,λ_ _ _ h=>.inl h⟩
  | cons _ _=>exact c.elim
 | (m,p)::l,B,vs,V,V',K,F,φ,h,hl,hm,f,hf,P,g,c=>by
  cases vs with
  | nil=>exact hl.elim
  | cons v vs=>
   cases B with
   | nil=>exact hm.elim
   | cons m' B=>
    simp only[vw,I0]at g;have next:∀(F1:Nat->AV)(φ1:Nat->af),bo w0 M S0 N S' φ1 F1 a w1->(∀s b o,φ1 s b o->φ s b o\/V' 0 b o)->(∀q,q∈l->∀t,t∈q.2.slot->∀k cs,F1 t=.H k cs->F' t=.H k cs)->im l B K F1->
      ∃E φ2,K E/\bo w0 M S0 N S' φ2 E a w1/\∀s b o,φ2 s b o->φ s b o\/∃i,V' i b o:=by
     intro F1 φ1 C hle hkeep1 hp1;obtain⟨E,φ2,H,e2,e3⟩:=bo.rest hw hk A hb (V':=λi=>V' (i+1)) C hl.2 hm.2 hkeep1 (λi b o hi=>⟨λt ht=>(hle t b o ht).elim ((hf (i+1) b o hi).1 t) (λh0=>P 0 (i+1) ω b o h0 hi),(hf (i+1) b o hi).2⟩) (λi i' R=>P (i+1) (i'+1) ω) g.2 hp1;exact⟨E,φ2,H,e2,λs b o T=>(e3 s b o T).elim (λh=>(hle s b o h).imp id (λh=>⟨0,h⟩)) (λ⟨i,h⟩=>.inr ⟨i+1,h⟩)⟩
    have R:∀t,t∈p.slot->∀q,q∈l->∀G,G∈q.2.slot->G≠t:=λt ht q J G u e=>by
     have C:=V4.1 (V4.1 g.1 t ht) q J;have U:q.2.slot.any (Nat.beq t)=true:=O4.2 ⟨G,u,by rw[e];exact Nat.beq_refl t⟩;rw[U]at C;cases C
    cases p with
    | no=>exact next F φ h (λ_ _ _ h=>.inl h) (λq J=>f q (C6 _ J)) (by cases m'<;>exact c)
    | at_ t n L=>
     obtain⟨ag,cs,rfl,hv,k0,cs0,hF0,y⟩:=hl.1;cases m' with
     | val=>exact c.elim
     | ptr=>exact c.elim
     | «mut» ag' out=>
      simp only[im]at c;obtain⟨u',hu',O⟩:=cb.cells (show cb w1 S' (V' 0) ag' out v from hm.1);have hone:ag=none->(cellv w (cr w k0 (tvs a t)) n L 0).oneCell'=true:=λe=>by
       subst e;obtain⟨hl1,u1,hv1,hr1⟩:=hv;have:cellv w (cr w k0 (tvs a t)) n L 0=u1 0:=y.symm.trans hv1;rw[this];exact hr1.one (by simp at hl1;omega)
      have W:=qi hone;rw[<-y,hu']at W;have hlen:out.length=ag.getD 1:=by have:=Z0 List.length W;simpa using this
      have heq:∀d,d<out.length->u' d=cellv w (cr w k0 (tvs a t)) n L d:=λd P=>by
       have:=Z0 (λl=>l[d]?) W;simpa[P,<-hlen] using this
      cases Q:F t with
      | H k X=>
       rw[Q]at c;have hF':=f (.mut ag cs,.at_ t n L) (C2 ..) t (by simp[rW.slot]) k X Q;have hkk:k0=k:=by
        obtain⟨c1,H⟩:=hb t k X hF';rw[hF0]at H;simp only[AV.H.injEq]at H;exact H.1
       subst hkk;have fin:∀out',out'.length=out.length->dn w1 S' (V' 0) out' u'->∀r j,cn X n L=some (r,j)->kU X n L->j+out.length<=r.length->im l B K (updH F t k0 (gl X n L (splice r j out')))->∃E φ2,K E/\bo w0 M S0 N S' φ2 E a w1/\∀s b o,φ2 s b o->φ s b o\/∃i,V' i b o:=by
        intro out' hol O r j C U h3 c;have Z:=hw.cellv_same hF' C hk A;obtain⟨φ1,H,e2⟩:=h.back Q C U (by rw[hol];exact h3) (hf 0) (O.congr λd P=>(Z d ω).trans (heq d ω).symm);refine next _ φ1 H e2 (λq J G u k cs hc=>?_) c;have:=R t (by simp[rW.slot]) q J G u;rw[f8 _ _ _ this]at hc;exact f q (C6 _ J) G u k cs (MM hc)
       cases L with
       | nil=>
        simp only at c;cases D:Nat.ble (n+out.length) X.length with
        | false=>rw[D]at c;exact c.elim
        | true=>
         rw[D]at c;simp only[cond_true,d3]at c;obtain⟨-,u0,hv0,hr0⟩:=hv;have hu0:∀d,d<out.length->u' d=u0 d:=λd P=>by
          have H:=QD (hv0.symm.trans y) d ω;rw[H];exact heq d P
         exact fin _ (sF _ _) (hr0.rt O hu0) X n rfl trivial (O1 D) c
       | cons s L=>
        simp only at c;obtain⟨r,j,C,U,h3,hK⟩:=c.out;exact fin out rfl O r j C U h3 hK
      | _=>rw[Q]at c;exact c.elim
    | box t=>
     obtain⟨cs,rfl,hv,y⟩:=hl.1;cases m' with
     | val=>exact c.elim
     | «mut»=>exact c.elim
     | ptr out=>
      simp only[im]at c;cases Q:F t with
      | dead=>
       rw[Q]at c;obtain⟨X1,Y,C,U,h3,h4,h5⟩:=hm.1;refine next _ _ (h.revive Q (hf 0) ⟨X1,Y,C,U,h3,by rw[<-y];exact h4,by rw[<-y];exact h5⟩) (λs b o T=>?_) (λq J G u k cs hc=>?_) c
       ·replace T:(if s=t then V' 0 else φ s) b o:=T
        split at T
        ·exact .inr T
        exact .inl T
       have:=R t (by simp[rW.slot]) q J G u;rw[fC _ _ this]at hc;exact f q (C6 _ J) G u k cs hc
      | _=>rw[Q]at c;exact c.elim
def Hy.fresh{S:af}(h:Hy w S V m v)(d:match m with|.val _ _=>True|.mut _ cs=>iD cs|.ptr cs=>iD cs):Hy w NO V m v:=by
 cases m with
 | val=>trivial
 | «mut» ag cs=>obtain⟨a,u,b,c⟩:=h;exact⟨a,u,b,c.fresh d⟩
 | ptr cs=>obtain⟨e,Y,a,b,c,f,g⟩:=h;exact⟨e,Y,a,b,c,f,g.fresh d⟩
def Hy.mono{S:af}(h:Hy w S V m v)(c:∀b o,S b o->S' b o):Hy w S' V m v:=by
 cases m with
 | val=>trivial
 | «mut» ag a=>exact qD.mono (m:=.mut ag a) h c
 | ptr a=>exact qD.mono (m:=.ptr a) h c
def FD.mono{S S':af}(a:∀b o,S b o->S' b o):∀{V:Nat->af}{B:List MA}{vs:List Value},FD w S V B vs->FD w S' V B vs
 | _,[],[],_=>trivial
 | _,_::_,_::_,h=>⟨h.1.mono a,FD.mono a h.2⟩
 | _,[],_::_,h=>h.elim
 | _,_::_,[],h=>h.elim
def FD.fresh{S:af} : ∀{V:Nat->af}{B:List MA}{vs:List Value},FD w S V B vs->FP B->FD w NO V B vs
 | _,[],[],_,_=>trivial
 | _,.val _ _::_,_::_,h,a=>⟨trivial,FD.fresh h.2 a⟩
 | _,.mut _ _::_,_::_,h,a=>⟨h.1.fresh a.1,FD.fresh h.2 a.2⟩
 | _,.ptr _::_,_::_,h,a=>⟨h.1.fresh a.1,FD.fresh h.2 a.2⟩
 | _,[],_::_,h,_=>h.elim
 | _,_::_,[],h,_=>h.elim
variable{xs:List Operand}
def R0{b:List Nat}(h:xs.length=b.length):(xs.zip b).map (λx=>a.eval x.1)=xs.map a.eval:=by
 rw[show(λx:Operand × Nat=>a.eval x.1)=a.eval ∘ Prod.fst from rfl,<-List.map_map,List.map_fst_zip ω]
variable{Q:Exit->Act->World->Prop}{Kc:Act->World->Prop}{K:(Nat->AV)->Prop}{modes:List Nat}{f:Nat}{o:Oper}
def bo.callO(h:bo w0 M S0 N S φ F a w)(Y:MD P f->(execOp a.eval o).run P w=.ok (.enter f (xs.map a.eval).toArray) w)(hp:lF P N F o.dst f xs modes K)(hkc:∀F' v w',K F'->St w0 M S0 N F' (a.put o.dst v) w'->Kc (a.put o.dst v) w'):o.wp P a w Kc Q:=by
 obtain⟨F',l,φ',V,u,r,hle,E,hVt,hVd,G,hL⟩:=h.lendP hp;cases j:(vw l&&Nat.beq xs.length modes.length) with
 | false=>rw[j]at u;exact u.elim
 | true=>
  rw[j]at u;simp only[I0]at j;rw[R0 (O2 j.2)]at hL;obtain⟨b,A,u,hA1,hA2⟩:=r.valsP hL u;obtain⟨sh,B,k,rcs,hc,hsb,u⟩:=u.out;have g:Free w0 M S φ' w (λb o=>∃i,V i b o):=λb o ⟨i,n⟩=>E i b o n
  have H:=Y hc.1;have fin:∀S2:af,(∀b o,S2 b o->b<w.heap.size)->(∀i b o,V i b o->¬S2 b o)->Qx w S2 V A (xs.map a.eval)->((∀b o,S2 b o->S b o)\/(sh=false/\FP B))->o.wp P a w Kc Q:=by
   intro S2 hS2 hVS hA p;have hy:Ac P o a w λv w1=>∃C,K C/\St w0 M S0 N C (a.put o.dst v) w1:=by
    refine Ac.enter H ?_;refine(hc.2 w S2 V _ hS2 (λi b o n=>⟨(E i b o n).2.2.1,hVS i b o n⟩) hVd hA).mono λe w1 ⟨v,he,hk,X,V',D,hX,hV',hS1,J,hXV,hXS,L,hh,hr,hm⟩=>⟨v,he,?_⟩
    have h1:=r.world hk g;have reg:∀Z:af,(∀b o,Z b o->(∃i,V i b o)\/(b<w1.heap.size/\w.heap.size<=b))->Free w0 M S φ' w1 Z:=λZ hZ b o c=>by
     rcases hZ b o c with c|c
     ·obtain⟨O,R,T,a4⟩:=g b o c
      exact⟨O,R,C4 T hk.size,a4⟩
     exact⟨λt y=>by have:=(r.ex t b o y).1;omega,λhS=>by have:=(r.sup b o hS).1;omega,c.1,.inl (O5 r.old.size c.2)⟩
    have h2:bo w0 M S0 N (λb o=>S b o\/D b o) φ' F' a w1:=by
     refine h1.addS (V:=λb o=>D b o/\((∃i,V i b o)\/(b<w1.heap.size/\w.heap.size<=b))) (reg _ λb o c=>c.2) (λ_ _ h=>.inl h) (λb o c=>?_);rcases c with c|c
     ·exact .inl c
     rcases hS1 b o c with⟨U,q2⟩|q
     ·rcases p with q3|⟨q3,-⟩
      ·exact .inl (q3 b o q2)
      rw[q3]at U;cases U
     exact .inr ⟨c,q⟩
    have frees:∀Z:af,(∀b o,Z b o->(∃i,V i b o)\/(b<w1.heap.size/\w.heap.size<=b))->(∀b o,Z b o->¬D b o)->Free w0 M (λb o=>S b o\/D b o) φ' w1 Z:=λZ hZ hn b o c=>by
     obtain⟨O,R,T⟩:=reg Z hZ b o c;exact⟨O,λh=>h.elim R (hn b o c),T⟩
    have hm2:FD w1 (λb o=>S b o\/D b o) V' B (xs.map a.eval):=by
     rcases p with q|⟨-,q⟩
     ·exact hm.mono λb o c=>c.imp (q b o) id
     exact(hm.fresh q).mono λ_ _ h=>h.elim
    obtain⟨C,φ2,W,e2,e3⟩:=bo.rest r hk g G h2 hL hm2 (λq _ t _ k cs e=>e) (λi=>frees (V' i) (hV' i) (L i)) J j.1 u;cases hd:o.dst with
    | none=>
     rw[hd]at W;exact⟨C,W,_,φ2,e2⟩
    | some d=>
     rw[hd]at W;have hXf:Free w0 M (λb o=>S b o\/D b o) φ2 w1 X:=λb o c=>by
      obtain⟨O,R,T⟩:=frees X hX hXS b o c;exact⟨λt y=>(e3 t b o y).elim (O t) (λ⟨i,n⟩=>hXV i b o c n),R,T⟩
     exact e2.putD_free (X:=X) ⟨NO,X,λ_ _ h=>h.elim,λ_ _ h=>h,λ_ _ h=>h.elim,hh,hr.mono (λ_ _ h=>.inr h) (λ_ _ h=>h)⟩ hXf W
   exact hy Kc Q λv w1 ⟨C,U,q2⟩=>hkc C v w1 U q2
  rcases hsb with hbt|hfr
  ·exact fin S (λb o G=>(r.sup b o G).1) (λi b o n=>(E i b o n).2.1) (hA2 hbt) (.inl λ_ _ h=>h)
  exact fin (nS S φ') (λb o G=>G.elim (λhs=>(r.sup b o hs).1) (λ⟨t,y⟩=>(r.ex t b o y).1)) (λi b o n hs=>hs.elim (E i b o n).2.1 (λ⟨t,y⟩=>(E i b o n).1 t y)) hA1 (.inr hfr)
def td{F:Nat->AV}{x:Operand}{K:Nat->Nat->Prop}(h:zA F x K):∃s t off,x=.tmp s/\F s=.ref t off []/\K t off:=by
 unfold zA at h;split at h
 case h_2=>exact h.elim
 rename_i s;split at h
 case h_2=>exact h.elim
 rename_i t off a;exact⟨s,t,off,rfl,a,h⟩
def bo.refBox(h:bo w0 M S0 N S φ F a w){s:Nat}(e:F s=.ref t off [])(f:F t=.H .box cs){g o:Nat}(i:tvs a t=.pointer (some ⟨g,o,none⟩)):tvs a s=.pointer (some ⟨g,o+off,none⟩):=by
 have d:=h.slot s;rw[e]at d;obtain⟨k,l,r,j,p,q,c,-,b,n⟩:=d;rw[f]at c;simp only[AV.H.injEq]at c;obtain⟨rfl,rfl⟩:=c;rw[i]at b;simp only[plc,oX,Z5,C1,Prod.mk.injEq]at b;rw[n,<-b.1,<-b.2]
def wS(w:World)(g o j d:Nat):cr w .box (.pointer (some ⟨g,o+j,none⟩)) d=cr w .box (.pointer (some ⟨g,o,none⟩)) (j+d):=by
 simp only[cr,Nat.add_assoc]
def LK{j:Nat}{c:C}(h:(bz cs off n)[j]? = some c):j<n/\cs[off+j]? = some c:=by
 unfold bz at h;rw[List.getElem?_take]at h;split at h
 ·rename_i a;exact⟨a,by rw[List.getElem?_drop]at h;exact h⟩
 cases h
def piece(g o:Nat)(f:Nat->af)(lo a:Nat):af:=λb x=>(b=g/\o+lo<=x/\x<o+a)\/∃j,lo<=j/\j<a/\f j b x
def uF{w:World}{S p Y:af}{f:Nat->af}{g o lo:Nat}(E:lo+n<=cs.length)(q:∀j,j<cs.length->p g (o+j)/\(∃z,cel w g (o+j)=some z)/\fro w g (o+j)=NF)(h1:∀j c,cs[j]? = some c->eY w S (f j) c (cr w .box (.pointer (some ⟨g,o,none⟩)) j))(r:∀j,j<cs.length->∀b x,f j b x->Y b x)(t:∀j e,j<cs.length->e<cs.length->j≠e->∀b x,f j b x->¬f e b x)(i:∀b x,p b x->¬Y b x) :
  qD w S (piece g o f lo (lo+n)) (.ptr (bz cs lo n)) (.pointer (some ⟨g,o+lo,none⟩)):=by
 have u:(bz cs lo n).length=n:=by simp[bz];omega
 refine⟨λb x=>b=g/\o+lo<=x/\x<o+(lo+n),λb x=>∃j,lo<=j/\j<lo+n/\f j b x,λb x h=>.inl h,λb x h=>.inr h,λb x k ⟨j,l,d,a⟩=>?_,⟨g,o+lo,rfl,λj a=>?_⟩,λj=>f (lo+j),λj c a=>?_,λj a b x k=>⟨lo+j,ω,ω,k⟩,λj e a y A=>t _ _ ω ω ω⟩
 ·obtain⟨rfl,B,D⟩:=k
  have:=(q (x - o) ω).1;rw[show o+(x - o)=x by omega]at this;exact i _ _ this (r j ω _ _ a)
 ·rw[u]at a
  have:=q (lo+j) ω;rw[<-Nat.add_assoc]at this;exact⟨⟨rfl,ω,ω⟩,this.2⟩
 obtain⟨l,d⟩:=LK a;rw[wS];exact h1 _ _ d
def bo.callP(h:bo w0 M S0 N S φ F a w)(hxs:MD P f->(execOp a.eval o).run P w=.ok (.enter f (xs.map a.eval).toArray) w){n0 n1:Nat}(hp:kL P N F o.dst f xs n0 n1 K)(hkc:∀F' v w',K F'->St w0 M S0 N F' (a.put o.dst v) w'->Kc (a.put o.dst v) w'):o.wp P a w Kc Q:=by
 unfold kL at hp;split at hp
 case h_2=>exact hp.elim
 rename_i x0 x1;obtain⟨s0,t,A,rfl,hs0,hp⟩:=td hp;obtain⟨s1,E,u,rfl,hs1,hp⟩:=td hp;split at hp
 case h_2=>exact hp.elim
 rename_i cs hF;cases hb:(Nat.beq E t&&Nat.ble (A+n0) u&&Nat.ble (u+n1) cs.length) with
 | false=>rw[hb]at hp;exact hp.elim
 | true=>
 rw[hb]at hp;simp only[cond_true,d3]at hp;simp only[I0]at hb;obtain⟨⟨hb1,hb2⟩,hb3⟩:=hb;have hb1:=O2 hb1;have hb2:=O1 hb2;have hb3:=O1 hb3;subst hb1;obtain⟨sh,B,k,rcs,hc,-,hK⟩:=hp.out;have hst:=h.slot E;rw[hF]at hst;obtain⟨X1,Y,hX1,hY,hXY,⟨g,q,hv,r⟩,ff,hf1,T,hf3⟩:=hst;rw[hv]at hf1;have e0:=h.refBox hs0 hF hv;have e1:=h.refBox hs1 hF hv
 let V:Nat->af:=λi=>if i=0 then piece g q ff A (A+n0) else if i=1 then piece g q ff u (u+n1) else NO
 have hpφ:∀lo L,L<=cs.length->∀b x,piece g q ff lo L b x->φ E b x:=λlo L hhi b x l=>by
  rcases l with⟨rfl,h1,h2⟩|⟨j,-,h2,G⟩
  ·have:=(r (x - q) ω).1
   rw[show q+(x - q)=x by omega]at this;exact hX1 _ _ this
  exact hY _ _ (T j ω b x G)
 have hVφ:∀i b x,V i b x->φ E b x:=λi b x l=>by
  simp only[V]at l;split at l
  ·exact hpφ _ _ ω b x l
  split at l
  ·exact hpφ _ _ ω b x l
  exact l.elim
 have hcX:∀x,q<=x->x<q+cs.length->X1 g x:=λx h1 h2=>by
  have:=(r (x - q) ω).1
  rwa [show q+(x - q)=x by omega]at this
 have hpd:∀lo L lo' hi',L<=lo'->hi'<=cs.length->∀b x,piece g q ff lo L b x->¬piece g q ff lo' hi' b x:=λlo L lo' hi' h1 h2 b x l p=>by
  rcases l with⟨rfl,G,h4⟩|⟨j,G,h4,h5⟩
  ·rcases p with⟨-,h6,h7⟩|⟨C,h6,h7,h8⟩
   ·omega
   exact hXY _ _ (hcX x ω ω) (T C ω _ _ h8)
  rcases p with⟨rfl,h6,h7⟩|⟨C,h6,h7,h8⟩
  ·exact hXY _ _ (hcX x ω ω) (T j ω _ _ h5)
  exact hf3 j C ω ω ω b x h5 h8
 have hVd:∀i i',i≠i'->∀b x,V i b x->¬V i' b x:=λi i' hne b x l p=>by
  simp only[V]at l p;by_cases i0:i=0
  ·rw[CD i0]at l
   by_cases i1:i'=0
   ·omega
   rw[CB i1]at p;split at p
   ·exact hpd _ _ _ _ ω ω b x l p
   exact p
  rw[CB i0]at l;by_cases i2:i=1
  ·rw[CD i2]at l
   by_cases i1:i'=0
   ·rw[CD i1]at p
    exact hpd _ _ _ _ ω ω b x p l
   rw[CB i1,CB ω]at p;exact p
  rw[CB i2]at l;exact l
 have h':=h.forget E;have hφ'le:∀s b x,(if s=E then NO else φ s) b x->s≠E/\φ s b x:=λs b x l=>by
  split at l
  ·exact l.elim
  rename_i hne;exact⟨hne,l⟩
 have hfree:∀b x,φ E b x->(∀s,¬(if s=E then NO else φ s) b x)/\¬S b x/\b<w.heap.size/\(w0.heap.size<=b\/M b x):=λb x l=>⟨λs U=>by
   obtain⟨h1,h2⟩:=hφ'le s b x U;exact h.dis s E h1 b x h2 l,h.disS E b x l,h.ex E b x l⟩
 have W:Free w0 M S (λs=>if s=E then NO else φ s) w (λb x=>∃i,V i b x):=λb x ⟨i,L⟩=>hfree b x (hVφ i b x L)
 have hA:Qx w S V [.ptr (bz cs A n0),.ptr (bz cs u n1)] ([Operand.tmp s0,.tmp s1].map a.eval):=by
  refine⟨?_,?_,trivial⟩
  ·show qD w S (V 0) _ (tvs a s0)
   rw[e0];exact uF ω r hf1 T hf3 hXY
  show qD w S (V 1) _ (tvs a s1);rw[e1];exact uF ω r hf1 T hf3 hXY
 have hrun:=hxs hc.1;have hy:Ac P o a w λv w1=>∃F2,K F2/\St w0 M S0 N F2 (a.put o.dst v) w1:=by
  refine Ac.enter hrun ?_;refine(hc.2 w S V _ (λb x hb=>(h'.sup b x hb).1) (λi b x L=>⟨(W b x ⟨i,L⟩).2.2.1,(W b x ⟨i,L⟩).2.1⟩) hVd hA).mono λe w1 ⟨v,he,hk,X,V',S1,hX,hV',hS1,hVd',hXV,hXS,hVS1,hh,hr,hm⟩=>⟨v,he,?_⟩
  have h1:=h'.world hk W;have reg:∀Z:af,(∀b o,Z b o->(∃i,V i b o)\/(b<w1.heap.size/\w.heap.size<=b))->Free w0 M S (λs=>if s=E then NO else φ s) w1 Z:=λZ hZ b o y=>by
   rcases hZ b o y with y|y
   ·obtain⟨a1,a2,a3,a4⟩:=W b o y
    exact⟨a1,a2,C4 a3 hk.size,a4⟩
   exact⟨λt ht=>by have:=(h'.ex t b o ht).1;omega,λhS=>by have:=(h'.sup b o hS).1;omega,y.1,.inl (O5 h'.old.size y.2)⟩
  have h2:bo w0 M S0 N (λb o=>S b o\/S1 b o) (λs=>if s=E then NO else φ s) (kill F E) a w1:=by
   refine h1.addS (V:=λb o=>S1 b o/\((∃i,V i b o)\/(b<w1.heap.size/\w.heap.size<=b))) (reg _ λb o y=>y.2) (λ_ _ h=>.inl h) (λb o y=>?_);rcases y with y|y
   ·exact .inl y
   rcases hS1 b o y with⟨q1,q2⟩|q
   ·exact .inl q2
   exact .inr ⟨y,q⟩
  have frees:∀Z:af,(∀b o,Z b o->(∃i,V i b o)\/(b<w1.heap.size/\w.heap.size<=b))->(∀b o,Z b o->¬S1 b o)->Free w0 M (λb o=>S b o\/S1 b o) (λs=>if s=E then NO else φ s) w1 Z:=λZ hZ hn b o y=>by
   obtain⟨a1,a2,a3⟩:=reg Z hZ b o y;exact⟨a1,λh=>h.elim a2 (hn b o y),a3⟩
  have hm2:=hm.mono (S':=λb o=>S b o\/S1 b o) λb o y=>y
  unfold zc at hK;split at hK
  case h_2=>exact hK.elim
  rename_i c0 c1 _;cases hl:(Nat.beq c0.length n0&&Nat.beq c1.length n1) with
  | false=>rw[hl]at hK;exact hK.elim
  | true=>
  rw[hl]at hK;simp only[cond_true,d3]at hK;simp only[I0]at hl;have l0:=O2 hl.1;have l1:=O2 hl.2;have hm0:qD w1 (λb o=>S b o\/S1 b o) (V' 0) (.ptr c0) (tvs a s0):=hm2.1;have hm1:qD w1 (λb o=>S b o\/S1 b o) (V' 1) (.ptr c1) (tvs a s1):=hm2.2.1;rw[e0]at hm0;rw[e1]at hm1;obtain⟨Xa,Ya,ha1,ha2,ha3,⟨ga,oa,hea,ha4⟩,fa,ha5,ha6,ha7⟩:=hm0;obtain⟨Xb,Yb,hb1,hb2',hb3',⟨gb,ob,heb,hb4⟩,fb,hb5,hb6,hb7⟩:=hm1;obtain⟨rfl,rfl⟩ : g=ga/\q+A=oa:=by simpa using hea
  obtain⟨rfl,rfl⟩ : g=gb/\q+u=ob:=by simpa using heb
  let R:af:=λb x=>φ E b x/\¬∃i,V i b x
  let IR:Nat->Prop:=λj=>¬(A<=j/\j<A+n0)/\¬(u<=j/\j<u+n1)
  have hIRc:∀j,j<cs.length->IR j->R g (q+j):=λj D L=>⟨hX1 _ _ (r j D).1,λ⟨i,l⟩=>by
    simp only[V]at l;split at l
    · rcases l with⟨-,G,h4⟩|⟨C,G,h4,h5⟩
      · exact L.1 ⟨ω,ω⟩
      exact hXY _ _ (r j D).1 (T C ω _ _ h5)
    split at l
    · rcases l with⟨-,G,h4⟩|⟨C,G,h4,h5⟩
      · exact L.2 ⟨ω,ω⟩
      exact hXY _ _ (r j D).1 (T C ω _ _ h5)
    exact l⟩
  have H:∀j,j<cs.length->IR j->∀b x,ff j b x->R b x:=λj D L b x l=>⟨hY _ _ (T j D b x l),λ⟨i,hv'⟩=>by
    have gen:∀lo n,lo+n<=cs.length->¬(lo<=j/\j<lo+n)->¬piece g q ff lo (lo+n) b x:=λlo n hn hno hp=>by
      rcases hp with⟨rfl,G,h4⟩|⟨C,G,h4,h5⟩
      · exact hXY _ _ (hcX x ω ω) (T j D _ _ l)
      exact hf3 j C D ω (λe=>hno ⟨ω,ω⟩) b x l h5
    simp only[V]at hv';split at hv'
    · exact gen _ _ ω L.1 hv'
    split at hv'
    · exact gen _ _ ω L.2 hv'
    exact hv'⟩
  have O:∀b x,R b x->b<w.heap.size:=λb x l=>(h.ex E b x l.1).1
  have hRsame:bq R w w1:=λb x l=>⟨hk.cel b x (O b x l) l.2,hk.fro b x (O b x l) l.2⟩
  have J:∀i b x,R b x->¬V' i b x:=λi b x l hv'=>by
   rcases hV' i b x hv' with G|G
   ·exact l.2 G
   have:=O b x l;omega
  have hRS1:∀b x,R b x->¬S1 b x:=λb x l U=>by
   rcases hS1 b x U with⟨-,G⟩|G|G
   ·exact h.disS E b x l.1 G
   ·exact l.2 G
   have:=O b x l;omega
  have hSsame:bq S w w1:=λb x hb=>⟨hk.cel b x (h.sup b x hb).1 (λ⟨i,L⟩=>h.disS E b x (hVφ i b x L) hb),hk.fro b x (h.sup b x hb).1 (λ⟨i,L⟩=>h.disS E b x (hVφ i b x L) hb)⟩
  let Z:af:=λb x=>V' 0 b x\/V' 1 b x\/R b x
  have hZ:Free w0 M (λb o=>S b o\/S1 b o) (λs=>if s=E then NO else φ s) w1 Z:=λb x y=>by
   rcases y with y|y|y
   ·exact frees (V' 0) (hV' 0) (hVS1 0) b x y
   ·exact frees (V' 1) (hV' 1) (hVS1 1) b x y
   obtain⟨a1,a2,a3,a4⟩:=hfree b x y.1;exact⟨a1,λhh=>hh.elim a2 (hRS1 b x y),C4 a3 hk.size,a4⟩
  have hget:∀j,(splice (splice cs A c0) u c1)[j]? = if u<=j/\j<u+n1 then c1[j - u]? else if A<=j/\j<A+n0 then c0[j - A]? else cs[j]?:=λj=>by
   rw[gN (by rw[cC ω];omega),gN ω,l0,l1]
  have hlen:(splice (splice cs A c0) u c1).length=cs.length:=by rw[cC (by rw[cC ω];omega),cC ω]
  have hsl:cS w1 (λb o=>S b o\/S1 b o) (kill F E) (tvs a) Z (.H .box (splice (splice cs A c0) u c1)) (tvs a E):=by
   refine⟨λb x=>(R b x/\∃j,j<cs.length/\IR j/\b=g/\x=q+j)\/Xa b x\/Xb b x,λb x=>(∃j,j<cs.length/\IR j/\ff j b x)\/Ya b x\/Yb b x,λb x l=>?_,λb x l=>?_,λb x l hy=>?_,⟨g,q,hv,λj D=>?_⟩,λj=>if u<=j/\j<u+n1 then fb (j - u) else if A<=j/\j<A+n0 then fa (j - A) else ff j,λj c D=>?_,λj D b x l=>?_,λj C D hj' hne b x l p=>?_⟩
   ·rcases l with l|l|l
    ·exact .inr (.inr l.1)
    ·exact .inl (ha1 _ _ l)
    exact .inr (.inl (hb1 _ _ l))
   ·rcases l with⟨j,G,h4,h5⟩|l|l
    ·exact .inr (.inr (H j G h4 b x h5))
    ·exact .inl (ha2 _ _ l)
    exact .inr (.inl (hb2' _ _ l))
   ·rcases l with⟨l,j,G,h4,rfl,rfl⟩|l|l
    ·rcases hy with⟨C,h5,h6,h7⟩|hy|hy
     ·exact hXY _ _ (r j G).1 (T C h5 _ _ h7)
     ·exact J 0 _ _ l (ha2 _ _ hy)
     exact J 1 _ _ l (hb2' _ _ hy)
    ·rcases hy with⟨C,h5,h6,h7⟩|hy|hy
     ·exact J 0 _ _ (H C h5 h6 b x h7) (ha1 _ _ l)
     ·exact ha3 _ _ l hy
     exact hVd' 0 1 ω _ _ (ha1 _ _ l) (hb2' _ _ hy)
    rcases hy with⟨C,h5,h6,h7⟩|hy|hy
    ·exact J 1 _ _ (H C h5 h6 b x h7) (hb1 _ _ l)
    ·exact hVd' 0 1 ω _ _ (ha2 _ _ hy) (hb1 _ _ l)
    exact hb3' _ _ l hy
   ·rw[hlen]at D
    by_cases hj1:u<=j/\j<u+n1
    ·have:=hb4 (j - u) ω
     rw[show q+u+(j - u)=q+j by omega]at this;exact⟨.inr (.inr this.1),this.2⟩
    by_cases hj0:A<=j/\j<A+n0
    ·have:=ha4 (j - A) ω
     rw[show q+A+(j - A)=q+j by omega]at this;exact⟨.inr (.inl this.1),this.2⟩
    have hR:=hIRc j D ⟨hj0,hj1⟩;have U:=hRsame _ _ hR;refine⟨.inl ⟨hR,j,D,⟨hj0,hj1⟩,rfl,rfl⟩,?_,?_⟩
    ·rw[U.1];exact(r j D).2.1
    rw[U.2];exact(r j D).2.2
   ·rw[hget]at D
    rw[hv];dsimp only;by_cases hj1:u<=j/\j<u+n1
    ·rw[CD hj1]at D |-
     have:=hb5 _ _ D
     rwa [wS,show u+(j - u)=j by omega]at this
    rw[CB hj1]at D |-;by_cases hj0:A<=j/\j<A+n0
    ·rw[CD hj0]at D |-
     have:=ha5 _ _ D
     rwa [wS,show A+(j - A)=j by omega]at this
    rw[CB hj0]at D |-;have hjl:=(X2.1 D).1;have G:=(hf1 j c D).keep hSsame (λb x l=>hRsame b x (H j hjl ⟨hj0,hj1⟩ b x l));have hce:=(hRsame _ _ (hIRc j hjl ⟨hj0,hj1⟩)).1;have:cr w1 .box (.pointer (some ⟨g,q,none⟩)) j=cr w .box (.pointer (some ⟨g,q,none⟩)) j:=by
     simp only[cr];rw[hce]
    rw[this];exact G.mono (λ_ _ h=>.inl h) (λ_ _ h=>h)
   ·rw[hlen]at D
    split at l
    ·exact .inr (.inr (hb6 _ ω b x l))
    rename_i hj1;split at l
    ·exact .inr (.inl (ha6 _ ω b x l))
    rename_i hj0;exact .inl ⟨j,D,⟨hj0,hj1⟩,l⟩
   rw[hlen]at D hj';have fbV:∀i,i<n1->∀b x,fb i b x->V' 1 b x:=λi L b x l=>hb2' _ _ (hb6 i ω b x l)
   have faV:∀i,i<n0->∀b x,fa i b x->V' 0 b x:=λi L b x l=>ha2 _ _ (ha6 i ω b x l)
   by_cases c1:u<=j/\j<u+n1
   ·rw[CD c1]at l
    by_cases d1:u<=C/\C<u+n1
    ·rw[CD d1]at p
     exact hb7 _ _ ω ω ω b x l p
    rw[CB d1]at p;by_cases d0:A<=C/\C<A+n0
    ·rw[CD d0]at p
     exact hVd' 0 1 ω b x (faV _ ω b x p) (fbV _ ω b x l)
    rw[CB d0]at p;exact J 1 b x (H C hj' ⟨d0,d1⟩ b x p) (fbV _ ω b x l)
   rw[CB c1]at l;by_cases c0':A<=j/\j<A+n0
   ·rw[CD c0']at l
    by_cases d1:u<=C/\C<u+n1
    ·rw[CD d1]at p
     exact hVd' 0 1 ω b x (faV _ ω b x l) (fbV _ ω b x p)
    rw[CB d1]at p;by_cases d0:A<=C/\C<A+n0
    ·rw[CD d0]at p
     exact ha7 _ _ ω ω ω b x l p
    rw[CB d0]at p;exact J 0 b x (H C hj' ⟨d0,d1⟩ b x p) (faV _ ω b x l)
   rw[CB c0']at l;by_cases d1:u<=C/\C<u+n1
   ·rw[CD d1]at p
    exact J 1 b x (H j D ⟨c0',c1⟩ b x l) (fbV _ ω b x p)
   rw[CB d1]at p;by_cases d0:A<=C/\C<A+n0
   ·rw[CD d0]at p
    exact J 0 b x (H j D ⟨c0',c1⟩ b x l) (faV _ ω b x p)
   rw[CB d0]at p;exact hf3 j C D hj' hne b x l p
  have G:=h2.revive (n6 F E) hZ hsl;cases hd:o.dst with
  | none=>
   rw[hd]at hK;exact⟨_,hK,_,_,G⟩
  | some d=>
   rw[hd]at hK;have hXf:Free w0 M (λb o=>S b o\/S1 b o) (λs=>if s=E then Z else if s=E then NO else φ s) w1 X:=λb o y=>by
    obtain⟨a1,a2,a3⟩:=frees X hX hXS b o y;refine⟨λs U=>?_,a2,a3⟩;replace U:(if s=E then Z else if s=E then NO else φ s) b o:=U;split at U
    ·rcases U with U|U|U
     ·exact hXV 0 b o y U
     ·exact hXV 1 b o y U
     rcases hX b o y with h4|h4
     ·exact U.2 h4
     have:=O b o U;omega
    rename_i hne;exact a1 s (by dsimp only;rw[CB hne];first|exact U|(rw[CB hne]at U;exact U))
   exact G.putD_free (X:=X) ⟨NO,X,λ_ _ h=>h.elim,λ_ _ h=>h,λ_ _ h=>h.elim,hh,hr.mono (λ_ _ h=>.inr h) (λ_ _ h=>h)⟩ hXf hK
 exact hy Kc Q λv w1 ⟨F2,q1,q2⟩=>hkc F2 v w1 q1 q2
def bo.callM(h:bo w0 M S0 N S φ F a w)(b:MD P f->(execOp a.eval o).run P w=.ok (.enter f (xs.map a.eval).toArray) w)(d:kM P N F o.dst f xs modes K)(c:∀F' v e,K F'->St w0 M S0 N F' (a.put o.dst v) e->Kc (a.put o.dst v) e):o.wp P a w Kc Q:=by
 unfold kM at d;split at d
 ·exact h.callP b d c
 exact h.callO b d c
end
open Go.ChangeMaps (setBlock)
def qB(TE:Nat->Option TI)(N:fD)(F:Nat->AV)(d T:Nat)(x:Operand)(K:(Nat->AV)->Prop):Prop:=
 match TE T with
 | some ⟨_,_,_,.mp _ _ _⟩=>ij F x λa b c=>match b,c with
  | none,[.m es]=>bS N a d (.H .one [.it none (es.map (·.1))]) K
  | _,_=>False
 | _=>False
inductive Nt(left:List Int)(K:Option (Int × List Int)->Prop):Prop
 |mk_ (h:(left=[]->K none)/\∀l1 k l2,left=l1++k::l2->K (some (k,l1++l2)))
variable{left:List Int}
def Nt.mk{K:Option (Int × List Int)->Prop}(c:left=[]->K none)(h1:∀a k b,left=a++k::b->K (some (k,a++b))):Nt left K:=.mk_ ⟨c,h1⟩
def Nt.out{K:Option (Int × List Int)->Prop}(h:Nt left K):(left=[]->K none)/\∀a k b,left=a++k::b->K (some (k,a++b)):=by
 obtain⟨h⟩:=h;exact h
def tU(N:fD)(F:Nat->AV)(d:Nat)(x:Operand)(K:(Nat->AV)->Prop):Prop:=
 match x with
 | .tmp s=>(match F s with
   | .H .one [.it _ left]=>Nt left λr=>match r with
     | none=>bS N F d (.H (.tup [none]) [.v (.bool false)]) K
     | some p=>bS N (updH F s .one [.it (some p.1) p.2]) d (.H (.tup [none,none,none]) [.v (.bool true),.v (.int .i64 p.1),.x]) K
   | _=>False)
 | _=>False
def qw(N:fD)(F:Nat->AV)(d:Nat)(x:Operand)(K:(Nat->AV)->Prop):Prop:=
 match x with
 | .tmp s=>(match F s with
   | .H .one [.it (some k) _]=>bS N F d (.H (.tup [none,none]) [.v (.int .i64 k),.x]) K
   | _=>False)
 | _=>False
def ju(N:fD)(F:Nat->AV)(d:Nat)(x:Operand)(K:(Nat->AV)->Prop):Prop:=
 match x with
 | .tmp t=>(match F t with
   | .H (.tup sh) b=>bif aZ b then bS N F d (.H (.tup sh) b) K else bS N (updH F t (.tup sh) (splice b 0 (List.replicate b.length .x))) d (.H (.tup sh) b) K
   | .H .one _=>bu F (.tmp t) λa=>bS N F d a K
   | .H .agg _=>bu F (.tmp t) λa=>bS N F d a K
   | .H .box _=>bu F (.tmp t) λa=>bS N F d a K
   | .ref ..=>bu F (.tmp t) λa=>bS N F d a K
   | .c2 ..=>bu F (.tmp t) λa=>bS N F d a K
   | .iref ..=>bu F (.tmp t) λa=>bS N F d a K
   | .fn ..=>bu F (.tmp t) λa=>bS N F d a K
   | .fv _=>bu F (.tmp t) λa=>bS N F d a K
   | .dead=>bu F (.tmp t) λa=>bS N F d a K)
 | x=>bu F x λa=>bS N F d a K
section
variable{P:Program}{w0 w w1:World}{M S0 S:af}{N:fD}{φ:Nat->af}{F:Nat->AV}{a:Act}{TE:Nat->Option TI}
variable{v:Value}
def Nu{Y:af}{cur:Option Int}{left:List Int}(h:eY w S Y (.it cur left) v):∃(r b since f d:Nat)(seen:Array Nat)(a:Array MapEntry),v=.pointer (some ⟨r,0,none⟩)/\(∀o,Y r o/\Y b o)/\mp w r=some (.mapIter (some b) since seen f)/\mp w b=some (.map a d)/\
  ((a.toList.map (·.born)).Nodup/\∀x∈a.toList,x.born<since)/\(since<=f/\since<=d)/\(∀x∈a.toList,x.val.oneCell'=true)/\(leftOf a seen).toList.map (·.key)=left.map (Value.int .i64)/\(∀k,cur=some k->f=d/\∃e∈a.toList,∃n:Array Nat,seen=n.push e.born/\e.key=.int .i64 k):=by
 generalize l:C.it cur left=c at h;cases h with
 | it _ r b since f d seen a cur' left' p q t i j u y g=>cases l;exact⟨r,b,since,f,d,seen,a,rfl,p,q,t,i,j,u,y,g⟩
 | _=>cases l
def Tl{b:Nat}{o:Obj}(h:mp w b=some o):b<w.heap.size:=by
 rcases Nat.lt_or_ge b w.heap.size with a|a
 ·exact a
 unfold mp at h;rw[Array.getElem?_eq_none a]at h;cases h
def BY{b:Nat}{o:Obj}(h:b<w.heap.size):mp (w.alloc o) b=mp w b:=by
 unfold mp;rw[heap_alloc_old w o h]
def Lu{a:Array MapEntry}{c:List (Int × Value)}(d:a.toList.map (λe=>(e.key,e.val))=c.map (λp=>(Value.int .i64 p.1,p.2)))(b:∀p∈c,p.2.oneCell'=true):∀x∈a.toList,x.val.oneCell'=true:=by
 intro y f;have:(y.key,y.val)∈a.toList.map (λe=>(e.key,e.val)):=Z4.2 ⟨y,f,rfl⟩;rw[d]at this;obtain⟨p,g,e⟩:=Z4.1 this;have:=b p g;simp only[Prod.mk.injEq]at e;rw[<-e.2];exact this
variable{K:(Nat->AV)->Prop}{x:Operand}{d:Nat}
def bo.rangeW(h:bo w0 M S0 N S φ F a w)(q:∀t i,TE t=some i->bQ P t i){T:Nat}(n:qB TE N F d T x K) :
  ∃v w1 F',K F'/\(Instr.range T (a.eval x)).run P w=.ok v w1/\St w0 M S0 N F' (a.put (some d) v) w1:=by
 unfold qB at n;split at n
 case h_2=>exact n.elim
 rename_i D;obtain⟨E,-,-,-⟩:=(q _ _ D).2.2;obtain⟨F',G,H,V,φ',r,p,J,L,hs,O⟩:=h.taken n
 match G,H,r with
 | none,[.m es],r=>
  obtain⟨b,c,e,Q,j,f,C,u,y⟩:=Qd J.rep1;have A:=Tl f
  let o:Obj:=.mapIter (some b) c #[] c
  have R:=p.world (w1:=w.alloc o) (dl w _) (λ_ _ h=>h.elim);have g:leftOf e #[]=e:=by unfold leftOf;simp
  obtain⟨U,B,l⟩:=R.putD_free (X:=λb o=>V b o\/b=w.heap.size) (v:=.pointer (some ⟨w.heap.size,0,none⟩)) (F:=F')
   (gz (.it _ w.heap.size b c c c #[] e none (es.map (·.1)) (λo=>⟨.inr rfl,.inl (j o)⟩) (by unfold mp;rw[heap_alloc_new]) ((BY A).trans f) y ⟨W3 _,W3 _⟩ (Lu C u)
     (by
       rw[g];have:=Z0 (List.map Prod.fst) C;simpa[List.map_map,X6] using this) (λk W=>by cases W))) (λb o f=>by
   rcases f with f|f
   · obtain⟨Y,Z,a3,a4⟩:=L b o f
     exact⟨Y,Z,by rw[gc];omega,a4⟩
   exact⟨λt ht=>by have:=(p.ex t b o ht).1;omega,λhS=>by have:=(p.sup b o hS).1;omega,by rw[gc];omega,.inl (by rw[f];exact p.old.size)⟩) r
  exact⟨_,_,U,B,by rw[Q];exact run_range_map w T _ _ b e c E (qj f),l⟩
def uV(a:v.oneCell'=true):v.cells = #[v]:=by
 cases v<;>first|rfl|(cases a)
def Mb{a:Array MapEntry}{seen:Array Nat}{e:MapEntry}(j:(a.toList.map (·.born)).Nodup)(k:e∈(leftOf a seen).toList):∃c d,(leftOf a seen).toList=c++e::d/\(leftOf a (seen.push e.born)).toList=c++d:=by
 obtain⟨c,d,f⟩:=List.append_of_mem k;refine⟨c,d,f,?_⟩;have l:(leftOf a (seen.push e.born)).toList=(leftOf a seen).toList.filter λy=>!(y.born == e.born):=by
  unfold leftOf;rw[Array.toList_filter,Array.toList_filter,List.filter_filter]
  congr 1
  funext y
  rw[contains_push,Bool.not_or,Bool.and_comm]
 have b:((leftOf a seen).toList.map (·.born)).Nodup:=by
  unfold leftOf;rw[Array.toList_filter];exact j.sublist (List.filter_sublist.map _)
 rw[f]at b;rw[l,f,List.filter_append,List.filter_cons];simp only[beq_self_eq_true,Bool.not_true,Bool.false_eq_true,if_false];rw[W6,Y6,List.nodup_append,List.nodup_cons]at b;obtain⟨-,⟨g,-⟩,h⟩:=b;have n:c.filter (λy=>!(y.born == e.born))=c:=List.filter_eq_self.2 λy i=>by
  have:=h y.born (Z4.2 ⟨y,i,rfl⟩) e.born (C2 ..);simpa using this
 have o:d.filter (λy=>!(y.born == e.born))=d:=List.filter_eq_self.2 λy i=>by
  have:y.born≠e.born:=λp=>g (by rw[<-p];exact Z4.2 ⟨y,i,rfl⟩)
  simpa using this
 rw[n,o]
variable{tv:Nat->Value}
def tup3{w:World}{S:af}{F:Nat->AV}{k:Int}(b:v.oneCell'=true):cS w S F tv NO (.H (.tup [none,none,none]) [.v (.bool true),.v (.int .i64 k),.x]) (.tuple #[.bool true,.int .i64 k,v]):=by
 have d:v.cells = #[v]:=uV b;refine⟨NO,NO,λ_ _ h=>h,λ_ _ h=>h,λ_ _ h=>h.elim,⟨_,rfl,⟨rfl,rfl,d,trivial⟩,rfl⟩,λ_=>NO,λj c a=>?_,λ_ _ _ _ h=>h,λ_ _ _ _ _ _ _ h=>h.elim⟩;have e:ny (.tuple #[.bool true,.int .i64 k,v])=[.bool true,.int .i64 k,v]:=by
  show #[Value.bool true].toList++(#[Value.int .i64 k].toList++(v.cells.toList++[]))=_;rw[d];rfl
 simp only[cr,e]
 match j,a with
 | 0,a=>simp at a;subst a;exact .v _ _ rfl
 | 1,a=>simp at a;subst a;exact .v _ _ rfl
 | 2,a=>simp at a;subst a;exact .x _ _ b
 | j+3,a=>simp at a
def tup2{w:World}{S:af}{F:Nat->AV}{k:Int}(b:v.oneCell'=true):cS w S F tv NO (.H (.tup [none,none]) [.v (.int .i64 k),.x]) (.tuple #[.int .i64 k,v]):=by
 have d:v.cells = #[v]:=uV b;refine⟨NO,NO,λ_ _ h=>h,λ_ _ h=>h,λ_ _ h=>h.elim,⟨_,rfl,⟨rfl,d,trivial⟩,rfl⟩,λ_=>NO,λj c a=>?_,λ_ _ _ _ h=>h,λ_ _ _ _ _ _ _ h=>h.elim⟩;have e:ny (.tuple #[.int .i64 k,v])=[.int .i64 k,v]:=by
  show #[Value.int .i64 k].toList++(v.cells.toList++[])=_;rw[d];rfl
 simp only[cr,e]
 match j,a with
 | 0,a=>simp at a;subst a;exact .v _ _ rfl
 | 1,a=>simp at a;subst a;exact .x _ _ b
 | j+2,a=>simp at a
def tup1{w:World}{S:af}{F:Nat->AV}(b:v.oneCell'=true):cS w S F tv NO (.H (.tup [none]) [.v v]) (.tuple #[v]):=by
 have d:v.cells = #[v]:=uV b;refine⟨NO,NO,λ_ _ h=>h,λ_ _ h=>h,λ_ _ h=>h.elim,⟨_,rfl,⟨d,trivial⟩,rfl⟩,λ_=>NO,λj c a=>?_,λ_ _ _ _ h=>h,λ_ _ _ _ _ _ _ h=>h.elim⟩;have e:ny (.tuple #[v])=[v]:=by
  show v.cells.toList++[]=_;rw[d];rfl
 simp only[cr,e]
 match j,a with
 | 0,a=>simp at a;subst a;exact .v _ _ b
 | j+1,a=>simp at a
def bo.entryW(h:bo w0 M S0 N S φ F a w)(c:qw N F d x K) :
  ∃v F',K F'/\(Instr.entry (a.eval x)).run P w=.ok v w/\St w0 M S0 N F' (a.put (some d) v) w:=by
 cases x with
 | tmp s=>
  simp only[qw]at c;have q:=h.slot s;split at c
  case h_2=>exact c.elim
  rename_i k left y;rw[y]at q;obtain⟨L,Y,O,Q,R,T,f,A,U,V⟩:=q;obtain⟨r,b,since,B,l,seen,g,n,t,C,D,o,E,p,W,i⟩:=Nu (A 0 _ rfl);obtain⟨rfl,e,u,G,rfl,H⟩:=i k rfl;have n:tvs a s=.pointer (some ⟨r,0,none⟩):=n;obtain⟨F',J,j⟩:=h.putD_new (v:=.tuple #[.int .i64 k,e.val]) (.same (tup2 (p e u))) c;refine⟨_,F',J,?_,j⟩;show(Instr.entry (tvs a s)).run P w=_;rw[n,<-H];exact run_entry_at w r b since G g B e (D2 C) (qj D) u o.1
 | _=>exact c.elim
def bo.nextW(h:bo w0 M S0 N S φ F a w){ty:Nat}(E:tU N F d x K) :
  ∃v w1 F',K F'/\(Instr.next (a.eval x) false ty).run P w=.ok v w1/\St w0 M S0 N F' (a.put (some d) v) w1:=by
 cases x with
 | tmp s=>
  simp only[tU]at E;have hs:=h.slot s;split at E
  case h_2=>exact E.elim
  rename_i cur left hF;rw[hF]at hs;obtain⟨X1,Y,e1,e2,e3,e4,f,f1,f2,f3⟩:=hs;obtain⟨r,b,since,c0,i,seen,q,Z,D,hr,hb,G,H,Q,hl,hcur⟩:=Nu (f1 0 _ rfl);have Z:tvs a s=.pointer (some ⟨r,0,none⟩):=Z;obtain⟨p0,p1⟩:=E.out;show ∃v w1 F',K F'/\(Instr.next (tvs a s) false ty).run P w=.ok v w1/\St w0 M S0 N F' (a.put (some d) v) w1
  rw[Z];rcases run_next_at (P:=P) w ty r b since c0 seen q i (D2 hr) (qj hb) G.2 H.1 with⟨hsz,u⟩|⟨e,he,l,R,u⟩
  ·have hle:left=[]:=by
    have:(leftOf q seen).toList=[]:=by
     rw[<-List.length_eq_zero_iff];simpa using hsz
    rw[this]at hl;exact List.map_eq_nil_iff.1 hl.symm
   obtain⟨F',hK,y⟩:=h.putD_new (v:=.tuple #[.bool false]) (.same (tup1 rfl)) (p0 hle);exact⟨_,_,F',hK,u,y⟩
  obtain⟨l1,l2,q1,q2⟩:=Mb G.1 he;have T:=(mem_left he).1;rw[q1,W6,Y6]at hl;obtain⟨m1,U,hm,hm1,A⟩:=List.map_eq_append_iff.1 hl.symm;cases U with
  | nil=>simp at A
  | cons k U=>
   simp only[Y6,List.cons.injEq]at A;obtain⟨hk,A⟩:=A;have E:=p1 m1 k U hm;have h2:bo w0 M S0 N S φ F a l:=by
    rcases R with rfl|rfl
    ·exact h
    exact h.more (w1:={w with drawn:=w.drawn+1}) (λ_ _ h=>h) (λ_ _ h=>.inl h) ⟨rfl,rfl,rfl,W3 _,λ_ _ _=>rfl,λ_ _ _ _=>rfl,λ_ _ _ _=>rfl⟩
   have B:l.heap=w.heap:=by rcases R with rfl|rfl<;>rfl
   have J:mp l r=some (.mapIter (some b) since seen c0):=by unfold mp;rw[B];exact hr
   have L:mp l b=some (.map q i):=by unfold mp;rw[B];exact hb
   have hlt:r<l.heap.size:=Tl J;have hbr:b≠r:=λe=>by rw[e,J]at L;cases L
   let V:Obj:=.mapIter (some b) since (seen.push e.born) i
   let n:World:=setBlock l r V
   have hh:∀g,n.heap[g]? = if g=r then some V else l.heap[g]?:=λg=>tg (w:=l) (b:=r) (o:=V) hlt g
   have hother:∀g,g≠r->∀o,cel n g o=cel l g o/\fro n g o=fro l g o:=λg hne o=>by
    have p:n.heap[g]? = l.heap[g]?:=(hh g).trans (CB hne);refine⟨?_,Prod.ext ?_ ?_⟩
    ·show World.cell? n _=World.cell? l _
     unfold World.cell?;simp only[p]
    ·show World.frozen? n _=World.frozen? l _
     unfold World.frozen?;simp only[p]
    show mp n g=mp l g;unfold mp;rw[p]
   have O:∀o,cel n r o=cel l r o:=λo=>by
    have h1:n.heap[r]? = some V:=(hh r).trans (CD rfl);have h2:=D2 J;show World.cell? n _=World.cell? l _;unfold World.cell?;simp[h1,h2,V]
   have W:∀o,φ s r o:=λo=>e2 _ _ (f2 0 (Nat.zero_lt_one) _ _ (D o).1)
   have hk1:bZ (φ s) l n:=by
    refine⟨rfl,rfl,rfl,by simp[n,setBlock],λg p hn=>(hh g).trans (CB λe=>?_),λg o p hn=>?_,λg o p hn=>?_⟩
    ·subst e;exact hn 0 (W 0)
    ·by_cases e:g=r
     ·subst e;exact O o
     exact(hother g e o).1
    by_cases e:g=r
    ·subst e;exact absurd (W o) hn
    exact(hother g e o).2
   have hsame:∀X:af,(∀g o,X g o->g≠r)->bq X l n:=λX hX g o p=>hother g (hX g o p) o
   have h3:bo w0 M S0 N S (λt=>if t=s then φ s else φ t) (updH F s .one [.it (some k) (m1++U)]) a n:=by
    refine h2.upd (X:=φ s) hk1 hF (λb o hb=>.inl hb) ⟨NO,Y,λ_ _ h=>h.elim,e2,λ_ _ h=>h.elim,rfl,f,λj c C=>?_,λj C=>f2 j C,λj j' C hj'=>f3 j j' C hj'⟩
    match j,C with
    | 0,C=>
     simp at C;subst C;show eY n S (f 0) _ (tvs a s);rw[Z];refine .it _ r b since i i (seen.push e.born) q (some k) (m1++U) D (by show mp n r=_;unfold mp;rw[(hh r).trans (CD rfl)]) (by
       have:mp n b=mp l b:=Z0 Prod.snd (hother b hbr 0).2;rw[this];exact L) G ⟨H.2,H.2⟩ Q (by rw[q2,W6,W6,hm1,A]) (λk' hk'=>by cases hk';exact⟨rfl,e,T,seen,rfl,hk.symm⟩)
    | j+1,C=>simp at C
   obtain⟨F',hK,y⟩:=h3.putD_new (v:=.tuple #[.bool true,.int .i64 k,e.val]) (.same (tup3 (Q e T))) E;exact⟨_,_,F',hK,by rw[u,<-hk],y⟩
 | _=>exact E.elim
def bo.moveW(h:bo w0 M S0 N S φ F a w)(c:ju N F d x K) :
  ∃F',K F'/\St w0 M S0 N F' (a.put (some d) (a.eval x)) w:=by
 have std:bu F x (λC=>bS N F d C K)->∃F',K F'/\St w0 M S0 N F' (a.put (some d) (a.eval x)) w:=λc=>by
  obtain⟨C,E,p⟩:=h.move c;exact h.putD_new (.same p) E
 cases x with
 | tmp t=>
  simp only[ju]at c;split at c
  ·rename_i G l r
   cases u:aZ l with
   | true=>
    refine std ?_;simp only[bu,r,u,cond_true];rw[u]at c;exact c
   | false=>
    rw[u]at c;simp only[cond_false]at c;have p:=h.slot t;rw[r]at p;obtain⟨Q,R,-,-,-,H,-⟩:=p;obtain⟨V,X,y,J,T,D,L⟩:=h.take (off:=0) (n:=l.length) r ω;have O:bz l 0 l.length=l:=by simp[bz]
    rw[O]at D;have k:Free w0 M S (λs=>if s=t then X else φ s) w V:=λb o q=>⟨λs i=>by
      simp only at i;by_cases e:s=t
      · rw[CD e]at i;exact J b o q i
      rw[CB e]at i;exact h.dis s t e b o i (y b o q),h.disS t b o (y b o q),h.ex t b o (y b o q)⟩
    obtain⟨P,A,B⟩:=L.putD_free (X:=V) (v:=tvs a t) ⟨NO,V,λ_ _ h=>h.elim,λ_ _ h=>h,λ_ _ h=>h.elim,(show gu w NO (.tup G) l.length (tvs a t) from H),D.congr λj U=>by rw[Y7]⟩ k c;exact⟨P,A,B⟩
  all_goals exact std c
 | const v=>exact std c
 | global g=>exact std c
 | func f=>exact std c
end
def Fi(F:Nat->AV)(d:Nat)(b:Bool):Nat->AV:=λt=>bif Nat.beq t d then .H .one [.v (.bool b)] else F t
def fJ(F:Nat->AV)(ops:Array Oper)(g:Option (Nat × Bool))(a c:(Nat->AV)->Prop):Prop:=
 match g with
 | none=>a F
 | some (j,want)=>match(ops[j]?).bind (·.dst) with
  | some d=>(match F d with
    | .H .one [.v (.bool b)]=>Bf b (bif want then a (Fi F d true) else c (Fi F d true)) (bif want then c (Fi F d false) else a (Fi F d false))
    | .H (.tup _) _=>c F
    | _=>False)
  | none=>False
def pF(c:Call):Option (Nat × Operand × Operand):=
 match c.callee with
 | .builtin .append=>(match c.args.toList,c.argTypes.toList with|[x,y],[T,a]=>bif Nat.beq T a then some (T,x,y) else none|_,_=>none)
 | _=>none
def Dy(N:fD)(F:Nat->AV)(d:Nat)(x:Operand):Option (Nat × List C):=
 match x with
 | .tmp t=>(match F t with
   | .H .box a=>bif N.mo.any λp=>Nat.beq p.1 (3000000+d) then some (t,a) else none
   | _=>none)
 | _=>none
def Mr(N:fD)(d:Nat)(x:Operand):Bool:=
 match x with
 | .const (.slice none 0 0)=>N.mo.any λp=>Nat.beq p.1 (6000000+d)
 | _=>false
def KI(N:fD)(F:Nat->AV)(d:Nat)(x:Operand)(K:(Nat->AV)->Prop):Prop:=
 match Dy N F d x with
 | some p=>bS N (kill F p.1) d (.H .box p.2) K
 | none=>lv N F d x K
def Ew(N:fD)(F:Nat->AV)(d:Nat)(x:Operand)(K:(Nat->AV)->Prop):Prop:=bif Mr N d x then bS N F d (.H .one [.v (.slice none 0 0)]) K else KI N F d x K
variable{x:Operand}{N:fD}
def RQ{d:Nat}(h:Mr N d x=true):x=.const (.slice none 0 0):=by
 unfold Mr at h;split at h
 ·rfl
 cases h
def B9{d:Nat}{p:Nat × List C}(h:Dy N F d x=some p):x=.tmp p.1/\F p.1=.H .box p.2:=by
 unfold Dy at h;split at h
 case h_2=>cases h
 split at h
 case h_2=>cases h
 rename_i t _ c b;cases a:(N.mo.any λp=>Nat.beq p.1 (3000000+d)) with
 | false=>rw[a]at h;cases h
 | true=>rw[a]at h;cases h;exact⟨rfl,b⟩
def ow(P:Program)(TE:Nat->Option TI)(N:fD)(d:Nat)(a:Op)(K:(Nat->AV)->Prop)(F:Nat->AV):Prop:=
 match a with
 | .assign x=>Ew N F d x K
 | .box _ x=>Qi N F d x K
 | .build T ps=>lf TE N F d T ps.toList K
 | .buildSlice T n ps=>gh TE N F d T n ps.toList K
 | .range T x=>qB TE N F d T x K
 | .move x=>ju N F d x K
 | .next x str=>bif str then False else tU N F d x K
 | .entry x=>qw N F d x K
 | .call c=>(match pF c with
   | some p=>Bi TE N F d p.1 p.2.1 p.2.2 K
   | none=>dz P TE F (.call c) λb=>bS N F d b K)
 | a=>dz P TE F a λb=>bS N F d b K
def J1:List (Nat × List Nat)->Nat->Option (List Nat)
 | [],_=>none
 | p::l,f=>bif Nat.beq f p.1 then some p.2 else J1 l f
def BF(N:fD)(F:Nat->AV)(b:Op):Option (Nat × List Operand × List Nat):=
 match b with
 | .call c=>(match c.callee with
   | .value (.func f)=>(match J1 N.mo f with|some a=>some (f,c.args.toList,a)|none=>none)
   | .value (.tmp t)=>(match F t with
     | .fn f caps=>(match J1 N.mo f with|some a=>some (f,c.args.toList++caps.map .tmp,a)|none=>none)
     | _=>none)
   | _=>none)
 | _=>none
def Na(N:fD)(a:Op):Bool:=
 match a with
 | .call c=>(match c.args.toList with
   | .tmp t::_=>N.mo.any λp=>Nat.beq p.1 (4000000+t)
   | _=>false)
 | _=>false
inductive Ch(A B:Prop):Prop
 |pl (h:A)
 |lt (h:B)
def iw(P:Program)(TE:Nat->Option TI)(N:fD)(o:Oper)(K:(Nat->AV)->Prop)(F:Nat->AV):Prop:=
 match o.dst with
 | none=>(match o.op with|.store T x y=>mT TE F T x y K|.mapUpdate T m x y=>nD TE F T m x y K|_=>False)
 | some d=>ow P TE N d o.op K F
def UE:List (Nat × List Nat)->List Nat
 | []=>[]
 | p::l=>bif Nat.ble 5000000 p.1&&Nat.ble p.1 5999999 then(p.1 - 5000000)::UE l else UE l
def dne:Option Nat->Nat->Bool
 | none,_=>true
 | some d,s=>!Nat.beq d s
def rv1(F:Nat->AV)(d:Option Nat)(s:Nat)(a:Nat->AV):Nat->AV:=
 match F s with
 | .ref t off []=>bif dne d s&&dne d t then(match a t with|.H .box _=>(match a s with|.dead=>setH a s (.ref t off [])|_=>a)|_=>a) else a
 | _=>a
def rvE(F:Nat->AV)(d:Option Nat):List Nat->(Nat->AV)->Nat->AV
 | [],a=>a
 | s::l,a=>rvE F d l (rv1 F d s a)
def rvs(F:Nat->AV)(d:Option Nat):List Nat->((Nat->AV)->Prop)->(Nat->AV)->Prop
 | [],K,a=>K a
 | s::l,K,a=>match F s with
  | .ref t off []=>bif dne d s&&dne d t then(match a t with|.H .box _=>(match a s with|.dead=>rvs F d l K (setH a s (.ref t off []))|_=>rvs F d l K a)|_=>rvs F d l K a) else rvs F d l K a
  | _=>rvs F d l K a
def oz{F:Nat->AV}{d:Option Nat}{K:(Nat->AV)->Prop} : ∀{l:List Nat}{a:Nat->AV},rvs F d l K a=K (rvE F d l a)
 | [],a=>rfl
 | s::l,a=>by
  simp only[rvs,rvE];unfold rv1;split
  ·cases b:(dne d s&&dne d _) with
   | false=>exact oz
   | true=>
    simp only[cond_true];split
    ·split
     ·exact oz
     exact oz
    exact oz
  exact oz
def sE(P:Program)(N:fD)(F:Nat->AV)(d:Option Nat)(f:Nat)(args:List Operand)(modes:List Nat)(K:(Nat->AV)->Prop):Prop:=
 kM P N F d f args modes (rvs F d (UE N.mo) K)
def j7(P:Program)(TE:Nat->Option TI)(N:fD)(ops:Array Oper)(o:Oper)(K:(Nat->AV)->Prop)(F:Nat->AV):Prop:=
 fJ F ops o.guard (λF=>match BF N F o.op with
   | some p=>bif Na N o.op then Ch (iw P TE N o K F) (sE P N F o.dst p.1 p.2.1 p.2.2 K) else sE P N F o.dst p.1 p.2.1 p.2.2 K
   | none=>match o.dst with
     | none=>(match o.op with|.store T x y=>mT TE F T x y K|.mapUpdate T m x y=>nD TE F T m x y K|_=>False)
     | some d=>ow P TE N d o.op K F)
  (λF=>match o.dst with|none=>K F|some d=>bS N F d (.H (.tup []) []) K)
def My(P:Program)(TE:Nat->Option TI)(N:fD)(ops:Array Oper):List Oper->((Nat->AV)->Prop)->(Nat->AV)->Prop
 | [],K,F=>K F
 | o::rest,K,F=>j7 P TE N ops o (My P TE N ops rest K) F
section
variable{P:Program}{w0 w w1:World}{M S0 S:af}{N:fD}{φ:Nat->af}{F:Nat->AV}{a:Act}{TE:Nat->Option TI}
variable{K:(Nat->AV)->Prop}
def bo.asg(h:bo w0 M S0 N S φ F a w){d:Nat}{x:Operand}(c:Ew N F d x K):∃F',K F'/\St w0 M S0 N F' (a.put (some d) (a.eval x)) w:=by
 unfold Ew at c;cases g:Mr N d x with
 | true=>
  rw[g]at c;obtain rfl:=RQ g;exact h.putD_new (mi.same (jV rfl)) c
 | false=>
 rw[g]at c;simp only[cond_false]at c;unfold KI at c;cases k:Dy N F d x with
 | none=>rw[k]at c;exact h.assign c
 | some p=>
  rw[k]at c;obtain⟨rfl,l⟩:=B9 k;have f:=h.slot p.1;rw[l]at f;have i:Free w0 M S (λs=>if s=p.1 then NO else φ s) w (φ p.1):=λb o j=>by
   refine⟨λs f=>?_,h.disS p.1 b o j,h.ex p.1 b o j⟩;replace f:(if s=p.1 then NO else φ s) b o:=f;by_cases e:s=p.1
   ·rw[CD e]at f;exact f
   rw[CB e]at f;exact h.dis s p.1 e b o f j
  have n:cS w S (kill F p.1) (tvs a) (φ p.1) (.H .box p.2) (tvs a p.1):=f;exact(h.forget p.1).putD_free n i c
variable{o:Oper}{ops:Array Oper}
def yx(h:bo w0 M S0 N S φ F a w){u A:(Nat->AV)->Prop}(c:fJ F ops o.guard u A) :
  (Region.wanted o (yielded ops a.tmps)=true/\u F)\/(Region.wanted o (yielded ops a.tmps)=false/\A F):=by
 unfold fJ at c;unfold Region.wanted;cases B:o.guard with
 | none=>rw[B]at c;exact .inl ⟨rfl,c⟩
 | some p=>
  obtain⟨j,want⟩:=p;rw[B]at c;simp only at c |-;cases l:(ops[j]?).bind (·.dst) with
  | none=>rw[l]at c;exact c.elim
  | some d=>
   rw[l]at c;simp only at c;split at c
   case h_3=>exact c.elim
   case h_2=>
    rename_i J K n;have i:=h.slot d;rw[n]at i;obtain⟨D,Y,-,-,-,⟨q,e,-,-⟩,-⟩:=i;have g:yielded ops a.tmps j=none:=by
     unfold yielded;rw[l];simp only[Option.bind_some];cases r:a.tmps[d]? with
     | none=>rfl
     | some x=>
      have:tvs a d=x:=by simp[tvs,V7,r]
      rw[this]at e;rw[e]
    rw[g];exact .inr ⟨rfl,c⟩
   rename_i b n;have i:=h.slot d;rw[n]at i;obtain⟨D,Y,-,-,-,-,f,E,-⟩:=i;have C:=E 0 _ rfl;have e:tvs a d=.bool b:=by
    generalize G:cr w Kd.one (tvs a d) 0=y at C;cases C;exact G
   have g:yielded ops a.tmps j=some b:=by
    unfold yielded;rw[l];simp only[Option.bind_some];cases r:a.tmps[d]? with
    | none=>
     have:tvs a d=undef:=by simp[tvs,V7,r]
     rw[this]at e;cases e
    | some x=>
     have:tvs a d=x:=by simp[tvs,V7,r]
     rw[this]at e;rw[e]
   have k:Fi F d b=F:=by
    funext t
    unfold Fi;cases H:Nat.beq t d with
    | true=>have:=O2 H;subst this;rw[n];rfl
    | false=>rfl
   rw[g];replace c:=Bf.out c;cases b<;>cases want<;>rw[k]at c
   ·exact .inl ⟨rfl,c⟩
   ·exact .inr ⟨rfl,c⟩
   ·exact .inr ⟨rfl,c⟩
   exact .inl ⟨rfl,c⟩
def Pn{w:World}{S:af}{F:Nat->AV}{tv:Nat->Value} : cS w S F tv NO (.H (.tup []) []) undef:=
 ⟨NO,NO,λ_ _ h=>h,λ_ _ h=>h,λ_ _ h=>h.elim,⟨#[],rfl,trivial,rfl⟩,λ_=>NO,λ_ _ a=>(by simp at a),λ_ a=>absurd a (Nat.not_lt_zero _),λ_ _ a=>absurd a (Nat.not_lt_zero _)⟩
def yY{c:Call}{p:Nat × Operand × Operand}(h:pF c=some p):c = ⟨.builtin .append,#[p.2.1,p.2.2],#[p.1,p.1]⟩:=by
 obtain⟨callee,args,b⟩:=c;unfold pF at h;simp only at h;split at h
 ·split at h
  ·rename_i x y T d e f
   cases a:Nat.beq T d with
   | false=>rw[a]at h;cases h
   | true=>
    rw[a]at h;simp only[cond_true,C1]at h;have:=O2 a;subst this h;have g:args = #[x,y]:=by apply Array.ext';simpa using e
    have i:b = #[T,T]:=by apply Array.ext';simpa using f
    rw[g,i]
  cases h
 cases h
variable{Q:Exit->Act->World->Prop}{Kc:Act->World->Prop}
def bo.dst(h:bo w0 M S0 N S φ F a w)(l:∀t i,TE t=some i->bQ P t i){d:Nat}(y:o.dst=some d)(f:ow P TE N d o.op K F)(A:∀F' B q,K F'->St w0 M S0 N F' B q->Kc B q):o.wp P a w Kc Q:=by
 have pure1:dz P TE F o.op (λC=>bS N F d C K)->o.wp P a w Kc Q:=λf=>by
  obtain⟨C,g,E⟩:=h.pure_ l f;refine E Kc Q λv q G=>?_
  obtain⟨F',r,b⟩:=h.putD_new G g;rw[y];exact A F' _ q r b
 have val:∀{v:Value}{w1:World}{F':Nat->AV},(execOp a.eval o).run P w=.ok (.value v) w1->K F'->St w0 M S0 N F' (a.put (some d) v) w1->o.wp P a w Kc Q:=fun {v w1 F'} k g b=>by
  have:=Ac.value (P:=P) (o:=o) (a:=a) (w:=w) (w1:=w1) (v:=v) (R:=λD q=>D=v/\q=w1) k ⟨rfl,rfl⟩;refine this Kc Q λD q ⟨H,e⟩=>?_
  rw[e,H,y];exact A F' _ w1 g b
 cases j:o.op with
 | assign x=>
  rw[j]at f;obtain⟨F',g,b⟩:=h.asg f;exact val (by simp[execOp,j]) g b
 | box T x=>
  rw[j]at f;obtain⟨v,w1,F',g,k,b⟩:=h.boxW (P:=P) (T:=T) f;exact val (by simp[execOp,j,k]) g b
 | build T J=>
  rw[j]at f;obtain⟨v,F',g,k,b⟩:=h.buildW l f;exact val (by simp only[execOp,j];rw[Sem.run_bind,k];rfl) g b
 | buildSlice T n J=>
  rw[j]at f;obtain⟨v,w1,F',g,k,b⟩:=h.buildSW l f;exact val (by simp only[execOp,j];rw[Sem.run_bind,k];rfl) g b
 | move x=>
  rw[j]at f;obtain⟨F',g,b⟩:=h.moveW f;exact val (by simp[execOp,j]) g b
 | range T x=>
  rw[j]at f;obtain⟨v,w1,F',g,k,b⟩:=h.rangeW l f;exact val (by simp[execOp,j,k]) g b
 | next x str=>
  rw[j]at f;cases str with
  | true=>exact f.elim
  | false=>
   obtain⟨v,w1,F',g,k,b⟩:=h.nextW (P:=P) (ty:=o.type) f;exact val (by simp[execOp,j,k]) g b
 | entry x=>
  rw[j]at f;obtain⟨v,F',g,k,b⟩:=h.entryW (P:=P) f;exact val (by simp[execOp,j,k]) g b
 | call c=>
  rw[j]at f;simp only[ow]at f;cases u:pF c with
  | none=>rw[u]at f;exact pure1 (by rw[j];exact f)
  | some p=>
   rw[u]at f;obtain⟨v,w1,F',g,k,b⟩:=h.appW (ty:=o.type) l f;have:=yY u;subst this;exact val (by simp[execOp,j,resolve,invoke,builtin,k]) g b
 | _=>rw[j]at f;exact pure1 (by rw[j];exact f)
variable{p:Nat × List Operand × List Nat}
def Nw(h:bo w0 M S0 N S φ F a w)(b:BF N F o.op=some p):MD P p.1->(execOp a.eval o).run P w=.ok (.enter p.1 (p.2.1.map a.eval).toArray) w:=by
 intro e;unfold BF at b;split at b
 case h_2=>cases b
 rename_i c g;obtain⟨callee,args,k⟩:=c;simp only at b;split at b
 ·rename_i f
  split at b
  ·cases b
   have:=Fx (a:=a) (w:=w) g e;rw[this]
   congr 2
   apply Array.ext';rw[Array.toList_map]
  cases b
 ·rename_i t
  have i:=h.slot t;split at b
  ·rename_i f caps j
   rw[j]at i;split at b
   ·cases b
    have d:=ux (a:=a) (w:=w) (caps:=caps.map (tvs a)) g e i;rw[d]
    congr 2
    rw[W6,List.map_map]
    rfl
   cases b
  cases b
 cases b
def r9{v:Value}{d:Option Nat}{s:Nat}(h:dne d s=true):tvs (a.put d v) s=tvs a s:=by
 cases d with
 | none=>rfl
 | some d=>
  have b:d≠s:=λe=>by subst e;simp[dne]at h
  simp only[tvs,Act.put,V7,Array.getElem?_setIfInBounds];rw[CB b]
def JU{a:World}{u:Nat->Value}{top:Option (Nat × Nat)}{off:Nat} : plc a u top off []=top.map λp=>(p.1,p.2+off):=by
 cases top with
 | none=>rfl
 | some p=>rfl
def bo.rv1(h:bo w0 M S0 N S φ F a w){d:Option Nat}{v:Value}{J:World}{K:Nat->AV}(c:St w0 M S0 N K (a.put d v) J)(s:Nat):St w0 M S0 N (rv1 F d s K) (a.put d v) J:=by
 unfold Ab.rv1;split
 case h_2=>exact c
 rename_i t A O;cases f:(dne d s&&dne d t) with
 | false=>exact c
 | true=>
  rw[I0]at f;simp only[cond_true];split
  case h_2=>exact c
  rename_i B i;split
  case h_2=>exact c
  rename_i l;obtain⟨S2,φ2,c⟩:=c;have C:t≠s:=λe=>by subst e;rw[i]at l;cases l
  have L:=h.slot s;rw[O]at L;obtain⟨k,cs0,r,j,g,o,T,U,y,P⟩:=L;have u:=c.slot t;rw[i]at u;obtain⟨V,Y,-,-,-,⟨W,X,D,-⟩,-⟩:=u;rw[r9 f.2]at D;have Q:k=.box:=by
   cases k with
   | box=>rfl
   | _=>rw[JU]at y;simp[oX]at y
  subst Q;refine⟨S2,λq=>if q=s then NO else φ2 q,λq=>?_,λq E n b o f p=>?_,λq b o f=>?_,λq b o f=>?_,c.sub,c.sup,c.old,c.size,c.defers,c.par⟩
  ·by_cases G:q=s
   ·subst G
    rw[qz];refine⟨.box,B,B,A,g,o,by rw[fC _ _ C];exact i,rfl,?_,by rw[r9 f.1];exact P⟩;rw[JU]at y |-;rw[r9 f.2];exact y
   rw[fC _ _ G,CB G];refine(c.slot q).keep (φ:=φ2) (λt _ _ _=>c.slot t) (λE R=>⟨λk B H=>?_,rfl,λ_ _ _=>⟨rfl,rfl⟩⟩) (λ_ _ _=>⟨rfl,rfl⟩) (λ_ _ _=>⟨rfl,rfl⟩) (λ_ _ h=>h) (λ_ _ h=>h);have n:E≠s:=λe=>by subst e;rw[l]at H;cases H
   rw[fC _ _ n];exact H
  ·split at f
   ·exact f.elim
   split at p
   ·exact p.elim
   exact c.dis q E n b o f p
  ·split at f
   ·exact f.elim
   exact c.disS q b o f
  split at f
  ·exact f.elim
  exact c.ex q b o f
def bo.rvE(h:bo w0 M S0 N S φ F a w){d:Option Nat}{v:Value}{c:World} : ∀{l:List Nat}{e:Nat->AV},St w0 M S0 N e (a.put d v) c->St w0 M S0 N (rvE F d l e) (a.put d v) c
 | [],_,b=>b
 | s::l,_,b=>h.rvE (l:=l) (h.rv1 b s)
def bo.lent(h:bo w0 M S0 N S φ F a w)(f:BF N F o.op=some p)(g:sE P N F o.dst p.1 p.2.1 p.2.2 K)(i:∀F' d b,K F'->St w0 M S0 N F' d b->Kc d b):o.wp P a w Kc Q:=
 h.callM (Nw h f) g λF' v b e c=>by
  rw[oz]at e;exact i _ _ b e (h.rvE c)
def bo.plain(h:bo w0 M S0 N S φ F a w)(g:∀t i,TE t=some i->bQ P t i)(c:iw P TE N o K F)(l:∀F' q f,K F'->St w0 M S0 N F' q f->Kc q f):o.wp P a w Kc Q:=by
 unfold iw at c;cases k:o.dst with
 | none=>
  rw[k]at c;simp only at c;split at c
  ·rename_i T x y n
   obtain⟨F',w1,p,b,j⟩:=h.storeOp g c;have:=Ac.skip (P:=P) (o:=o) (a:=a) (w:=w) (w1:=w1) (R:=λv f=>v=undef/\f=w1) (by simp[execOp,n,b]) ⟨rfl,rfl⟩;refine this Kc Q λv f ⟨_,e⟩=>?_
   rw[e,k];exact l F' a w1 p j
  ·rename_i T m x y n
   obtain⟨F',w1,p,b,j⟩:=h.mapUpd g c;have:=Ac.skip (P:=P) (o:=o) (a:=a) (w:=w) (w1:=w1) (R:=λv f=>v=undef/\f=w1) (by simp[execOp,n,b]) ⟨rfl,rfl⟩;refine this Kc Q λv f ⟨_,e⟩=>?_
   rw[e,k];exact l F' a w1 p j
  exact c.elim
 | some d=>
  rw[k]at c;exact h.dst g k c l
def bo.one(h:bo w0 M S0 N S φ F a w)(e:∀t i,TE t=some i->bQ P t i)(b:j7 P TE N ops o K F)(c:∀F' k l,K F'->St w0 M S0 N F' k l->Kc k l) :
  if Region.wanted o (yielded ops a.tmps) then o.wp P a w Kc Q else Kc (a.put o.dst undef) w:=by
 unfold j7 at b;rcases yx h b with⟨g,b⟩|⟨g,b⟩
 ·rw[g,CD rfl]
  cases f:BF N F o.op with
  | some p=>
   rw[f]at b;simp only at b;cases n:Na N o.op with
   | false=>rw[n]at b;exact h.lent f b c
   | true=>
    rw[n]at b;rcases b with b|b
    ·exact h.plain e b c
    exact h.lent f b c
  | none=>
  rw[f]at b;exact h.plain e b c
 rw[g,CB (by simp)];cases q:o.dst with
 | none=>rw[q]at b;exact c F a w b ⟨S,φ,h⟩
 | some d=>
  rw[q]at b;obtain⟨F',r,j⟩:=h.putD_new (v:=undef) (mi.same (av:=.H (.tup []) []) Pn) b;exact c F' _ w r j
def FN(b:∀t i,TE t=some i->bQ P t i){ops:Array Oper}{K:(Nat->AV)->Prop}{Q:Exit->Act->World->Prop}(j:∀F' c d,K F'->St w0 M S0 N F' c d->Q .normal c d) :
  ∀(l:List Oper)(F:Nat->AV)(a:Act)(w:World),My P TE N ops l K F->St w0 M S0 N F a w->wpList P ops Q l a w
 | [],F,a,w,e,f=>j F a w e f
 | o::l,F,a,w,e,⟨S,φ,h⟩=>by
  have:=h.one b e (Kc:=wpList P ops Q l) (Q:=Q) λF' c d k f=>FN b j l F' c d k f
  unfold wpList;split
  ·rename_i g;rw[CD g]at this;exact .inl this
  rename_i g;rw[CB g]at this;exact this
end
def tm:Operand->List Nat
 | .tmp t=>[t]
 | _=>[]
def jA(F F':Nat->AV)(ts:List Nat):Prop:=∀t,t∈ts->F' t=F t/\∀a,(F t).uses a=true->∀k b,F a=.H k b->F' a=.H k b
variable{F':Nat->AV}
def jA.mono{ts ts':List Nat}(h:jA F F' ts)(a:∀t,t∈ts'->t∈ts):jA F F' ts':=λt b=>h t (a t b)
def jA.ev(h:jA F F' (tm x)):n8 F' x=n8 F x:=by
 cases x with
 | tmp t=>exact(h t (by simp[tm])).1
 | _=>rfl
def eG(F:Nat->AV)(ts:List Nat)(av:AV):Prop:=∀d,av.uses d=true->d∈ts\/∃t,t∈ts/\(F t).uses d=true
def eG.H(F:Nat->AV)(ts:List Nat)(k:Kd)(cs:List C):eG F ts (.H k cs):=λd h=>by cases h
def CT:type_of% @eG.H:=@eG.H
def eG.iref(F:Nat->AV)(ts:List Nat)(r:List C)(o:Nat):eG F ts (.iref r o):=λd h=>by cases h
def pc(p:(Nat->AV)->(AV->Prop)->Prop)(F:Nat->AV)(ts:List Nat)(K:AV->Prop):Prop:=∃a,K a/\eG F ts a/\∀b,jA F b ts->∀c:AV->Prop,c a->p b c
section
variable{F:Nat->AV}{K:AV->Prop}{TE:Nat->Option TI}{P:Program}
variable{st:cM}{t off:Nat}
def yM{k:List C->Nat->Prop}(h:vX F t off st k):∃r j,k r j/\∀F':Nat->AV,(∀k cs,F t=.H k cs->F' t=.H k cs)->∀b:List C->Nat->Prop,b r j->vX F' t off st b:=by
 obtain⟨e,cs,r,j,f,c,g⟩:=qp h;refine⟨r,j,g,λF' d b a=>?_⟩;unfold vX;rw[d e cs f];cases st with
 | nil=>
  simp only[cn,C1,Prod.mk.injEq]at c;obtain⟨rfl,rfl⟩:=c;exact a
 | cons s st=>exact Rw.mk c a
def my(v:Value)(d:Nat):(lZ v).uses d=false:=by
 cases v with
 | agg arr=>
  simp only[lZ];cases arr.all (·.oneCell')<;>rfl
 | pointer p=>cases p<;>rfl
 | _=>rfl
variable{x:Operand}
def cI{k:Option Nat->List C->Prop}(h:iO F (n8 F x) k):∃ag cs,k ag cs/\∀F':Nat->AV,jA F F' (tm x)->∀d:Option Nat->List C->Prop,d ag cs->iO F' (n8 F' x) d:=by
 cases a:n8 F x with
 | H l cs=>
  rw[a]at h;cases l with
  | one=>exact⟨_,_,h,λF' b d e=>by rw[b.ev,a];exact e⟩
  | agg=>exact⟨_,_,h,λF' b d e=>by rw[b.ev,a];exact e⟩
  | _=>exact h.elim
 | c2 t i n ag=>
  rw[a]at h;replace h:vX F t i n λr j=>k ag (bz r j (ag.getD 1)):=h
  obtain⟨r,j,e,u⟩:=yM h;refine⟨_,_,e,λF' b d o=>?_⟩;rw[b.ev,a];refine u F' (λl cs w=>?_) (λr j=>d ag (bz r j (ag.getD 1))) o;cases x with
  | tmp q=>
   have p:F q=.c2 t i n ag:=a;exact(b q (by simp[tm])).2 t (by rw[p];simp[AV.uses]) l cs w
  | const v=>
   have:=my v t;rw[show lZ v=.c2 t i n ag from a]at this;simp[AV.uses]at this
  | global g=>cases a
  | func f=>cases a
 | dead=>rw[a]at h;exact h.elim
 | ref=>rw[a]at h;exact h.elim
 | iref=>rw[a]at h;exact h.elim
 | fn f caps=>
  rw[a]at h;cases caps with
  | cons c cs=>exact h.elim
  | nil=>exact⟨_,_,h,λF' b d e=>by rw[b.ev,a];exact e⟩
 | fv=>rw[a]at h;exact h.elim
def jt{k:Value->Prop}(h:HT F x k):∃z,k z/\∀F':Nat->AV,jA F F' (tm x)->∀a:Value->Prop,a z->HT F' x a:=by
 obtain⟨d,e,b,f⟩:=cI h
 match d,e,b with
 | none,[.v z],b=>exact⟨z,b,λF' g a c=>f F' g _ c⟩
def Mj{F':Nat->AV}(h:F' t=F t):bu F' (.tmp t) K=bu F (.tmp t) K:=by simp only[bu,h]
def ko(h:bu F x K):pc (λF K=>bu F x K) F (tm x) K:=by
 cases x with
 | tmp t=>
  have o:t∈tm (.tmp t):=by simp[tm]
  have fin:∀p,K p->eG F (tm (.tmp t)) p->(∀a:AV->Prop,a p->bu F (.tmp t) a)->pc (λF K=>bu F (.tmp t) K) F (tm (.tmp t)) K:=λp y A B=>
   ⟨p,y,A,λq C a b=>by
     show bu q (.tmp t) _;rw[Mj (C t o).1];exact B a b⟩
  have loc:∀d,d=t->d∈tm (.tmp t):=λd e=>by subst e;exact o
  cases i:F t with
  | H k n=>
   cases k with
   | box=>
    have e:∀a,bu F (.tmp t) a=a (.ref t 0 []):=λa=>by simp only[bu,i]
    rw[e]at h;exact fin _ h (λd c=>.inl (loc d (by simp[AV.uses]at c;exact c.symm))) (λa b=>by rw[e];exact b)
   | one=>
    cases l:aZ n with
    | true=>
     have e:∀a,bu F (.tmp t) a=a (.H .one n):=λa=>by simp only[bu,i,l,cond_true]
     rw[e]at h;exact fin _ h (CT _ _ _ _) (λa b=>by rw[e];exact b)
    | false=>
     have e:∀a,bu F (.tmp t) a=a (.c2 t 0 [] none):=λa=>by simp only[bu,i,l,cond_false]
     rw[e]at h;exact fin _ h (λd c=>.inl (loc d (by simp[AV.uses]at c;exact c.symm))) (λa b=>by rw[e];exact b)
   | agg=>
    cases l:aZ n with
    | true=>
     have e:∀a,bu F (.tmp t) a=a (.H .agg n):=λa=>by simp only[bu,i,l,cond_true]
     rw[e]at h;exact fin _ h (CT _ _ _ _) (λa b=>by rw[e];exact b)
    | false=>
     have e:∀a,bu F (.tmp t) a=a (.c2 t 0 [] (some n.length)):=λa=>by simp only[bu,i,l,cond_false]
     rw[e]at h;exact fin _ h (λd c=>.inl (loc d (by simp[AV.uses]at c;exact c.symm))) (λa b=>by rw[e];exact b)
   | tup D=>
    cases l:aZ n with
    | true=>
     have e:∀a,bu F (.tmp t) a=a (.H (.tup D) n):=λa=>by simp only[bu,i,l,cond_true]
     rw[e]at h;exact fin _ h (CT _ _ _ _) (λa b=>by rw[e];exact b)
    | false=>simp only[bu,i,l,cond_false]at h
  | dead=>
   have e:∀a,bu F (.tmp t) a=a .dead:=λa=>by simp only[bu,i]
   rw[e]at h;exact fin _ h (λd c=>by cases c) (λa b=>by rw[e];exact b)
  | ref u j w=>
   have e:∀a,bu F (.tmp t) a=a (.ref u j w):=λa=>by simp only[bu,i]
   rw[e]at h;exact fin _ h (λd c=>.inr ⟨t,o,by rw[i];exact c⟩) (λa b=>by rw[e];exact b)
  | c2 u j w E=>
   have e:∀a,bu F (.tmp t) a=a (.c2 u j w E):=λa=>by simp only[bu,i]
   rw[e]at h;exact fin _ h (λd c=>.inr ⟨t,o,by rw[i];exact c⟩) (λa b=>by rw[e];exact b)
  | iref r j=>
   have e:∀a,bu F (.tmp t) a=a (.iref r j):=λa=>by simp only[bu,i]
   rw[e]at h;exact fin _ h (λd c=>by cases c) (λa b=>by rw[e];exact b)
  | fn f caps=>
   have e:∀a,bu F (.tmp t) a=a (.fn f caps):=λa=>by simp only[bu,i]
   rw[e]at h;exact fin _ h (λd c=>.inr ⟨t,o,by rw[i];exact c⟩) (λa b=>by rw[e];exact b)
  | fv Ok=>
   have e:∀a,bu F (.tmp t) a=a (.fv Ok):=λa=>by simp only[bu,i]
   rw[e]at h;exact fin _ h (λd c=>by cases c) (λa b=>by rw[e];exact b)
 | const v=>
  refine⟨_,h,λd c=>?_,λq _ a b=>b⟩;have:=my v d;rw[show(lZ v).uses d=true from c]at this;cases this
 | global g=>exact⟨_,h,(λd c=>by cases c),λq _ a b=>b⟩
 | func f=>exact⟨_,h,(λd c=>by cases c),λq _ a b=>b⟩
variable{ts:List Nat}
def KH{i:TI}(o:t∈ts\/∃g,g∈ts/\(F g).uses t=true)(h:TH F i t off st K) :
  ∃av,K av/\eG F ts av/\∀F':Nat->AV,(∀k cs,F t=.H k cs->F' t=.H k cs)->∀K':AV->Prop,K' av->TH F' i t off st K':=by
 obtain⟨r,j,a,l⟩:=yM h;cases b:Nat.beq (bz r j i.size).length i.size with
 | false=>rw[b]at a;exact a.elim
 | true=>
  rw[b]at a;simp only[cond_true]at a;cases c:aZ (bz r j i.size) with
  | true=>rw[c]at a;exact⟨_,a,CT _ _ _ _,λF' e K' f=>l F' e _ (by rw[b,c];exact f)⟩
  | false=>rw[c]at a;exact⟨_,a,λd n=>by simp[AV.uses]at n;subst n;exact o,λF' e K' f=>l F' e _ (by rw[b,c];exact f)⟩
variable{T:Nat}
def MN(h:vm TE F T x K):pc (λF K=>vm TE F T x K) F (tm x) K:=by
 unfold vm at h;cases l:TE T with
 | none=>rw[l]at h;exact h.elim
 | some i=>
  rw[l]at h;simp only at h;cases n:(i.agg || Nat.beq i.size 1) with
  | false=>rw[n]at h;exact h.elim
  | true=>
   rw[n]at h;simp only[cond_true]at h;cases x with
   | tmp t=>
    have j:t∈tm (.tmp t):=by simp[tm]
    simp only at h;have same:∀{c},jA F c (tm (.tmp t))->c t=F t:=λb=>(b t j).1
    have unf:∀{c}{d:AV->Prop},jA F c (tm (.tmp t))->(match F t with|.H .box _=>TH c i t 0 [] d|.ref t a A=>TH c i t a A d|.iref r a=>bif Nat.beq (bz r a i.size).length i.size then d (.H (mh (qC i)) (bz r a i.size)) else False|_=>False)->vm TE c T (.tmp t) d:=λe f=>by
     unfold vm;rw[l];simp only[n,cond_true];rw[same e];exact f
    cases b:F t with
    | H k o=>
     rw[b]at h;cases k with
     | box=>
      obtain⟨p,q,u,w⟩:=KH (ts:=tm (.tmp t)) (.inl j) h;exact⟨p,q,u,λc e d g=>unf e (by rw[b];exact w c (λk o f=>(same e).trans f) d g)⟩
     | _=>exact h.elim
    | ref B a A=>
     rw[b]at h;have C:(F t).uses B=true:=by rw[b];simp[AV.uses]
     obtain⟨p,q,u,w⟩:=KH (ts:=tm (.tmp t)) (.inr ⟨t,j,C⟩) h;exact⟨p,q,u,λc e d g=>unf e (by rw[b];exact w c (λk o f=>(e t j).2 B C k o f) d g)⟩
    | iref r a=>
     rw[b]at h;simp only at h;cases y:Nat.beq (bz r a i.size).length i.size with
     | false=>rw[y]at h;exact h.elim
     | true=>
      rw[y]at h;exact⟨_,h,CT _ _ _ _,λc e d g=>unf e (by rw[b];simp only[y,cond_true];exact g)⟩
    | dead=>rw[b]at h;exact h.elim
    | c2=>rw[b]at h;exact h.elim
    | fn=>rw[b]at h;exact h.elim
    | fv=>rw[b]at h;exact h.elim
   | _=>exact h.elim
def HY{o:Nat}(h:pm F x o K):pc (λF K=>pm F x o K) F (tm x) K:=by
 cases x with
 | tmp t=>
  have b:t∈tm (.tmp t):=by simp[tm]
  simp only[pm]at h;cases a:F t with
  | H k l=>
   rw[a]at h;cases k with
   | box=>exact⟨_,h,λd f=>.inl (by simp[AV.uses]at f;subst f;exact b),λi c j e=>by simp only[pm,(c t b).1,a];exact e⟩
   | _=>exact h.elim
  | ref n g p=>rw[a]at h;exact⟨_,h,λd f=>.inr ⟨t,b,by rw[a];exact f⟩,λi c j e=>by simp only[pm,(c t b).1,a];exact e⟩
  | iref r g=>rw[a]at h;exact⟨_,h,eG.iref _ _ _ _,λi c j e=>by simp only[pm,(c t b).1,a];exact e⟩
  | dead=>rw[a]at h;exact h.elim
  | c2=>rw[a]at h;exact h.elim
  | fn=>rw[a]at h;exact h.elim
  | fv=>rw[a]at h;exact h.elim
 | _=>exact h.elim
def zC{f:Nat}(h:iM TE F T x f K):pc (λF K=>iM TE F T x f K) F (tm x) K:=by
 unfold iM at h;unfold pc iM;split at h
 case h_2=>exact h.elim
 split at h
 case h_2=>exact h.elim
 rename_i o c _;split at h
 case h_2=>exact h.elim
 rename_i b _;cases a:Nat.beq b.size 0 with
 | true=>rw[a]at h;exact h.elim
 | false=>
  rw[a]at h;simp only[cond_false]at h |-;exact HY h
variable{size:Nat}
def Fw{c:C}{i:Int}(p:t∈ts\/∃g,g∈ts/\(F g).uses t=true)(h:Jq size t off st c i K):∃av,K av/\eG F ts av/\∀K':AV->Prop,K' av->Jq size t off st c i K':=by
 cases c with
 | s o j=>
  obtain⟨k,r,l,a⟩:=Ix.out h;cases b:Nat.beq r.length size with
  | false=>rw[b]at a;exact a.elim
  | true=>
   rw[b]at a;simp only[cond_true]at a;cases e:o.mine with
   | true=>rw[e]at a;exact⟨_,a,λd n=>by simp[AV.uses]at n;subst n;exact p,λK' f=>CP k l (by rw[b,e];exact f)⟩
   | false=>rw[e]at a;exact⟨_,a,eG.iref _ _ _ _,λK' f=>CP k l (by rw[b,e];exact f)⟩
 | _=>exact h.elim
def Fe{i:Int}(h:oJ F size x i K):pc (λF K=>oJ F size x i K) F (tm x) K:=by
 cases x with
 | tmp t=>
  have b:t∈tm (.tmp t):=by simp[tm]
  simp only[oJ]at h;cases a:F t with
  | H G l=>
   rw[a]at h;cases G with
   | one=>
    match l,h,a with
    | [c],h,a=>
     obtain⟨o,p,q,u⟩:=Fw (ts:=tm (.tmp t)) (.inl b) h;exact⟨o,p,q,λC e w y=>by simp only[oJ,(e t b).1,a];exact u w y⟩
   | _=>exact h.elim
  | c2 f d D H=>
   rw[a]at h;cases H with
   | none=>
    replace h:vX F f d D λr j=>match r[j]? with|some c=>Jq size f d D c i K|none=>False:=h
    obtain⟨r,j,g,A⟩:=yM h;have E:(F t).uses f=true:=by rw[a];simp[AV.uses]
    cases B:r[j]? with
    | none=>rw[B]at g;exact g.elim
    | some c=>
     rw[B]at g;obtain⟨o,p,q,u⟩:=Fw (ts:=tm (.tmp t)) (.inr ⟨t,b,E⟩) g;exact⟨o,p,q,λC e w y=>by simp only[oJ,(e t b).1,a];exact A C (λk l J=>(e t b).2 f E k l J) _ (by rw[B];exact u w y)⟩
   | some n=>exact h.elim
  | dead=>rw[a]at h;exact h.elim
  | ref=>rw[a]at h;exact h.elim
  | iref=>rw[a]at h;exact h.elim
  | fn=>rw[a]at h;exact h.elim
  | fv=>rw[a]at h;exact h.elim
 | _=>exact h.elim
def zy{y:Operand}(h:iL TE F T x y K):pc (λF K=>iL TE F T x y K) F (tm x++tm y) K:=by
 unfold iL at h;unfold pc iL;split at h
 case h_2=>exact h.elim
 split at h
 case h_2=>exact h.elim
 rename_i u e;obtain⟨z,a,f⟩:=jt h;cases z with
 | int w i=>
  obtain⟨g,j,k,l⟩:=Fe a;refine⟨g,j,λd n=>(k d n).imp (λh=>by simp[h]) (λ⟨t,o,p⟩=>⟨t,by simp[o],p⟩),λb c q r=>?_⟩;exact f b (c.mono (by simp +contextual)) _ (l b (c.mono (by simp +contextual)) q r)
 | _=>exact a.elim
end
inductive HH(bs:List C)(off:Nat)(K:List C->Prop):Prop
 |mk_ (h:∃o rows rows' bs',bs[off]? = some (.s o rows)/\fz (.s o rows)=.s .U rows'/\bs'=splice bs off [.s .U rows']/\K bs')
def HH.mk{c b:List C}{K:List C->Prop}{a:List (List C)}(h1:c[off]? = some (.s o rows))(d:fz (.s o rows)=.s .U a)(e:b=splice c off [.s .U a])(f:K b):HH c off K:=by refine .mk_ ?_;exact⟨o,rows,a,b,h1,d,e,f⟩
def HH.out{K:List C->Prop}(h:HH a off K):∃o rows,a[off]? = some (.s o rows)/\K (splice a off [fz (.s o rows)]):=by
 obtain⟨h⟩:=h;obtain⟨o,rows,b,c,d,e,rfl,f⟩:=h;exact⟨o,rows,d,by rw[e];exact f⟩
def so(t:Nat):List Nat->((Nat->AV)->Prop)->(Nat->AV)->Prop
 | [],K,F=>K F
 | a::l,K,F=>(match F t with
   | .H k bs=>HH bs a λb=>so t l K (updH F t k b)
   | _=>False)
def Em{c a:C}(h:off<cs.length):splice (splice cs off [c]) off [a]=splice cs off [a]:=by
 apply List.ext_getElem?;intro j;have b:(splice cs off [c]).length=cs.length:=by simp[splice];omega
 rw[gN (by rw[b];simp;omega),gN (by simp;omega),gN (by simp;omega)];simp only[List.length_singleton];split
 ·rfl
 rfl
def LA(t:Nat)(v:AV):si t (si t v)=si t v:=by
 cases v with
 | c2 a b c e=>simp only[si];cases d:Nat.beq a t<;>simp[d]
 | ref a b c=>
  cases c with
  | nil=>rfl
  | cons s c=>simp only[si];cases d:Nat.beq a t<;>simp[d]
 | _=>rfl
def HJ(F:Nat->AV)(t:Nat)(k:Kd)(x y:List C):updH (updH F t k x) t k y=updH F t k y:=by
 funext s
 by_cases e:s=t
 ·subst e;rw[ic,ic]
 rw[f8 _ _ _ e,f8 _ _ _ e,f8 _ _ _ e,LA]
def bo.fzCell{w0:World}{M S0:af}{φ:Nat->af}{a:Act}(h:bo w0 M S0 N S φ F a w){f:List C}(B:F t=.H k f)(g:f[off]? = some (.s o rows)):St w0 M S0 N (updH F t k (splice f off [fz (.s o rows)])) a w:=by
 have l:off<f.length:=(X2.1 g).1;have p:bz f off 1=[.s o rows]:=by
  unfold bz;rw[List.drop_eq_getElem_cons l,List.take_one];have:=X2.1 g;simp[this.2]
 obtain⟨V,X,q,D,J,y,E⟩:=h.take B (off:=off) (n:=1) ω;rw[p]at y;have G:Free w0 M S (λs=>if s=t then X else φ s) w V:=λb o g=>by
  refine⟨λs i=>?_,h.disS t b o (q b o g),h.ex t b o (q b o g)⟩;replace i:(if s=t then X else φ s) b o:=i;by_cases e:s=t
  ·rw[CD e]at i;exact D b o g i
  rw[CB e]at i;exact h.dis s t e b o i (q b o g)
 have H:=E.addS (S':=λb o=>S b o\/V b o) G (λ_ _ h=>.inl h) (λ_ _ h=>h);have u:(splice f off (List.replicate 1 C.x)).length=f.length:=by simp[splice];omega
 obtain⟨φ',A,-⟩:=H.back (out:=[fz (.s o rows)]) (off:=off) (j:=off) (st:=[]) (r:=splice f off (List.replicate 1 .x)) (ic ..) rfl trivial (by rw[u];simp;omega) (V:=NO) (λ_ _ h=>h.elim) (y.freeze.congr λd _=>rfl);rw[HJ]at A;rw[<-Em (c:=.x) l];exact⟨_,φ',A⟩
def y3{w0 w:World}{M S0:af}{N:fD}{a:Act}{t:Nat}{K:(Nat->AV)->Prop} : ∀{offs:List Nat}{F:Nat->AV},so t offs K F->St w0 M S0 N F a w->∃F',K F'/\St w0 M S0 N F' a w
 | [],F,b,c=>⟨F,b,c⟩
 | f::l,F,b,c=>by
  unfold so at b;cases d:F t with
  | H k j=>
   rw[d]at b;obtain⟨o,e,g,i⟩:=HH.out b;obtain⟨S,φ,h⟩:=c;exact y3 i (h.fzCell d g)
  | _=>rw[d]at b;exact b.elim
def PI(mo:List (Nat × List Nat))(id:Nat)(K:(Nat->AV)->Prop)(F:Nat->AV):Prop:=
 match J1 mo (id+2000000) with
 | some l=>(match l with
   | t::offs=>so t offs K F
   | []=>K F)
 | none=>K F
def TN{w0:World}{M S0:af}{a:Act}{mo:List (Nat × List Nat)}{id:Nat}{K:(Nat->AV)->Prop}(b:PI mo id K F)(c:St w0 M S0 N F a w):∃F',K F'/\St w0 M S0 N F' a w:=by
 unfold PI at b;split at b
 ·split at b
  ·exact y3 b c
  exact⟨F,b,c⟩
 exact⟨F,b,c⟩
def lay:List (Nat × AV)->Nat->AV
 | [],_=>.dead
 | p::l,t=>bif Nat.beq t p.1 then p.2 else lay l t
def RO:C->C->Prop
 | _,.x=>True
 | .z,.s .U rows=>rows=[]
 | .z,.s .own rows=>rows=[]
 | .s (.tag _) rows,.s .own rows'=>rows=rows'
 | c,a=>c=a
def Pc:List C->List C->Prop
 | [],[]=>True
 | c::cs,a::cs'=>RO c a/\Pc cs cs'
 | _,_=>False
def Ub(F F1:Nat->AV)(t:Nat)(av:AV):Prop:=
 match av with
 | .dead=>True
 | .H k cs=>(match F t with|.H k' cs'=>k'=k/\Pc cs' cs|_=>False)
 | .ref t' off st=>F t=.ref t' off st/\F1 t'=F t'
 | .c2 t' off st ag=>F t=.c2 t' off st ag/\F1 t'=F t'
 | .iref r off=>F t=.iref r off
 | .fn f caps=>F t=.fn f caps
 | .fv Ok=>F t=.fv Ok
def PB(F F1:Nat->AV):List (Nat × AV)->Prop
 | []=>True
 | p::l=>Ub F F1 p.1 p.2/\PB F F1 l
def Wk(F:Nat->AV)(L:List (Nat × AV)):Prop:=PB F (lay L) L
def yn{F F1:Nat->AV} : ∀{L:List (Nat × AV)},PB F F1 L->∀t,lay L t=.dead\/Ub F F1 t (lay L t)
 | [],_,t=>.inl rfl
 | p::L,h,t=>by
  simp only[lay];cases a:Nat.beq t p.1 with
  | true=>
   have:=O2 a;subst this;exact .inr h.1
  | false=>exact yn h.2 t
def fz1(t:Nat)(F:Nat->AV):Nat->AV:=λs=>bif Nat.beq s t then(match F s with|.H k a=>.H k (eH a)|.dead=>.dead|.ref ..=>.dead|.c2 ..=>.dead|.iref ..=>.dead|.fn ..=>.dead|.fv _=>.dead) else kl t (F s)
def fzA:List Nat->(Nat->AV)->Nat->AV
 | [],F=>F
 | t::ts,F=>fzA ts (fz1 t F)
def UL(F:Nat->AV)(x:Operand)(K:Bool->Prop):Prop:=HT F x λv=>match v with|.bool b=>K b|_=>False
def Uo(K:(Nat->AV)->Prop)(Q:Exit->(Nat->AV)->Prop):Exit->(Nat->AV)->Prop:=λe F=>match e with|.normal=>K F|e=>Q e F
def UX(id:Nat)(Q:Exit->(Nat->AV)->Prop):Exit->(Nat->AV)->Prop:=λe F=>match e with|.exit i=>bif Nat.beq i id then Q .normal F else Q (.exit i) F|e=>Q e F
inductive Nx(ι:Type)(L:ι->List (Nat × AV))(inv:ι->Prop)(μ:ι->Nat)(i:ι)(F:Nat->AV):Prop
 |mk_ (h:∃i',inv i'/\μ i'<μ i/\Wk F (L i'))
variable{ι:Type}
def Nx.mk{L:ι->List (Nat × AV)}{inv:ι->Prop}{μ:ι->Nat}{i:ι}(a:ι)(h1:inv a)(b:μ a<μ i)(c:Wk F (L a)):Nx ι L inv μ i F:=by refine .mk_ ?_;exact⟨a,h1,b,c⟩
def CG:type_of% @Nx.mk:=@Nx.mk
def Nx.out{L:ι->List (Nat × AV)}{inv:ι->Prop}{μ:ι->Nat}{i:ι}(h:Nx ι L inv μ i F):∃a,inv a/\μ a<μ i/\Wk F (L a):=by obtain⟨h⟩:=h;exact h
inductive Lp(body:(Exit->(Nat->AV)->Prop)->(Nat->AV)->Prop)(Q:Exit->(Nat->AV)->Prop)(F:Nat->AV):Prop
 |mk_ (h:∃(ts:List Nat)(ι:Type)(L:ι->List (Nat × AV))(inv:ι->Prop)(μ:ι->Nat)(i0:ι),Wk (fzA ts F) (L i0)/\inv i0/\∀i,inv i->body (Uo (Nx ι L inv μ i) Q) (lay (L i)))
variable{Q:Exit->(Nat->AV)->Prop}{body:(Exit->(Nat->AV)->Prop)->(Nat->AV)->Prop}
def Lp.mk(L:ι->List (Nat × AV))(inv:ι->Prop)(μ:ι->Nat)(a:ι)(b:Wk F (L a))(h1:inv a)(c:∀i,inv i->body (Uo (Nx ι L inv μ i) Q) (lay (L i))):Lp body Q F:=by refine .mk_ ?_;exact⟨[],ι,L,inv,μ,a,b,h1,c⟩
def CH:type_of% @Lp.mk:=@Lp.mk
def Lp.fz(t:Nat)(L:ι->List (Nat × AV))(inv:ι->Prop)(μ:ι->Nat)(a:ι)(b:Wk (fz1 t F) (L a))(h1:inv a)(c:∀i,inv i->body (Uo (Nx ι L inv μ i) Q) (lay (L i))):Lp body Q F:=by refine .mk_ ?_;exact⟨[t],ι,L,inv,μ,a,b,h1,c⟩
def Lp.out(h:Lp body Q F):∃(ts:List Nat)(ι:Type)(L:ι->List (Nat × AV))(inv:ι->Prop)(μ:ι->Nat)(a:ι),Wk (fzA ts F) (L a)/\inv a/\∀i,inv i->body (Uo (Nx ι L inv μ i) Q) (lay (L i)):=by obtain⟨h⟩:=h;exact h
def aw(P:Program)(TE:Nat->Option TI)(N:fD)(D:Nat->Array Oper->((Nat->AV)->Prop)->(Nat->AV)->Prop):Code->(Exit->(Nat->AV)->Prop)->(Nat->AV)->Prop
 | .skip,Q,F=>Q .normal F
 | .region id ops draw,Q,F=>bif draw then D id ops (Q .normal) F else PI N.mo id (My P TE N ops ops.toList (Q .normal)) F
 | .seq x y,Q,F=>aw P TE N D x (Uo (aw P TE N D y Q) Q) F
 | .cond c x y,Q,F=>UL F c λb=>Bf b (aw P TE N D x Q F) (aw P TE N D y Q F)
 | .block id c,Q,F=>aw P TE N D c (UX id Q) F
 | .loop c,Q,F=>Lp (aw P TE N D c) Q F
 | .exit id,Q,F=>Q (.exit id) F
 | .ret,Q,F=>Q .ret F
 | _,_,_=>False
section
variable{P:Program}{w0 w w1:World}{M S0 S:af}{N:fD}{φ:Nat->af}{F:Nat->AV}{a:Act}{TE:Nat->Option TI}
def QN{Y:af}{c q:C}{v:Value}(e:RO c q)(h:eY w S Y c v):eY w S Y q v:=by
 unfold RO at e;split at e
 ·exact .x _ _ h.one
 ·subst e
  obtain⟨b,rfl⟩:=wX h;exact .nil _ _ _ trivial
 ·subst e
  obtain⟨b,rfl⟩:=wX h;exact .nil _ _ _ trivial
 ·subst e
  rename_i r d;generalize l:C.s (.tag r) d=c0 at h;cases h with
  | nil F o a t=>cases l;exact .nil _ _ _ trivial
  | U=>cases l
  | own F o g k n p d u f t y A i j B D E G e=>cases l;exact .own _ .own g k n p d u f trivial y A i j B D E G e
  | _=>cases l
 subst e;exact h
def sX:∀{cs a:List C},Pc cs a->cs.length=a.length/\∀(j:Nat)(b:C),a[j]? = some b->∃c,cs[j]? = some c/\RO c b
 | [],[],_=>⟨rfl,λj b h=>by simp at h⟩
 | c::cs,b::a,h=>by
  obtain⟨e,f⟩:=sX h.2;refine⟨by simp[e],λj y d=>?_⟩;cases j with
  | zero=>simp at d;subst d;exact⟨c,rfl,h.1⟩
  | succ j=>exact f j y (by simpa using d)
 | [],_::_,h=>h.elim
 | _::_,[],h=>h.elim
def Eg{Y:af}{cs a:List C}{u:Nat->Value}(d:Pc cs a)(h:dn w S Y cs u):dn w S Y a u:=by
 obtain⟨r,e⟩:=sX d;obtain⟨f,g,i,k⟩:=h;exact⟨f,λj c b=>by obtain⟨l,n,o⟩:=e j c b;exact QN o (g j l n),λj b=>i j ω,λj p b q=>k j p ω ω⟩
def St.weaken{L:List (Nat × AV)}(h:St w0 M S0 N F a w)(q:Wk F L):St w0 M S0 N (lay L) a w:=by
 obtain⟨S,φ,h⟩:=h;refine⟨S,φ,λt=>?_,h.dis,h.disS,h.ex,h.sub,h.sup,h.old,h.size,h.defers,h.par⟩;rcases yn q t with b|b
 ·rw[b];trivial
 have d:=h.slot t;cases c:lay L t with
 | dead=>trivial
 | H k p=>
  rw[c]at b;simp only[Ub]at b;split at b
  case h_2=>exact b.elim
  rename_i H u y;obtain⟨rfl,i⟩:=b;rw[y]at d;obtain⟨A,Y,l,n,B,C,D⟩:=d;exact⟨A,Y,l,n,B,by rw[<-(sX i).1];exact C,Eg i D⟩
 | ref E e G=>
  rw[c]at b;rw[b.1]at d;obtain⟨k,p,r,j,g,o,l,n⟩:=d;exact⟨k,p,r,j,g,o,by rw[b.2];exact l,n⟩
 | c2 E e G J=>
  rw[c]at b;rw[b.1]at d;obtain⟨k,p,r,j,l,n⟩:=d;exact⟨k,p,r,j,by rw[b.2];exact l,n⟩
 | iref r e=>
  rw[c]at b;have b:F t=.iref r e:=b;rw[b]at d;exact d
 | fn f caps=>
  rw[c]at b;have b:F t=.fn f caps:=b;rw[b]at d;exact d
 | fv Ok=>
  rw[c]at b;have b:F t=.fv Ok:=b;rw[b]at d;exact d
def St.fz1(h:St w0 M S0 N F a w)(t:Nat):St w0 M S0 N (Ab.fz1 t F) a w:=by
 obtain⟨S,φ,h⟩:=h;have q:∀{s},s≠t->Ab.fz1 t F s=kl t (F s):=fun {s} d=>by
  have:Nat.beq s t=false:=by rw[<-I6,Nat.beq_eq];exact d
  simp[Ab.fz1,this]
 have i:∀(B:af),(∀b o,S b o->B b o)->∀s,s≠t->cS w B (Ab.fz1 t F) (tvs a) (φ s) (Ab.fz1 t F s) (tvs a s):=λB y s d=>by
  rw[q d,Bx];cases H:(F s).uses t with
  | true=>trivial
  | false=>
   simp only[cond_false];refine(h.slot s).keep (φ:=φ) (λt _ _ _=>h.slot t) (λJ r=>?_) (λ_ _ _=>⟨rfl,rfl⟩) (λ_ _ _=>⟨rfl,rfl⟩) (λ_ _ h=>h) y;have C:J≠t:=λe=>by subst e;rw[H]at r;cases r
   exact⟨λk l K=>by rw[q C,K,DR],rfl,λ_ _ _=>⟨rfl,rfl⟩⟩
 have n:(∀k l,F t≠.H k l)->St w0 M S0 N (Ab.fz1 t F) a w:=λC=>by
  refine⟨S,λs=>if s=t then NO else φ s,λs=>?_,λs p j b o c f=>?_,λs b o c=>?_,λs b o c=>?_,h.sub,h.sup,h.old,h.size,h.defers,h.par⟩
  ·by_cases d:s=t
   ·subst d
    have:Ab.fz1 s F s=.dead:=by
     unfold Ab.fz1;rw[Nat.beq_refl];simp only[cond_true];cases u:F s with
     | H k l=>exact absurd u (C k l)
     | _=>rfl
    rw[this];trivial
   rw[CB d];exact i S (λ_ _ h=>h) s d
  ·split at c
   ·exact c.elim
   split at f
   ·exact f.elim
   exact h.dis s p j b o c f
  ·split at c
   ·exact c.elim
   exact h.disS s b o c
  split at c
  ·exact c.elim
  exact h.ex s b o c
 cases u:F t with
 | H k l=>
  have d:=h.slot t;rw[u]at d;obtain⟨G,Y,A,D,L,O,P⟩:=d;have E:Ab.fz1 t F t=.H k (eH l):=by
   unfold Ab.fz1;rw[Nat.beq_refl];simp only[cond_true,u]
  refine⟨λb o=>S b o\/Y b o,λs=>if s=t then G else φ s,λs=>?_,λs p j b o c f=>?_,λs b o c y=>?_,λs b o c=>?_,λb o c=>.inl (h.sub b o c),λb o c=>?_,h.old,h.size,h.defers,h.par⟩
  ·by_cases d:s=t
   ·subst d
    rw[E,CD rfl];exact⟨G,NO,λ_ _ h=>h,λ_ _ h=>h.elim,λ_ _ _ h=>h,by rw[co,I1];exact O,P.freeze⟩
   rw[CB d];exact i _ (λ_ _ h=>.inl h) s d
  ·by_cases d:s=t
   ·rw[CD d]at c
    by_cases g:p=t
    ·exact j (d.trans g.symm)
    rw[CB g]at f;exact h.dis t p (Ne.symm g) b o (A b o c) f
   rw[CB d]at c;by_cases g:p=t
   ·rw[CD g]at f;exact h.dis s t d b o c (A b o f)
   rw[CB g]at f;exact h.dis s p j b o c f
  ·by_cases d:s=t
   ·rw[CD d]at c
    exact y.elim (h.disS t b o (A b o c)) (L b o c)
   rw[CB d]at c;exact y.elim (h.disS s b o c) λQ=>h.dis s t d b o c (D b o Q)
  ·split at c
   ·exact h.ex t b o (A b o c)
   exact h.ex s b o c
  rcases c with c|c
  ·exact h.sup b o c
  exact⟨(h.ex t b o (D b o c)).1,.inr (h.ex t b o (D b o c)).2⟩
 | _=>exact n λk l e=>by rw[u]at e;cases e
def St.fzA:∀(ts:List Nat){F:Nat->AV},St w0 M S0 N F a w->St w0 M S0 N (Ab.fzA ts F) a w
 | [],_,h=>h
 | t::ts,_,h=>St.fzA ts (h.fz1 t)
def gv(ck:Nat->Array Oper->Bool):Code->Bool
 | .region id ops draw=>bif draw then ck id ops else true
 | .seq x y=>gv ck x&&gv ck y
 | .cond _ x y=>gv ck x&&gv ck y
 | .block _ c=>gv ck c
 | .loop c=>gv ck c
 | _=>true
def xG(P:Program)(N:fD)(ck:Nat->Array Oper->Bool)(D:Nat->Array Oper->((Nat->AV)->Prop)->(Nat->AV)->Prop):Prop:=
 ∀(id:Nat)(ops:Array Oper),ck id ops=true->∀(K:(Nat->AV)->Prop)(w0:World)(M S0:af)(F:Nat->AV)(a:Act)(w:World)(Q:Exit->Act->World->Prop),D id ops K F->St w0 M S0 N F a w->(∀b c d,K b->St w0 M S0 N b c d->Q .normal c d)->(Code.region id ops true).wp P Q a w
def jz(k:∀t i,TE t=some i->bQ P t i){D:Nat->Array Oper->((Nat->AV)->Prop)->(Nat->AV)->Prop}{ck:Nat->Array Oper->Bool}(r:xG P N ck D):∀(c:Code),gv ck c=true->∀(QA:Exit->(Nat->AV)->Prop)(Q:Exit->Act->World->Prop)(F:Nat->AV)(a:Act)(w:World),
  aw P TE N D c QA F->St w0 M S0 N F a w->(∀e F' l o,QA e F'->St w0 M S0 N F' l o->Q e l o)->c.wp P Q a w
 | .skip,_,QA,Q,F,a,w,d,j,f=>wp_skip (f _ _ _ _ d j)
 | .region id ops draw,p,QA,Q,F,a,w,d,j,f=>by
  cases draw with
  | false=>
   obtain⟨O,C,E⟩:=TN d j;exact wp_region_list (FN k (λF' l o=>f .normal F' l o) _ O a w C E)
  | true=>exact r id ops p _ w0 M S0 F a w Q d j (λF' l o=>f .normal F' l o)
 | .seq x y,p,QA,Q,F,a,w,d,j,f=>by
  simp only[gv,I0]at p;refine wp_seq (jz k r x p.1 _ _ F a w d j λe F' l o q g=>?_);cases e with
  | normal=>exact jz k r y p.2 QA Q F' l o q g f
  | _=>exact f _ F' l o q g
 | .cond c x y,u,QA,Q,F,a,w,d,⟨S,φ,h⟩,f=>by
  simp only[gv,I0]at u;obtain⟨p,-⟩:=h.scalar d;cases H:a.eval c<;>rw[H]at p<;>try exact p.elim
  rename_i b;exact wp_cond_split H (λA=>jz k r x u.1 QA Q F a w (by subst A;exact Bf.out p) ⟨S,φ,h⟩ f) (λA=>jz k r y u.2 QA Q F a w (by subst A;exact Bf.out p) ⟨S,φ,h⟩ f)
 | .block id c,p,QA,Q,F,a,w,d,j,f=>by
  refine wp_block (jz k r c p _ _ F a w d j λe F' l o q g=>?_);cases e with
  | exit i=>
   simp only[UX]at q;simp only[Exit.inBlock];by_cases B:i=id
   ·subst B
    rw[CD rfl];simp only[Nat.beq_refl,cond_true]at q;exact f _ F' l o q g
   have A:Nat.beq i id=false:=by rw[<-I6,Nat.beq_eq];exact B
   rw[A]at q;rw[CB B];exact f _ F' l o q g
  | _=>exact f _ F' l o q g
 | .loop c,p,QA,Q,F,a,w,d,j,f=>by
  obtain⟨R,ι,L,inv,μ,J,T,G,hround⟩:=Lp.out d;refine wp_loop_ghost (λn a w=>∃i,μ i=n/\inv i/\St w0 M S0 N (lay (L i)) a w) (μ J) ⟨J,rfl,G,(j.fzA R).weaken T⟩ λn a w ⟨i,W,B,j⟩=>?_
  refine jz k r c p _ _ (lay (L i)) a w (hround i B) j λe F' l o q g=>?_
  cases e with
  | normal=>
   obtain⟨K,U,X,V⟩:=Nx.out q;exact⟨μ K,ω,K,rfl,U,g.weaken V⟩
  | _=>exact f _ F' l o q g
 | .exit id,_,QA,Q,F,a,w,d,j,f=>wp_exit (f _ _ _ _ d j)
 | .ret,_,QA,Q,F,a,w,d,j,f=>wp_ret (f _ _ _ _ d j)
 | .rangeFunc ..,_,_,_,_,_,_,d,_,_=>d.elim
 | .scope _,_,_,_,_,_,_,d,_,_=>d.elim
 | .label _,_,_,_,_,_,_,d,_,_=>d.elim
 | .goto _,_,_,_,_,_,_,d,_,_=>d.elim
 | .refuse _,_,_,_,_,_,_,d,_,_=>d.elim
end
end Go.Proofs.YtecefhjnejfheaaGreat.Ab
