/- A slot-only operation looks at its operands alone (the rest), and: a region that draws its order may be run in the text's. No condition. -/
import Derived.Test.YtembpgjjnioagaaGreatFlb
import Derived.Orders
import Derived.Test.YtembpgjjnioagaaGreatFla
import Derived.KernelRfl
import Derived.Test.YtembpgjjnioagaaGreatProg
set_option linter.unusedVariables false
set_option linter.unusedSimpArgs false
set_option linter.constructorNameAsVariable false
namespace Go.Proofs.YtembpgjjnioagaaGreat.Ab
open Go.RowKit
section
variable{F:Nat->AV}{K:AV->Prop}{TE:Nat->Option TI}{P:Program}
theorem J8{g:BinOp}{x y:Value}{K K':Value->Prop}(h:B6 g x y K)(i:∀v,K v->K' v):B6 g x y K':=by
 cases x<;>cases y<;>try exact h.elim
 rename_i k a j b;have c:∀{X Y:Prop},(bif fV k j then X else False)->(X->Y)->(bif fV k j then Y else False):=fun {X Y} h e=>by
  cases o:fV k j with
  | true=>rw[o]at h;exact e h
  | false=>rw[o]at h;exact h.elim
 have d:∀{k:IntKind}{x:Int},Wr k x (λz=>K (.int k z))->Wr k x (λz=>K' (.int k z)):=λh=>by
  obtain⟨z,l,n⟩:=h.out;exact CK l (i _ n)
 have q:∀{k:IntKind}{x:Int},Ev x (λz=>K (.int k z))->Ev x (λz=>K' (.int k z)):=λh=>by
  obtain⟨z,l,n⟩:=h.out;exact CS l (i _ n)
 have f:∀{p X Y:Prop},Cd p X->(X->Y)->Cd p Y:=λh e=>CM h.out.1 (e h.out.2)
 cases g<;>simp only[B6]at h |-
 case add=>exact c h d
 case sub=>exact c h d
 case mul=>exact c h d
 case quo=>exact c h λh=>f h d
 case rem=>exact c h λh=>f h q
 case and=>exact c h d
 case or=>exact c h d
 case xor=>exact c h d
 case andNot=>exact c h d
 case shl=>exact f h d
 case shr=>exact f h q
 all_goals exact c h (i _)
theorem Kt{f:BinOp}{x y:Value}{K:Value->Prop}(h:B6 f x y K):∃v,K v/\B6 f x y (· = v):=by
 cases x<;>cases y<;>try exact h.elim
 rename_i k a g b;have e:∀{X:Prop},(bif fV k g then X else False)->X/\∀Y:Prop,Y->(bif fV k g then Y else False):=fun {X} h=>by
  cases i:fV k g with
  | true=>rw[i]at h;exact⟨h,λY j=>j⟩
  | false=>rw[i]at h;exact h.elim
 cases f<;>simp only[B6]at h |-
 case add=>obtain⟨h,b⟩:=e h;obtain⟨z,c,d⟩:=h.out;exact⟨_,d,b _ (CK c rfl)⟩
 case sub=>obtain⟨h,b⟩:=e h;obtain⟨z,c,d⟩:=h.out;exact⟨_,d,b _ (CK c rfl)⟩
 case mul=>obtain⟨h,b⟩:=e h;obtain⟨z,c,d⟩:=h.out;exact⟨_,d,b _ (CK c rfl)⟩
 case quo=>obtain⟨h,b⟩:=e h;obtain⟨z,c,d⟩:=h.out.2.out;exact⟨_,d,b _ (CM h.out.1 (CK c rfl))⟩
 case rem=>obtain⟨h,b⟩:=e h;obtain⟨z,c,d⟩:=h.out.2.out;exact⟨_,d,b _ (CM h.out.1 (CS c rfl))⟩
 case and=>obtain⟨h,b⟩:=e h;obtain⟨z,c,d⟩:=h.out;exact⟨_,d,b _ (CK c rfl)⟩
 case or=>obtain⟨h,b⟩:=e h;obtain⟨z,c,d⟩:=h.out;exact⟨_,d,b _ (CK c rfl)⟩
 case xor=>obtain⟨h,b⟩:=e h;obtain⟨z,c,d⟩:=h.out;exact⟨_,d,b _ (CK c rfl)⟩
 case andNot=>obtain⟨h,b⟩:=e h;obtain⟨z,c,d⟩:=h.out;exact⟨_,d,b _ (CK c rfl)⟩
 case shl=>obtain⟨z,c,d⟩:=h.out.2.out;exact⟨_,d,CM h.out.1 (CK c rfl)⟩
 case shr=>obtain⟨z,c,d⟩:=h.out.2.out;exact⟨_,d,CM h.out.1 (CS c rfl)⟩
 all_goals(obtain⟨h,b⟩:=e h;exact⟨_,h,b _ rfl⟩)
theorem Ms{b:BinOp}{T:Nat}{x y:Value}{K:Value->Prop}(h:Dy TE b T x y K):∃v,K v/\∀K':Value->Prop,K' v->Dy TE b T x y K':=by
 unfold Dy at h;split at h
 ·split at h
  case h_2=>exact h.elim
  rename_i f;cases b<;>simp only at h<;>try exact h.elim
  all_goals exact⟨_,h,λK' a=>by unfold Dy;simp only[f];exact a⟩
 ·cases b<;>simp only at h<;>try exact h.elim
  case add=>obtain⟨c,d⟩:=h.out;obtain⟨z,g,i⟩:=d.out;exact⟨_,i,λK' a=>CM c (Es.mk g a)⟩
  all_goals exact⟨_,h,λK' a=>a⟩
 ·rename_i c d
  obtain⟨v,j,k⟩:=Kt h;refine⟨v,j,λK' a=>?_⟩;have:=J8 (K':=K') k λl e=>by rw[e];exact a
  unfold Dy;split
  ·exact(c _ _ rfl rfl).elim
  ·exact(d _ _ rfl rfl).elim
  ·exact this
theorem M4{a:UnOp}{x:Value}{K K':Value->Prop}(h:NI a x K)(b:∀v,K v->K' v):NI a x K':=by
 unfold NI at h |-;split at h
 ·exact b _ h
 ·obtain⟨z,c,d⟩:=Wr.out h;exact CK c (b _ d)
 ·exact h.elim
theorem Pm{a:UnOp}{x:Value}{K:Value->Prop}(h:NI a x K):∃v,K v/\NI a x (· = v):=by
 unfold NI at h;split at h
 ·exact⟨_,h,rfl⟩
 ·obtain⟨z,b,c⟩:=Wr.out h;exact⟨_,c,CK b rfl⟩
 ·exact h.elim
theorem Mt{c x y:Operand}(h:Hm F c x y K):nG (λF K=>Hm F c x y K) F (tm c++tm x++tm y) K:=by
 obtain⟨z,f,r⟩:=iE h;cases z with
 | bool b=>
  cases b with
  | true=>
   obtain⟨g,i,j,k⟩:=js (Bf.out f);refine⟨g,i,λd l=>(j d l).imp (λh=>by simp[h]) (λ⟨t,n,o⟩=>⟨t,by simp[n],o⟩),λa e p q=>r a (e.mono (by simp +contextual)) _ (Bf.in_ (k a (e.mono (by simp +contextual)) p q))⟩
  | false=>
   obtain⟨g,i,j,k⟩:=js (Bf.out f);refine⟨g,i,λd l=>(j d l).imp (λh=>by simp[h]) (λ⟨t,n,o⟩=>⟨t,by simp[n],o⟩),λa e p q=>r a (e.mono (by simp +contextual)) _ (Bf.in_ (k a (e.mono (by simp +contextual)) p q))⟩
 | _=>exact f.elim
theorem NC{x:Operand}(h:Ph F x K):nG (λF K=>Ph F x K) F (tm x) K:=by
 obtain⟨i,c,a,d⟩:=cy h;cases b:aX c with
 | false=>rw[b]at a;exact a.elim
 | true=>rw[b]at a;exact⟨_,a,CR _ _ _ _,λe f j g=>d e f _ (by rw[b];exact g)⟩
theorem DA{x:Operand}{i:Nat}(h:ju F x i K):nG (λF K=>ju F x i K) F (tm x) K:=by
 cases x with
 | tmp t=>
  have e:t∈tm (.tmp t):=by simp[tm]
  simp only[ju]at h;cases a:F t with
  | hold k l=>
   rw[a]at h;cases k with
   | tup n=>
    simp only at h;cases b:Ah n i with
    | none=>rw[b]at h;exact h.elim
    | some p=>
     rw[b]at h;simp only at h;cases c:aX (bv l p.1 (p.2.getD 1)) with
     | true=>rw[c]at h;exact⟨_,h,CR _ _ _ _,λo f q g=>by simp only[ju,(f t e).1,a,b,c,cond_true];exact g⟩
     | false=>rw[c]at h;exact⟨_,h,λd j=>.inl (by simp[AV.uses]at j;subst j;exact e),λo f q g=>by simp only[ju,(f t e).1,a,b,c,cond_false];exact g⟩
   | _=>exact h.elim
  | _=>rw[a]at h;exact h.elim
 | _=>exact h.elim
theorem NA{T:Nat}{x:Operand}(h:FO TE F T x K):nG (λF K=>FO TE F T x K) F (tm x) K:=by
 unfold FO at h;unfold nG FO;split at h
 ·obtain⟨g,i,a,e⟩:=cy h
  match g,i,a with
  | none,[.s o rows],a=>exact⟨_,Ln.out a,CR _ _ _ _,λb c f d=>e b c _ (Ln.mk rfl d)⟩
  | none,[.z],a=>exact⟨_,a,CR _ _ _ _,λb c f d=>e b c _ d⟩
 ·obtain⟨z,a,e⟩:=iE h
  cases z with
  | string s=>exact⟨_,Ln.out a,CR _ _ _ _,λb c f d=>e b c _ (Ln.mk rfl d)⟩
  | _=>exact a.elim
 ·exact h.elim
theorem Pv{T:Nat}{x:Operand}(h:Gu TE F T x K):nG (λF K=>Gu TE F T x K) F (tm x) K:=by
 unfold Gu at h;unfold nG Gu;split at h
 ·obtain⟨b,c,a,d⟩:=cy h
  match b,c,a with
  | none,[.s o rows],a=>exact⟨_,a.out.2,CR _ _ _ _,λe f i g=>d e f _ (Nn.mk a.out.1 g)⟩
 ·exact h.elim
theorem Pr{f:BinOp}{T:Nat}{x y:Operand}(h:Fn P F f T x y K):nG (λF K=>Fn P F f T x y K) F (tm x++tm y) K:=by
 unfold Fn at h;unfold nG Fn;obtain⟨j,C,k,l⟩:=cy h;obtain⟨ag2,ds,a,b⟩:=cy k
 match j,ag2,a with
 | some n,some m,c=>
  obtain⟨o,p,q⟩:=nO c;obtain⟨t,u,w⟩:=nO p;obtain⟨r,A,B⟩:=u.out;exact⟨_,B,CR _ _ _ _,λg i D d=>l g (i.mono λ_ e=>List.mem_append_left _ e) _ (b g (i.mono λ_ e=>List.mem_append_right _ e) _ (by rw[q,w];exact Ff o (Ff t (Q0.mk A d))))⟩
theorem yS{x:Operand}{F':Nat->AV}(a:iN F F' (tm x)):isAgg F' x=isAgg F x:=by
 cases x with
 | tmp t=>unfold isAgg;simp only;rw[(a t (by simp[tm])).1]
 | _=>rfl
def tms(xs:List Operand):List Nat:=xs.flatMap tm
theorem L9{x:Operand}{k:Bool->RA->Prop}(h:argV F x k):∃b A,k b A/\∀F':Nat->AV,iN F F' (tm x)->∀i:Bool->RA->Prop,i b A->argV F' x i:=by
 have key:∀F':Nat->AV,iN F F' (tm x)->mq F' x=mq F x:=λF' j=>j.ev
 have w:∀n,mq F x=n->ig F n (uU k)->(∀F' i,mq F' x=n->(argV F' x i=ig F' n (uU i)))->∃b A,k b A/\∀F':Nat->AV,iN F F' (tm x)->∀i:Bool->RA->Prop,i b A->argV F' x i:=λn a D B=>by
  obtain⟨E,q,o,C⟩:=cy (x:=x) (by rw[a];exact D);unfold uU at o;cases u:aX q with
  | true=>
   rw[u]at o;refine⟨true,_,o,λF' j i d=>?_⟩;have p:=key F' j;rw[B F' i (p.trans a),<-a,<-p];exact C F' j _ (by unfold uU;rw[u];exact d)
  | false=>
   rw[u]at o;refine⟨false,_,o,λF' j i d=>?_⟩;have p:=key F' j;rw[B F' i (p.trans a),<-a,<-p];exact C F' j _ (by unfold uU;rw[u];exact d)
 have c:=h;unfold argV at c;cases a:mq F x with
 | hold G q=>
  rw[a]at c;cases G with
  | box=>exact⟨false,_,c,λF' j i d=>by unfold argV;rw[key F' j,a];exact d⟩
  | one=>exact w _ a c λF' i e=>by unfold argV;rw[e];rfl
  | agg=>exact w _ a c λF' i e=>by unfold argV;rw[e];rfl
  | tup K=>exact c.elim
 | bor t l H E=>rw[a]at c;exact w _ a c λF' i e=>by unfold argV;rw[e]
 | ref t l H=>
  rw[a]at c;simp only at c;split at c
  ·rename_i q J
   refine⟨false,_,c,λF' j i d=>?_⟩;unfold argV;rw[key F' j,a];have:F' t=.hold .box q:=by
    cases x with
    | tmp s=>exact(j s (by simp[tm])).2 t (by show AV.uses t (F s)=true;rw[show F s=_ from a];simp[AV.uses]) _ _ J
    | const v=>simp only[mq]at a;have:=lr v t;rw[a]at this;simp[AV.uses]at this
    | global g=>cases a
    | func f=>cases a
   simp only[this];exact d
  ·exact c.elim
 | iref r l=>
  rw[a]at c;simp only at c;cases y:Nat.beq l 0 with
  | false=>rw[y]at c;exact c.elim
  | true=>rw[y]at c;exact⟨true,_,c,λF' j i d=>by unfold argV;rw[key F' j,a];simp only[y];exact d⟩
 | fv Ok=>rw[a]at c;exact⟨true,_,c,λF' j i d=>by unfold argV;rw[key F' j,a];exact d⟩
 | fn f caps=>rw[a]at c;exact c.elim
 | dead=>rw[a]at c;exact c.elim
theorem oT:∀{cs:List Nat}{k:List RA->Prop},mi F cs k->∃D,k D/\∀F':Nat->AV,(∀t,t∈cs->∀j xs,F t=.hold j xs->F' t=.hold j xs)->∀d:List RA->Prop,d D->mi F' cs d
 | [],k,h=>⟨[],h,λ_ _ _ h=>h⟩
 | c::cs,k,h=>by
  simp only[mi]at h;split at h
  ·rename_i xs e
   obtain⟨D,f,g⟩:=oT h;exact⟨_,f,λF' b d a=>by simp only[mi,b c (V1 ..) _ _ e];exact g F' (λt i=>b t (v5 _ i)) _ a⟩
  ·rename_i xs e
   obtain⟨D,f,g⟩:=oT h;exact⟨_,f,λF' b d a=>by simp only[mi,b c (V1 ..) _ _ e];exact g F' (λt i=>b t (v5 _ i)) _ a⟩
  ·rename_i xs e
   obtain⟨D,f,g⟩:=oT h;exact⟨_,f,λF' b d a=>by simp only[mi,b c (V1 ..) _ _ e];exact g F' (λt i=>b t (v5 _ i)) _ a⟩
  ·exact h.elim
theorem Hf{F':Nat->AV}{t:Nat}{ts:List Nat}{f:FuncId}{caps:List Nat}(b:iN F F' ts)(d:t∈ts)(e:F t=.fn f caps):∀c,c∈caps->∀a xs,F c=.hold a xs->F' c=.hold a xs:=λc g a xs h=>
 (b t d).2 c (by rw[e];simp only[AV.uses,X3];exact⟨c,g,Nat.beq_refl c⟩) a xs h
theorem M1{x:Operand}{k:Bool->RA->Prop}(h:argA P F x k):∃b A,k b A/\∀F':Nat->AV,iN F F' (tm x)->∀e:Bool->RA->Prop,e b A->argA P F' x e:=by
 have j:=h;unfold argA at j;split at j
 ·rename_i f caps a
  obtain⟨D,l,n⟩:=oT j;obtain⟨Q,q,r,u⟩:=l;refine⟨false,_,u,λF' i e d=>?_⟩;unfold argA;rw[i.ev,a];refine n F' ?_ _ ⟨Q,q,r,d⟩;cases x with
  | tmp s=>exact Hf i (t:=s) (by simp[tm]) a
  | const v=>
   intro c o;simp only[mq]at a;have:=lr v c;rw[a]at this;simp only[AV.uses]at this;have w:caps.any (Nat.beq · c)=true:=X3.2 ⟨c,o,Nat.beq_refl c⟩;rw[w]at this;cases this
  | global g=>cases a
  | func f=>cases a;intro c o;cases o
 ·rename_i p
  obtain⟨b,A,l,n⟩:=L9 j;refine⟨b,A,l,λF' i e d=>?_⟩;have:=n F' i e d;unfold argA;rw[i.ev];split
  ·rename_i f caps a;exact absurd a (p f caps)
  ·exact this
theorem vZ:∀{xs:List Operand}{k:Bool->List RA->Prop},za P F xs k->∃b A,k b A/\∀F':Nat->AV,iN F F' (tms xs)->∀c:Bool->List RA->Prop,c b A->za P F' xs c
 | [],k,h=>⟨true,[],h,λ_ _ _ h=>h⟩
 | x::xs,k,h=>by
  obtain⟨n,A,d,g⟩:=M1 h;obtain⟨b,As,d,e⟩:=vZ d;have i:∀{F':Nat->AV},iN F F' (tms (x::xs))->iN F F' (tm x):=λa=>a.mono (by simp +contextual [tms])
  have j:∀{F':Nat->AV},iN F F' (tms (x::xs))->iN F F' (tms xs):=λa=>a.mono (λt l=>by simp only[tms,I6,v3];exact .inr l)
  exact⟨_,_,d,λF' a c f=>g F' (i a) _ (e F' (j a) _ f)⟩
theorem zA:∀{xs:List Operand}{k:List (Option Nat × List C)->Prop},argsV F xs k->∃L,k L/\∀F':Nat->AV,iN F F' (tms xs)->∀b:List (Option Nat × List C)->Prop,b L->argsV F' xs b
 | [],k,h=>⟨[],h,λ_ _ _ h=>h⟩
 | x::xs,k,h=>by
  obtain⟨l,n,c,f⟩:=cy h;obtain⟨L,c,d⟩:=zA c;have g:∀{F':Nat->AV},iN F F' (tms (x::xs))->iN F F' (tm x):=λa=>a.mono (by simp +contextual [tms])
  have i:∀{F':Nat->AV},iN F F' (tms (x::xs))->iN F F' (tms xs):=λa=>a.mono (λt j=>by simp only[tms,I6,v3];exact .inr j)
  exact⟨_,c,λF' a b e=>f F' (g a) _ (d F' (i a) _ e)⟩
theorem K9{f:Nat}{xs:List Operand}(h:Hb P F f xs K):nG (λF K=>Hb P F f xs K) F (tms xs) K:=by
 obtain⟨b,A,a,c⟩:=vZ h;obtain⟨d,k,rcs,e,g,i⟩:=a.out;exact⟨_,i,CR _ _ _ _,λj l o n=>c j l _ (.mk_ ⟨d,k,rcs,e,g,n⟩)⟩
theorem HP{t:Nat}{xs:List Operand}(h:lH P F t xs K):nG (λF K=>lH P F t xs K) F (t::tms xs) K:=by
 have d:=h;unfold lH at d;split at d
 ·rename_i f caps g
  obtain⟨b,A,e,i⟩:=vZ d;obtain⟨D,e,j⟩:=oT e;obtain⟨u,k,rcs,l,n,o⟩:=e.out;refine⟨_,o,CR _ _ _ _,λa c p q=>?_⟩;show lH P a t xs p;unfold lH;rw[(c t (V1 ..)).1,g];exact i a (c.mono λt r=>v5 _ r) _ (j a (Hf c (V1 ..) g) _ (.mk_ ⟨u,k,rcs,l,n,q⟩))
 ·rename_i Ok g
  obtain⟨L,e,i⟩:=zA d;obtain⟨Q,k,rcs,l,n,o⟩:=e;refine⟨_,o,CR _ _ _ _,λa c p q=>?_⟩;show lH P a t xs p;unfold lH;rw[(c t (V1 ..)).1,g];exact i a (c.mono λt r=>v5 _ r) _ ⟨Q,k,rcs,l,n,q⟩
 ·exact d.elim
theorem jc{T:Nat}{k:Nat->TI->Prop}(h:Hy TE T k):∃e a,k e a/\∀b:Nat->TI->Prop,b e a->Hy TE T b:=by
 unfold Hy at h;split at h
 case h_2=>exact h.elim
 rename_i e d;split at h
 case h_2=>exact h.elim
 rename_i a f;cases c:(Nat.beq a.zero.length a.size&&Nat.ble 1 a.size) with
 | false=>rw[c]at h;exact h.elim
 | true=>rw[c]at h;exact⟨e,a,h,λb g=>by unfold Hy;simp only[d,f,c,cond_true];exact g⟩
theorem qS{x:Operand}{k:Int->Prop}(h:EE F x k):∃n,k n/\∀F':Nat->AV,iN F F' (tm x)->∀a:Int->Prop,a n->EE F' x a:=by
 obtain⟨z,b,c⟩:=iE h;cases z with
 | int f n=>exact⟨n,b,λF' d a e=>c F' d _ e⟩
 | _=>exact b.elim
def otm(x:Option Operand):List Nat:=x.toList.flatMap tm
theorem H9{x:Option Operand}{k:Option Int->Prop}(h:L1 F x k):∃n,k n/\∀F':Nat->AV,iN F F' (otm x)->∀a:Option Int->Prop,a n->L1 F' x a:=by
 cases x with
 | none=>exact⟨none,h,λ_ _ _ b=>b⟩
 | some x=>
  obtain⟨n,c,d⟩:=qS h;exact⟨some n,c,λF' e a b=>d F' (e.mono (by simp +contextual [otm])) _ b⟩
theorem tg{i:Nat->Option (Nat × Nat)} : ∀{parts:List (Nat × Operand)}{cs:List C}{k:List C->Prop},fillP F i parts cs k->∃a,k a/\∀F':Nat->AV,iN F F' (tms (parts.map (·.2)))->∀c:List C->Prop,c a->fillP F' i parts cs c
 | [],cs,k,h=>⟨cs,h,λ_ _ _ h=>h⟩
 | p::rest,cs,k,h=>by
  simp only[fillP]at h;split at h
  case h_2=>exact h.elim
  rename_i q l;obtain⟨r,xs,b,n⟩:=cy h;cases d:(aX xs&&Nat.beq xs.length q.2&&Nat.ble (q.1+q.2) cs.length) with
  | false=>rw[d]at b;exact b.elim
  | true=>
   rw[d]at b;simp only[cond_true,dz]at b;obtain⟨a,e,f⟩:=tg b;refine⟨a,e,λF' j c g=>?_⟩;simp only[fillP,l];refine n F' (j.mono (by simp +contextual [tms])) _ ?_;rw[d];simp only[cond_true,dz];exact f F' (j.mono (λt o=>by simp only[tms,U5,I6,v3];exact .inr o)) _ g
theorem Jx{T:Nat}{parts:List (Nat × Operand)}(h:qI TE F T parts K):nG (λF K=>qI TE F T parts K) F (tms (parts.map (·.2))) K:=by
 unfold qI at h;unfold nG qI;split at h
 case h_2=>exact h.elim
 rename_i size bytes zero flds i;cases a:vM TE flds with
 | false=>rw[a]at h;exact h.elim
 | true=>
  rw[a]at h;obtain⟨b,c,d⟩:=tg h;exact⟨_,c,CR _ _ _ _,λe f j g=>by simp only[cond_true];exact d e f _ g⟩
theorem FC{T n:Nat}{parts:List (Nat × Operand)}(h:vg TE F T n parts K):nG (λF K=>vg TE F T n parts K) F (tms (parts.map (·.2))) K:=by
 obtain⟨e,j,a,f⟩:=jc h;cases c:Nat.ble (n*j.size) 16777216 with
 | false=>rw[c]at a;exact a.elim
 | true=>
  rw[c]at a;simp only[cond_true]at a;split at a
  ·exact⟨_,a,CR _ _ _ _,λg i k d=>f _ (by rw[c];exact d)⟩
  ·rw[dz]at a
   obtain⟨l,b,o⟩:=tg a;rw[nU]at b;exact⟨_,b,CR _ _ _ _,λg i k d=>f _ (by rw[c];simp only[cond_true,dz];exact o g i _ (by rw[nU];exact d))⟩
  ·exact a.elim
theorem Kx{T:Nat}{x y:Operand}(h:GZ TE F T x y K):nG (λF K=>GZ TE F T x y K) F (tm x++tm y) K:=by
 obtain⟨e,r,a,g⟩:=jc h;obtain⟨j,k,a,i⟩:=cy a
 match j,k,a with
 | none,[.z],a=>
  obtain⟨ag2,cs2,a,b⟩:=cy a
  match ag2,cs2,a with
  | none,[.s o rows],a=>
   obtain⟨l,n,p,a⟩:=a.out;exact⟨_,a,CR _ _ _ _,λc d q f=>g _ (i c (d.mono (by simp +contextual)) _ (b c (d.mono (by simp +contextual)) _ (Fl.mk l n p f)))⟩
  | none,[.z],a=>
   exact⟨_,a,CR _ _ _ _,λc d q f=>g _ (i c (d.mono (by simp +contextual)) _ (b c (d.mono (by simp +contextual)) _ f))⟩
theorem LK{T:Nat}{x y:Operand}(h:Hn TE F T x y K):nG (λF K=>Hn TE F T x y K) F (tm x++tm y) K:=by
 obtain⟨e,r,a,g⟩:=jc h;obtain⟨l,a,i⟩:=qS a;obtain⟨c,a,b⟩:=qS a;obtain⟨n,j,k,o,p,a⟩:=a.out;exact⟨_,a,CR _ _ _ _,λd f t q=>g _ (i d (f.mono (by simp +contextual)) _ (b d (f.mono (by simp +contextual)) _ (Mk.mk n j k o p rfl q)))⟩
theorem LW{T:Nat}{x y:Operand}{ok:Bool}(h:wT TE F T x y ok K):nG (λF K=>wT TE F T x y ok K) F (tm x++tm y) K:=by
 unfold wT at h;split at h
 case h_2=>exact h.elim
 rename_i i;cases ok with
 | true=>exact h.elim
 | false=>
  simp only[cond_false]at h;obtain⟨j,k,b,c⟩:=cy h
  match j,k,b,c with
  | none,[.m es],b,c=>
   obtain⟨v,d,a⟩:=iE b
   match v,d,a with
   | .int .i64 z,d,a=>
    refine⟨_,d.out,CR _ _ _ _,λf g l e=>?_⟩;simp only[wT,i,cond_false];exact c f (g.mono (by simp +contextual)) _ (a f (g.mono (by simp +contextual)) _ (Ml.mk rfl e))
theorem Jw{T:Nat}{x:Operand}{lo j:Option Operand}(h:zZ TE F T x lo j K):nG (λF K=>zZ TE F T x lo j K) F (tm x++otm lo++otm j) K:=by
 obtain⟨e,q,b,t⟩:=jc h;obtain⟨l,b,u⟩:=H9 b;obtain⟨r,b,g⟩:=H9 b;obtain⟨w,A,b,i⟩:=cy b;have back:∀(c:List (List C))(k:List (List C)->Prop),Sl c q.size l r k->∃a,k a/\∀n:List (List C)->Prop,n a->Sl c q.size l r n:=λc k h=>by
  obtain⟨x,y,B,D,E,G,H,J⟩:=h.out;exact⟨_,J,λn b=>by refine .mk_ ?_;exact⟨x,y,B,D,E,G,H,_,rfl,b⟩⟩
 match w,A,b with
 | none,[.s .imm c],b=>
  obtain⟨a,b,o⟩:=back _ _ b;exact⟨_,b,CR _ _ _ _,λd f L p=>t _ (u d (f.mono (by simp +contextual)) _ (g d (f.mono (by simp +contextual)) _ (i d (f.mono (by simp +contextual)) _ (o _ p))))⟩
 | none,[.z],b=>
  obtain⟨a,b,o⟩:=back _ _ b;exact⟨_,b,CR _ _ _ _,λd f L p=>t _ (u d (f.mono (by simp +contextual)) _ (g d (f.mono (by simp +contextual)) _ (i d (f.mono (by simp +contextual)) _ (o _ p))))⟩
theorem G2{T:Nat}{x c d:Operand}(h:Ni TE F T x c d K):nG (λF K=>Ni TE F T x c d K) F (tm x) K:=by
 obtain⟨e,q,a,j⟩:=jc h;cases b:PA c&&PA d with
 | false=>rw[b]at a;exact a.elim
 | true=>
  rw[b]at a;obtain⟨l,n,a,k⟩:=cy a
  match l,n,a with
  | none,[.s o rows],a=>exact⟨_,a,CR _ _ _ _,λf g p i=>j _ (by rw[b];exact k f g _ i)⟩
  | none,[.z],a=>exact⟨_,a,CR _ _ _ _,λf g p i=>j _ (by rw[b];exact k f g _ i)⟩
theorem J3{T f:Nat}{x:Operand}(h:qF TE F T x f K):nG (λF K=>qF TE F T x f K) F (tm x) K:=by
 unfold qF at h;split at h
 case h_2=>exact h.elim
 rename_i flds e;split at h
 case h_2=>exact h.elim
 rename_i p g;split at h
 case h_2=>exact h.elim
 rename_i i j;obtain⟨k,d,a,l⟩:=cy h;cases b:(k.isSome&&(i.agg || Nat.beq i.size 1)&&Nat.ble (p.1+i.size) d.length) with
 | false=>rw[b]at a;exact a.elim
 | true=>
  rw[b]at a;simp only[cond_true]at a;cases c:aX (bv d p.1 i.size) with
  | false=>rw[c]at a;exact a.elim
  | true=>
   rw[c]at a;simp only[cond_true,dz]at a;exact⟨_,a,CR _ _ _ _,λn o r q=>by unfold qF;simp only[e,g,j];exact l n o _ (by rw[b,c];simp only[cond_true,dz];exact q)⟩
theorem Kw{b c:Nat}{x:Operand}(h:xq TE F b c x K):nG (λF K=>xq TE F b c x K) F (tm x) K:=by
 unfold xq at h;split at h
 ·rename_i d e
  obtain⟨n,a,f⟩:=qS h;obtain⟨z,g,a⟩:=a.out;exact⟨_,a,CR _ _ _ _,λi j l k=>by unfold xq;simp only[d,e];exact f i j _ (CK g k)⟩
 ·exact h.elim
theorem Lt{c:Bool}{x y:Operand}(h:QM c F x y K):nG (λF K=>QM c F x y K) F (tm x++tm y) K:=by
 obtain⟨z,d,g⟩:=iE h;cases z with
 | int k n=>
  obtain⟨m,a,b⟩:=qS d;obtain⟨z,i,a⟩:=a.out;exact⟨_,a,CR _ _ _ _,λe f l j=>g e (f.mono (by simp +contextual)) _ (b e (f.mono (by simp +contextual)) _ (CS i j))⟩
 | _=>exact d.elim
theorem ec.mono{ts ts':List Nat}{av:AV}(h:ec F ts av)(a:∀t,t∈ts->t∈ts'):ec F ts' av:=λd b=>(h d b).imp (a d) (λ⟨t,c,e⟩=>⟨t,a t c,e⟩)
theorem nG.mono{p:(Nat->AV)->(AV->Prop)->Prop}{ts ts':List Nat}(h:nG p F ts K)(a:∀t,t∈ts->t∈ts'):nG p F ts' K:=by
 obtain⟨b,c,d,e⟩:=h;exact⟨b,c,d.mono a,λf g i j=>e f (g.mono a) i j⟩
def cX(o:Op):List Nat:=o.operands.toList.flatMap tm
theorem lV{o:Op}(h:dm P TE F o K):nG (λF K=>dm P TE F o K) F (cX o) K:=by
 cases o with
 | move x=>exact(js h).mono (by simp[cX,Op.operands])
 | assign x=>exact(js h).mono (by simp[cX,Op.operands])
 | nilCheck x=>
  cases x with
  | tmp t=>
   have A:t∈tm (.tmp t):=by simp[tm]
   have key:∀a:Nat->AV,a t=F t->∀b,dm P TE a (.nilCheck (.tmp t)) b=(match F t with|.ref ..=>bp a (.tmp t) b|.iref ..=>bp a (.tmp t) b|.hold .box _=>bp a (.tmp t) b|_=>False):=λa e b=>by
    unfold dm;simp only
    first
     |(rw[e];done)
     |(rw[e]
       cases F t with
       | hold k O=>cases k<;>rfl
       | _=>rfl)
   rw[key F rfl]at h;have fin:bp F (.tmp t) K->(∀b (a:Nat->AV),a t=F t->bp a (.tmp t) b->dm P TE a (.nilCheck (.tmp t)) b)->nG (λF K=>dm P TE F (.nilCheck (.tmp t)) K) F (cX (.nilCheck (.tmp t))) K:=λp Q=>by
    obtain⟨B,C,D,E⟩:=js p;exact⟨B,C,D.mono (by simp[cX,Op.operands]),λa j b g=>Q _ a (j t (by simp[cX,Op.operands,tm])).1 (E a (j.mono (by simp[cX,Op.operands])) b g)⟩
   cases G:F t with
   | hold k O=>
    rw[G]at h;cases k with
    | box=>exact fin h λb a e p=>by rw[key a e,G];exact p
    | _=>exact h.elim
   | ref=>rw[G]at h;exact fin h λb a e p=>by rw[key a e,G];exact p
   | iref=>rw[G]at h;exact fin h λb a e p=>by rw[key a e,G];exact p
   | _=>rw[G]at h;exact h.elim
  | _=>exact h.elim
 | load T x=>exact(KD h).mono (by simp[cX,Op.operands])
 | fieldAddr T x f=>exact(yz h).mono (by simp[cX,Op.operands])
 | indexAddr T x y=>exact(xZ h).mono (by simp[cX,Op.operands])
 | binOp R T x y yT=>
  simp only[dm]at h;cases q:x4 R y with
  | true=>
   rw[q]at h;obtain⟨B,C,D,E⟩:=Pv h;exact⟨B,C,D.mono (by simp +contextual [cX,Op.operands]),λa j b g=>by simp only[dm,q,cond_true];exact E a (j.mono (by simp +contextual [cX,Op.operands])) b g⟩
  | false=>
   rw[q]at h;have u:∀t,t∈tm x->t∈cX (.binOp R T x y yT):=λt A=>by simp[cX,Op.operands,A]
   cases M:isAgg F x with
   | true=>
    rw[M]at h;obtain⟨B,C,D,E⟩:=Pr h;exact⟨B,C,D.mono (by simp +contextual [cX,Op.operands]),λa j b g=>by
      simp only[dm,q,cond_false];rw[yS (j.mono u),M];exact E a (j.mono (by simp +contextual [cX,Op.operands])) b g⟩
   | false=>
   rw[M]at h;obtain⟨z,S,J⟩:=iE h;obtain⟨z2,U,V⟩:=iE S;obtain⟨v,W,X⟩:=Ms U;refine⟨_,W,CR _ _ _ _,λa j b g=>by simp only[dm,q,cond_false];rw[yS (j.mono u),M];exact J a (j.mono (by simp +contextual [cX,Op.operands])) _ (V a (j.mono (by simp +contextual [cX,Op.operands])) _ (X _ g))⟩
 | unOp R T x=>
  obtain⟨z,S,J⟩:=iE h;obtain⟨v,W,X⟩:=Pm S;exact⟨_,W,CR _ _ _ _,λa j b g=>J a (j.mono (by simp[cX,Op.operands])) _ (M4 X λv' e=>by rw[e];exact g)⟩
 | pick c x y=>exact(Mt h).mono (by simp[cX,Op.operands])
 | alloc T=>
  simp only[dm]at h;unfold xb at h;split at h
  ·rename_i i L
   exact⟨_,h,CR _ _ _ _,λa _ b g=>by simp only[dm,xb,L];exact g⟩
  ·exact h.elim
 | box T x=>exact(NC h).mono (by simp[cX,Op.operands])
 | extract x i=>exact(DA h).mono (by simp[cX,Op.operands])
 | build T ps=>exact(Jx h).mono (by simp +contextual [cX,Op.operands,tms])
 | buildSlice T n ps=>exact(FC h).mono (by simp +contextual [cX,Op.operands,tms])
 | makeSlice T x y=>exact(LK h).mono (by simp[cX,Op.operands])
 | makeMap T r=>
  simp only[dm,qR]at h |-;split at h
  case h_2=>exact h.elim
  exact⟨_,h,CR _ _ _ _,λa _ b g=>g⟩
 | lookup T x y ok=>exact(LW h).mono (by simp[cX,Op.operands])
 | slice T x lo hi mx=>
  cases mx with
  | none=>exact(Jw h).mono (by cases lo<;>cases hi<;>simp[cX,Op.operands,otm])
  | some m=>
   cases lo with
   | some _=>exact h.elim
   | none=>
    cases hi with
    | none=>exact h.elim
    | some y=>exact(G2 h).mono (by simp +contextual [cX,Op.operands])
 | field T x f=>exact(J3 h).mono (by simp[cX,Op.operands])
 | convert T1 N x=>exact(Kw h).mono (by simp[cX,Op.operands])
 | makeFunc fn fs O=>
  simp only[dm]at h;split at h
  ·rename_i f Y
   obtain⟨l,g,J⟩:=qo h;refine⟨_,g,λd hd=>.inl ?_,λa _ b Z=>?_⟩
   ·simp only[AV.uses,X3]at hd
    obtain⟨c,Q,he⟩:=hd;have:=C2 he;subst this;simp only[cX,Op.operands,List.mem_flatMap];refine⟨.tmp c,?_,by simp[tm]⟩;have p:Operand.tmp c∈O.toList:=by rw[J];exact z4.2 ⟨c,Q,rfl⟩
    simpa using .inr (by simpa using p)
   ·simp only[dm,Y]
    rw[J];exact DM l Z
  ·exact h.elim
 | call c=>
  obtain⟨callee,args,ts⟩:=c;simp only[dm]at h;split at h
  ·rename_i f
   exact(K9 h).mono (by simp +contextual [cX,Op.operands,Call.operands,tms])
  ·exact(HP h).mono (λt A=>by
     rcases List.mem_cons.1 A with rfl|A
     · simp[cX,Op.operands,Call.operands,tm]
     · simp only[tms,List.mem_flatMap]at A
       obtain⟨x,w,hx2⟩:=A;simp only[cX,Op.operands,Call.operands,List.mem_flatMap];exact⟨x,by simp_all,hx2⟩)
  ·split at h
   ·rename_i x T w L
    have H:args = #[x]:=by apply Array.ext';simpa using w
    have e2:ts = #[T]:=by apply Array.ext';simpa using L
    subst H e2;exact(NA h).mono (by simp[cX,Op.operands,Call.operands])
   ·exact h.elim
  ·split at h
   ·rename_i x y T N w L
    have H:args = #[x,y]:=by apply Array.ext';simpa using w
    have e2:ts = #[T,N]:=by apply Array.ext';simpa using L
    subst H e2;cases q:Nat.beq T N with
    | false=>rw[q]at h;exact h.elim
    | true=>
     rw[q]at h;obtain⟨B,C,D,E⟩:=(Kx h).mono (ts':=cX (.call ⟨.builtin .append,#[x,y],#[T,N]⟩)) (by simp[cX,Op.operands,Call.operands]);exact⟨B,C,D,λa j b g=>by simp only[dm,q,cond_true];exact E a j b g⟩
   ·exact h.elim
  ·split at h
   ·rename_i x y w
    have H:args = #[x,y]:=by apply Array.ext';simpa using w
    subst H;exact(Lt h).mono (by simp[cX,Op.operands,Call.operands])
   ·exact h.elim
  ·split at h
   ·rename_i x y w
    have H:args = #[x,y]:=by apply Array.ext';simpa using w
    subst H;exact(Lt h).mono (by simp[cX,Op.operands,Call.operands])
   ·exact h.elim
  ·exact h.elim
 | _=>exact h.elim
end
def cW(o:Oper)(i:Nat):Bool:=o.after.toList.any λe=>Region.binds .any e&&Nat.beq e.on i
def cU(ops:Array Oper)(i:Nat):Oper:=ops.getD i default
def below(n:Nat)(p:Nat->Bool):Bool:=(List.range n).all p
def tM(ops:Array Oper)(i j:Nat):Bool:=match(cU ops i).dst with|some d=>((cU ops j).looksAt ops).any (Nat.beq d)|none=>false
def DV:List Nat->Nat
 | []=>0
 | k::a=>2 ^ k ||| DV a
def ons(o:Oper):List Nat:=(o.after.toList.filter λe=>Region.binds .any e).map (·.on)
def frc{α:Type}(n:Nat)(K:Nat->α):α:=match n with|0=>K 0|n+1=>K (n+1)
theorem KG{α:Type}(n:Nat)(K:Nat->α):frc n K=K n:=by cases n<;>rfl
def clo(ops:Array Oper):Nat->Nat->Nat
 | 0,S=>S
 | k+1,S=>bif S.testBit k then frc (S ||| DV (ons (cU ops k))) (clo ops k) else clo ops k S
def Am(ops:Array Oper)(m:Nat):Bool:=
 below ops.size λj=>((cU ops j).after.toList.all λe=>!Region.binds .any e || Nat.blt e.on j) &&
  (bif Nat.blt j m then below m (λi=>Nat.beq i j || ((cW (cU ops j) i || cW (cU ops i) j || (cU ops i).apart ops (cU ops j))&&(!tM ops i j || cW (cU ops j) i))) else frc (clo ops j (DV (ons (cU ops j)))) λS=>below j λi=>S.testBit i)
def vV:List (Nat × Nat × List Nat)->Nat->Option (Nat × List Nat)
 | [],_=>none
 | p::l,id=>bif Nat.beq id p.1 then some p.2 else vV l id
def gl(P:Program)(TE:Nat->Option TI)(N:fp)(ops:Array Oper)(o:Oper)(K:(Nat->AV)->Prop)(F:Nat->AV):Prop:=
 fC F ops o.guard (λF=>match o.dst with|some d=>dm P TE F o.op λa=>bM N F d a K|none=>False)
  (λF=>match o.dst with|some d=>bM N F d (.hold (.tup []) []) K|none=>False)
def mD:Op->Option (Option Nat × Nat)
 | .buildSlice T 1 ps=>(match ps.toList with|[(0,.tmp s)]=>some (some T,s)|_=>none)
 | .move (.tmp s)=>some (none,s)
 | _=>none
def own1(T:Option Nat)(k:Kd)(cs:List C):Bool:=match T with
 | some _=>(match k with
   | .one=>(match cs with|[c]=>dH c|_=>false)
   | .agg=>(match cs with|[c]=>dH c|_=>false)
   | _=>false)
 | none=>(match k with|.tup _=>!aX cs|_=>false)
def Qy(TE:Nat->Option TI)(N:fp)(F:Nat->AV)(d:Nat)(T:Option Nat)(s:Nat)(K:(Nat->AV)->Prop):Prop:=match T with
 | some T=>fG TE N F d T 1 [(0,.tmp s)] K
 | none=>iJ N F d (.tmp s) K
def Fe(F:Nat->AV)(o:Oper):Option (Option Nat × Nat):=
 match o.guard with
 | some _=>none
 | none=>match mD o.op with
  | none=>none
  | some p=>match F p.2 with
   | .hold k cs=>bif own1 p.1 k cs then some p else none
   | .dead=>none
   | .ref ..=>none
   | .bor ..=>none
   | .iref ..=>none
   | .fn ..=>none
   | .fv _=>none
def iP(ops:Array Oper)(o:Oper)(s:Nat):Bool:=
 ((List.range ops.size).any λk=>cW o k&&(match(cU ops k).dst with|some a=>Nat.beq a s|none=>false))&&Nat.ble (ops.toList.filter λk=>(k.looksAt ops).any (Nat.beq s)).length 1
def nI(ds:List Nat)(o:Oper):Bool:=match o.dst with|some d=>ds.any (Nat.beq d)|none=>false
def twk:List Nat->List Nat
 | []=>[]
 | e::l=>bif Nat.ble 1000 e then(e - 1000)::twk l else []
def dec:List Nat->List (Nat × List Nat)
 | []=>[]
 | e::l=>bif Nat.ble 1000 e then dec l else(e,twk l)::dec l
def Qm:Op->Bool
 | .move (.tmp _)=>true
 | .assign _=>true
 | .extract ..=>true
 | .build ..=>true
 | .buildSlice ..=>true
 | .store ..=>true
 | .load ..=>true
 | .fieldAddr ..=>true
 | .field ..=>true
 | .binOp ..=>true
 | .unOp ..=>true
 | .call c=>(qZ c).isSome
 | _=>false
def He:Op->Bool
 | .call c=>(match c.callee with|.value (.func _)=>true|_=>false)
 | _=>false
def pJ(l:List (Nat × List Nat))(i:Nat):Bool:=l.any λp=>Nat.beq p.1 i
def uE(ops:Array Oper)(j i:Nat):Bool:=(clo ops j (DV (ons (cU ops j)))).testBit i
def QB(o:Oper):Bool:=match o.guard with|none=>true|some _=>false
def Rb(sch:List (Nat × List Nat))(i:Nat):Bool:=sch.any λp=>Nat.beq p.1 i&&!p.2.isEmpty
def QJ(ops:Array Oper)(b a:Oper)(nm:Bool):Bool:=match a.dst with
 | none=>false
 | some c=>QB b&&Qm b.op&&!(match b.dst with|some d=>Nat.beq d c|none=>false)&&!(b.looksAt ops).any (Nat.beq c)&&QB a&&!(a.looksAt ops).any (Nat.beq c)&&(nm || match mD a.op with|none=>true|some p=>!iP ops a p.2)
def zO(ops:Array Oper)(ds:List Nat)(nm:Nat->Bool)(i j:Nat):Bool:=
 bif nI ds (cU ops j) then(bif nI ds (cU ops i) then(cW (cU ops j) i || cW (cU ops i) j || (cU ops i).apart ops (cU ops j))&&(!tM ops i j || cW (cU ops j) i)&&!(match(cU ops i).dst with|some d=>(match(cU ops j).dst with|some e=>Nat.beq d e|none=>false)|none=>false) else true)
 else(bif nI ds (cU ops i) then(uE ops j i || uE ops i j || QJ ops (cU ops j) (cU ops i) (nm i))&&(!tM ops i j || cW (cU ops j) i) else true)
def EC(ops:Array Oper)(ds:List Nat):List (Nat × List Nat)->Bool
 | []=>true
 | k::l=>Nat.blt k.1 ops.size&&!pJ l k.1&&((cU ops k.1).after.toList.all λe=>!Region.binds .any e || !(Nat.beq k.1 e.on || pJ l e.on)) &&
  (nI ds (cU ops k.1) || ((l.all λj=>uE ops j.1 k.1)&&(below ops.size λp=>!nI ds (cU ops p) || pJ l p || uE ops k.1 p || k.2.any (Nat.beq p))&&(!(l.any λj=>nI ds (cU ops j.1)) || (QB (cU ops k.1)&&(Qm (cU ops k.1).op || He (cU ops k.1).op)))))&&EC ops ds l
def By(ops:Array Oper)(ds:List Nat)(sch:List (Nat × List Nat)):Bool:=
 (below ops.size λj=>((cU ops j).after.toList.all λe=>!Region.binds .any e || Nat.blt e.on j)&&pJ sch j&&(!nI ds (cU ops j) || (match mD (cU ops j).op with|none=>true|some p=>!iP ops (cU ops j) p.2 || ds.any (Nat.beq p.2)))&&below ops.size λi=>Nat.beq i j || zO ops ds (Rb sch) i j)&&Nat.beq sch.length ops.size&&EC ops ds sch
def mK(tb:List (Nat × Nat × List Nat))(id:Nat)(ops:Array Oper):Bool:=
 match vV tb id with
 | some (m,ds)=>bif Nat.ble 65536 m then true else bif Nat.ble 256 m then By ops (ds.take (m - 256)) (dec (ds.drop (m - 256))) else(Nat.ble m ops.size&&below m λj=>match(cU ops j).dst with|some d=>ds.any (Nat.beq d)|none=>true)&&Am ops m
 | none=>false
def kx(P:Program)(TE:Nat->Option TI)(N:fp)(ops:Array Oper)(o:Oper)(K:(Nat->AV)->Prop)(F:Nat->AV):Prop:=
 match Fe F o with
 | some p=>(match o.dst with|some d=>bif iP ops o p.2 then Qy TE N F d p.1 p.2 K else False|none=>False)
 | none=>gl P TE N ops o K F
def KV(P:Program)(TE:Nat->Option TI)(N:fp)(ops:Array Oper):Nat->List Oper->((Nat->AV)->Prop)->(Nat->AV)->Prop
 | 0,l,K,F=>HU P TE N ops l K F
 | _+1,[],K,F=>K F
 | m+1,o::l,K,F=>kx P TE N ops o (KV P TE N ops m l K) F
def Nj(ds:List Nat)(t:Nat):Bool:=ds.any (Nat.beq t)
def Rj(ds:List Nat):AV->AV
 | .ref t off st=>bif Nj ds t then .dead else .ref t off st
 | .bor t off st ag=>bif Nj ds t then .dead else .bor t off st ag
 | .fn f caps=>bif caps.any (Nj ds) then .dead else .fn f caps
 | .hold k cs=>.hold k cs
 | .iref r off=>.iref r off
 | .fv Ok=>.fv Ok
 | .dead=>.dead
def clr(ds:List Nat)(F:Nat->AV):Nat->AV:=λt=>Rj ds (F t)
theorem Bv(ds:List Nat)(F:Nat->AV)(t:Nat):clr ds F t=bif ds.any (λd=>(F t).uses d) then .dead else F t:=by
 unfold clr;cases F t with
 | dead=>cases ds.any λd=>AV.uses d .dead<;>rfl
 | hold k i=>
  have:ds.any (λd=>(AV.hold k i).uses d)=false:=by
   rw[<-z5,X3]
   rintro⟨d,_,h⟩
   cases h
  rw[this];rfl
 | iref r a=>
  have:ds.any (λd=>(AV.iref r a).uses d)=false:=by
   rw[<-z5,X3]
   rintro⟨d,_,h⟩
   cases h
  rw[this];rfl
 | fv Ok=>
  have:ds.any (λd=>(AV.fv Ok).uses d)=false:=by
   rw[<-z5,X3]
   rintro⟨d,_,h⟩
   cases h
  rw[this];rfl
 | ref j a l=>rfl
 | bor j a l n=>rfl
 | fn f caps=>
  have:ds.any (λd=>(AV.fn f caps).uses d)=caps.any (Nj ds):=by
   rw[U4,X3,X3];constructor
   ·rintro⟨d,b,h⟩
    simp only[AV.uses,X3]at h;obtain⟨c,e,g⟩:=h;exact⟨c,e,X3.2 ⟨d,b,g⟩⟩
   ·rintro⟨c,e,h⟩
    obtain⟨d,b,g⟩:=X3.1 h;exact⟨d,b,by simp only[AV.uses,X3];exact⟨c,e,g⟩⟩
  rw[this];rfl
inductive Sm(a b:AV)(K:Prop):Prop
 |mk_ (h:a=b/\K)
theorem Sm.rf{a:AV}{K:Prop}(h:K):Sm a a K:=.mk_ ⟨rfl,h⟩
theorem CA:type_of% @Sm.rf:=@Sm.rf
theorem Sm.out{a b:AV}{K:Prop}(h:Sm a b K):a=b/\K:=h.1
def Q9(P:Program)(TE:Nat->Option TI)(ops:Array Oper)(p:Nat)(K:Prop)(F:Nat->AV):Prop:=
 match(cU ops p).dst with
 | none=>False
 | some d=>(match Fe F (cU ops p) with
   | some _=>False
   | none=>dm P TE F (cU ops p).op λa=>Sm a (F d) K)
def Ma(P:Program)(TE:Nat->Option TI)(ops:Array Oper):List Nat->Prop->(Nat->AV)->Prop
 | [],K,_=>K
 | p::l,K,F=>Q9 P TE ops p (Ma P TE ops l K F) F
def MD(P:Program)(TE:Nat->Option TI)(N:fp)(ops:Array Oper)(nm:Bool)(o:Oper)(K:(Nat->AV)->Prop)(F:Nat->AV):Prop:=
 match nm with
 | false=>kx P TE N ops o K F
 | true=>(match Fe F o with
   | some _=>False
   | none=>gl P TE N ops o K F)
def Jv(P:Program)(TE:Nat->Option TI)(N:fp)(ops:Array Oper)(ds:List Nat)(nm:Nat->Bool):List (Nat × List Nat)->((Nat->AV)->Prop)->(Nat->AV)->Prop
 | [],K,F=>K F
 | k::l,K,F=>bif nI ds (cU ops k.1) then MD P TE N ops (nm k.1) (cU ops k.1) (Jv P TE N ops ds nm l K) F else jG P TE N ops (cU ops k.1) (λa=>Ma P TE ops k.2 (Jv P TE N ops ds nm l K a) a) F
def NN:List Nat->(List Nat->Prop)->Prop
 | [],K=>K []
 | a::l,K=>NN l λb=>K (a::b)
theorem Hd:∀(l:List Nat)(K:List Nat->Prop),NN l K=K l
 | [],_=>rfl
 | a::l,K=>by rw[NN,Hd l]
def Aj(l:List Nat)(j:Nat):Bool:=l.any (Nat.beq j)
def Lw(ops:Array Oper)(done:List Nat):List Nat:=(List.range ops.size).filter λj=>!Aj done j&&((cU ops j).after.toList.all λe=>!Region.binds .any e || Aj done e.on)
def Rn(p:Nat->Prop):Nat->List Nat->Prop
 | i,[]=>p i
 | i,j::l=>p i/\Rn p j l
def Ri(l:List Nat)(K:Prop)(p:Nat->Prop):Prop:=match l with
 | []=>K
 | i::l=>Rn p i l
def PV(P:Program)(TE:Nat->Option TI)(N:fp)(ops:Array Oper)(K:(Nat->AV)->Prop):Nat->List Nat->(Nat->AV)->Prop
 | 0,done,F=>Ri (Lw ops done) (K F) λ_=>False
 | n+1,done,F=>Ri (Lw ops done) (K F) λi=>jG P TE N ops (cU ops i) (PV P TE N ops K n (i::done)) F
def DD(P:Program)(TE:Nat->Option TI)(N:fp)(tb:List (Nat × Nat × List Nat))(id:Nat)(ops:Array Oper)(K:(Nat->AV)->Prop)(F:Nat->AV):Prop:=
 match vV tb id with
 | some (m,ds)=>bif Nat.ble 65536 m then PV P TE N ops K ops.size [] F else bif Nat.ble 256 m then NN (ds.take (m - 256)) λa=>Jv P TE N ops a (Rb (dec (ds.drop (m - 256)))) (dec (ds.drop (m - 256))) K (clr a F) else KV P TE N ops m ops.toList K (clr ds F)
 | none=>False
theorem gh{n:Nat}{p:Nat->Bool}(h:below n p=true){i:Nat}(a:i<n):p i=true:=Y3.1 h i (List.mem_range.2 a)
theorem cg{o:Oper}{i:Nat} : cW o i=true↔∃e,e∈o.after/\Region.binds .any e=true/\e.on=i:=by
 unfold cW;rw[X3];constructor
 ·rintro⟨e,b,a⟩
  simp only[I0]at a;exact⟨e,by simpa using b,a.1,C2 a.2⟩
 ·rintro⟨e,b,a,rfl⟩
  exact⟨e,by simpa using b,by rw[a,Nat.beq_refl];rfl⟩
theorem aZ{ops:Array Oper}{i:Nat}{o:Oper}(h:ops[i]? = some o):cU ops i=o:=by simp[cU,C6,h]
section
variable{P:Program}{w0 w w1:World}{M S0 S:ac}{N:fp}{φ:Nat->ac}{F:Nat->AV}{a:Act}{TE:Nat->Option TI}{ops:Array Oper}
theorem tI{d:Nat}{b:Bool}(a:F d=.hold .one [.v (.bool b)]):DY F d b=F:=by
 funext t
 unfold DY;cases c:Nat.beq t d with
 | true=>have:=C2 c;subst this;rw[a];rfl
 | false=>rfl
theorem gf(o:Oper)(t:Nat)(h:t∈cX o.op):t∈o.looksAt ops:=by
 unfold Oper.looksAt;refine List.mem_append_left _ ?_;unfold cX at h;obtain⟨x,b,a⟩:=List.mem_flatMap.1 h;refine List.mem_filterMap.2 ⟨x,b,?_⟩;cases x with
 | tmp c=>simp[tm]at a;subst a;rfl
 | _=>simp[tm]at a
structure R7(P:Program)(TE:Nat->Option TI)(N:fp)(ops:Array Oper)(o:Oper)(F:Nat->AV)(d:Nat)(av:AV):Prop where
 dst:o.dst=some d
 lt:N.free d=true
 self:av.uses d=false
 from_:ec F (o.looksAt ops) av
 at_:∀F':Nat->AV,iN F F' (o.looksAt ops)->∀K':(Nat->AV)->Prop,K' (put F' d av)->gl P TE N ops o K' F'
theorem iN.refl(F:Nat->AV)(ts:List Nat):iN F F ts:=λ_ _=>⟨rfl,λ_ _ _ _ h=>h⟩
theorem wg{o:Oper}{K:(Nat->AV)->Prop}(h:gl P TE N ops o K F):∃d av,R7 P TE N ops o F d av/\K (put F d av):=by
 cases i:o.dst with
 | none=>
  exfalso;unfold gl at h;rw[i]at h;unfold fC at h;cases q:o.guard with
  | none=>rw[q]at h;exact h
  | some p=>
   obtain⟨j,want⟩:=p;rw[q]at h;simp only at h;cases A:(ops[j]?).bind (·.dst) with
   | none=>rw[A]at h;exact h
   | some D=>
    rw[A]at h;simp only at h;split at h
    ·rename_i b _
     replace h:=Bf.out h;cases b<;>cases want<;>exact h
    ·exact h
    ·exact h
 | some d=>
  have put1:∀{a:Nat->AV}{av:AV}{c:(Nat->AV)->Prop},N.free d=true->av.uses d=false->c (put a d av)->bM N a d av c:=λB C H=>by unfold bM;rw[B,C];exact H
  have put2:∀{a:Nat->AV}{av:AV}{c:(Nat->AV)->Prop},bM N a d av c->N.free d=true/\av.uses d=false/\c (put a d av):=fun {a av c} n=>by
   unfold bM at n;cases E:(N.free d&&!av.uses d) with
   | false=>rw[E]at n;exact n.elim
   | true=>
    rw[E]at n;simp only[I0,Bool.not_eq_true']at E;exact⟨E.1,E.2,n⟩
  have pure1:dm P TE F o.op (λav=>bM N F d av K)->∃av,N.free d=true/\av.uses d=false/\K (put F d av)/\ec F (o.looksAt ops) av/\∀a:Nat->AV,iN F a (o.looksAt ops)->∀c:(Nat->AV)->Prop,c (put a d av)->dm P TE a o.op (λav=>bM N a d av c):=λn=>by
   obtain⟨av,B,C,H⟩:=lV n;obtain⟨k,l,r⟩:=put2 B;refine⟨av,k,l,r,C.mono λt J=>gf o t J,λa f c u=>?_⟩;exact H a (f.mono λt J=>gf o t J) _ (put1 k l u)
  unfold gl at h;rw[i]at h;unfold fC at h;cases q:o.guard with
  | none=>
   rw[q]at h;obtain⟨av,k,l,r,L,M⟩:=pure1 h;exact⟨d,av,⟨i,k,l,L,λa f c u=>by unfold gl fC;rw[q,i];exact M a f c u⟩,r⟩
  | some p=>
   obtain⟨j,want⟩:=p;rw[q]at h;simp only at h;cases A:(ops[j]?).bind (·.dst) with
   | none=>rw[A]at h;exact h.elim
   | some D=>
    rw[A]at h;simp only at h;have G:D∈o.looksAt ops:=by
     unfold Oper.looksAt;rw[q];simp only[A,Option.toList_some];simp
    split at h
    case h_3=>exact h.elim
    case h_2=>
     rename_i Q R w;obtain⟨k,l,r⟩:=put2 h;refine⟨d,.hold (.tup []) [],⟨i,k,l,(λd i=>by cases i),λa f c u=>?_⟩,r⟩;unfold gl fC;rw[q,i];simp only;rw[A];simp only;rw[(f D G).1.trans w];exact put1 k l u
    rename_i b w;have same:∀{a:Nat->AV},iN F a (o.looksAt ops)->a D=.hold .one [.v (.bool b)]:=λf=>(f D G).1.trans w
    have back:∀{a:Nat->AV}{c:(Nat->AV)->Prop},iN F a (o.looksAt ops)->(b=want->dm P TE a o.op (λav=>bM N a d av c))->(b = !want->bM N a d (.hold (.tup []) []) c)->gl P TE N ops o c a:=fun {a c} f B C=>by
     unfold gl fC;rw[q,i];simp only;rw[A];simp only;rw[same f];simp only;refine Bf.P (λO=>?_) (λO=>?_)
     ·subst O
      rw[tI (same f)];cases want with
      | true=>exact B rfl
      | false=>exact C rfl
     ·subst O
      rw[tI (same f)];cases want with
      | true=>exact C rfl
      | false=>exact B rfl
    have g:=tI w;replace h:=Bf.out h;by_cases y:b=want
    ·have n:dm P TE F o.op (λav=>bM N F d av K):=by
      subst y;cases b with
      | true=>have:=h;rw[g]at this;exact this
      | false=>have:=h;rw[g]at this;exact this
     obtain⟨av,k,l,r,L,M⟩:=pure1 n;exact⟨d,av,⟨i,k,l,L,λa f c u=>back f (λ_=>M a f c u) (λe=>by subst y;cases b<;>cases e)⟩,r⟩
    ·have n:bM N F d (.hold (.tup []) []) K:=by
      cases b<;>cases want<;>first|exact absurd rfl y|skip
      ·have:=h;rw[g]at this;exact this
      ·have:=h;rw[g]at this;exact this
     obtain⟨k,l,r⟩:=put2 n;exact⟨d,.hold (.tup []) [],⟨i,k,l,(λd i=>by cases i),λa f c u=>back f (λe=>absurd e y) (λ_=>put1 k l u)⟩,r⟩
def aft:AV->AV
 | .hold k a=>.hold k (splice a 0 (List.replicate a.length .x))
 | _=>.hold .one [.x]
theorem Lu(v:AV)(e:Nat):(aft v).uses e=false:=by unfold aft;split<;>rfl
def eff(a:Option Nat)(d:Nat)(av:AV)(F:Nat->AV):Nat->AV:=λt=>if t=d then av else if a=some t then aft (F t) else F t
theorem Aw{d:Nat}(av:AV)(a:∀t,(F t).uses d=false):put F d av=eff none d av F:=by
 funext t
 unfold eff;by_cases h:t=d
 ·subst h;rw[mb,C9 rfl]
 ·rw[gz _ _ h,C8 h,C8 (λe=>by cases e),zS,a t];rfl
theorem PH{s:Nat}{v:AV}(h:v.uses s=false):rj s v=v:=by
 cases v with
 | bor t a b c=>simp only[AV.uses]at h;simp[rj,h]
 | ref t a b=>simp only[AV.uses]at h;cases b<;>simp[rj,h]
 | _=>rfl
theorem LD{d s:Nat}{k:Kd}{cs:List C}(av:AV)(b:F s=.hold k cs)(c:∀t,(F t).uses d=false)(f:∀t,(F t).uses s=false):put (updH F s k (splice cs 0 (List.replicate cs.length .x))) d av=eff (some s) d av F:=by
 funext t
 unfold eff;by_cases h:t=d
 ·subst h;rw[mb,C9 rfl]
 ·rw[gz _ _ h,C8 h]
  by_cases a:t=s
  ·subst a;rw[g9,C9 rfl,b];rfl
  ·rw[C8 (λe=>a (by simpa using e.symm))]
   unfold updH;rw[show Nat.beq t s=false by rw[<-z5,Nat.beq_eq];exact a];simp only[cond_false];rw[PH (f t),zS,c t];rfl
theorem Fh{d T s:Nat}{k:Kd}{c:C}{K:(Nat->AV)->Prop}(n:k=.one\/k=.agg)(o:F s=.hold k [c])(p:dH c=true)(h:fG TE N F d T 1 [(0,.tmp s)] K) :
  ∃av,N.free d=true/\(∀e,av.uses e=false)/\K (put (updH F s k [.x]) d av)/\∀(F':Nat->AV)(K':(Nat->AV)->Prop),F' s=.hold k [c]->K' (put (updH F' s k [.x]) d av)->fG TE N F' d T 1 [(0,.tmp s)] K':=by
 have key:∀F':Nat->AV,F' s=.hold k [c]->∀K':(Nat->AV)->Prop,fG TE N F' d T 1 [(0,.tmp s)] K'=Hy TE T λ_ a=>bif Nat.ble (1*a.size) 16777216 then(bif Nat.beq 1 a.size&&Nat.ble (0*a.size+a.size) (rep a.zero 1).length then bM N (updH F' s k [.x]) d (.hold .one [.s .own (chunk a.size 1 (splice (rep a.zero 1) (0*a.size) [c]))]) K' else False) else False:=by
  intro F' g K';unfold fG
  congr 1
  funext e a
  rcases n with rfl|rfl<;>simp only[dz,fillW,Rh,un,mq,g,ig,aX,p,cond_true,cond_false,gG,nU,List.length_singleton,List.replicate]
  all_goals rfl
 rw[key F o]at h;obtain⟨e,a,b,l⟩:=jc h;cases f:Nat.ble (1*a.size) 16777216 with
 | false=>rw[f]at b;exact b.elim
 | true=>
  cases i:(Nat.beq 1 a.size&&Nat.ble (0*a.size+a.size) (rep a.zero 1).length) with
  | false=>rw[f,i]at b;exact b.elim
  | true=>
   rw[f,i]at b;simp only[cond_true]at b;unfold bM at b;cases j:N.free d with
   | false=>rw[j]at b;exact b.elim
   | true=>
    rw[j]at b;refine⟨_,rfl,λ_=>rfl,b,λF' K' g q=>?_⟩;rw[key F' g];refine l _ ?_;simp only[f,i,cond_true];unfold bM;rw[j];exact q
theorem Qf{d s:Nat}{T:Option Nat}{k:Kd}{cs:List C}{K:(Nat->AV)->Prop}(j:F s=.hold k cs)(a:own1 T k cs=true)(h:Qy TE N F d T s K) :
  ∃av,N.free d=true/\(∀e,av.uses e=false)/\K (put (updH F s k (splice cs 0 (List.replicate cs.length .x))) d av)/\∀(F':Nat->AV)(K':(Nat->AV)->Prop),F' s=.hold k cs->K' (put (updH F' s k (splice cs 0 (List.replicate cs.length .x))) d av)->Qy TE N F' d T s K':=by
 cases T with
 | some T=>
  have i:(k=.one\/k=.agg)/\∃c,cs=[c]/\dH c=true:=by
   unfold own1 at a;cases k with
   | one=>match cs,a with|[c],a=>exact⟨.inl rfl,c,rfl,a⟩
   | agg=>match cs,a with|[c],a=>exact⟨.inr rfl,c,rfl,a⟩
   | _=>cases a
  obtain⟨l,c,rfl,n⟩:=i;exact Fh l j n h
 | none=>
  have i:∃b,k=.tup b/\aX cs=false:=by
   unfold own1 at a;cases k with
   | tup b=>exact⟨b,rfl,by simpa using a⟩
   | _=>cases a
  obtain⟨b,rfl,o⟩:=i;have key:∀F':Nat->AV,F' s=.hold (.tup b) cs->∀K',Qy TE N F' d none s K'=bM N (updH F' s (.tup b) (splice cs 0 (List.replicate cs.length .x))) d (.hold (.tup b) cs) K':=λF' f K'=>by
   simp only[Qy,iJ,f,o,cond_false]
  rw[key F j]at h;unfold bM at h;cases g:N.free d with
  | false=>rw[g]at h;exact h.elim
  | true=>
   rw[g]at h;refine⟨_,rfl,λ_=>rfl,h,λF' K' f p=>?_⟩;rw[key F' f];unfold bM;rw[g];exact p
structure Yl(P:Program)(TE:Nat->Option TI)(N:fp)(ops:Array Oper)(o:Oper)(F:Nat->AV)(mv:Option Nat)(d:Nat)(av:AV):Prop where
 dst:o.dst=some d
 lt:N.free d=true
 self:av.uses d=false
 from_:ec F (o.looksAt ops) av
 mvl:∀s,mv=some s->o.guard=none/\(∃T,mD o.op=some (T,s))/\iP ops o s=true
 at_:∀F':Nat->AV,iN F F' (o.looksAt ops)->(∀t,(F' t).uses d=false)->(∀s,mv=some s->∀t,(F' t).uses s=false)->∀K':(Nat->AV)->Prop,K' (eff mv d av F')->kx P TE N ops o K' F'
theorem H6{o:Op}{T:Option Nat}{s:Nat}(h:mD o=some (T,s)):(∃a ps,T=some a/\o=.buildSlice a 1 ps/\ps.toList=[(0,.tmp s)])\/(T=none/\o=.move (.tmp s)):=by
 unfold mD at h;split at h
 ·split at h
  ·rename_i a ps c b
   simp only[X0,Prod.mk.injEq]at h;obtain⟨rfl,rfl⟩:=h;exact .inl ⟨_,_,rfl,rfl,b⟩
  ·cases h
 ·simp only[X0,Prod.mk.injEq]at h
  obtain⟨rfl,rfl⟩:=h;exact .inr ⟨rfl,rfl⟩
 ·cases h
theorem cQ{o:Oper}{T:Option Nat}{s:Nat}(h:mD o.op=some (T,s)):s∈o.looksAt ops:=by
 refine gf o s ?_;unfold cX;refine List.mem_flatMap.2 ⟨.tmp s,?_,by simp[tm]⟩;rcases H6 h with⟨d,b,-,a,c⟩|⟨-,a⟩
 ·rw[a]
  simp only[Op.operands];have:b = #[(0,.tmp s)]:=Array.ext' (by rw[c]);subst this;simp
 ·rw[a];simp[Op.operands]
theorem Ex{o:Oper}{p:Option Nat × Nat}(h:Fe F o=some p):o.guard=none/\mD o.op=some p/\∃k cs,F p.2=.hold k cs/\own1 p.1 k cs=true:=by
 unfold Fe at h;split at h
 ·cases h
 rename_i b;split at h
 ·cases h
 rename_i c d;split at h
 case h_1=>
  rename_i k cs e;cases a:own1 c.1 k cs with
  | false=>rw[a]at h;cases h
  | true=>
   rw[a]at h;simp only[cond_true,X0]at h;subst h;exact⟨b,d,_,_,e,a⟩
 all_goals cases h
theorem vn{F':Nat->AV}{o:Oper}(a:iN F F' (o.looksAt ops)):Fe F' o=Fe F o:=by
 unfold Fe;cases c:o.guard with
 | some _=>rfl
 | none=>
  cases b:mD o.op with
  | none=>rfl
  | some p=>simp only;rw[(a p.2 (cQ b)).1]
theorem rW{o:Oper}{K:(Nat->AV)->Prop}(e:Fe F o=none)(h:gl P TE N ops o K F)(f:∀d,o.dst=some d->∀t,(F t).uses d=false):∃d av,Yl P TE N ops o F none d av/\K (eff none d av F):=by
 obtain⟨d,av,a,g⟩:=wg h;refine⟨d,av,⟨a.dst,a.lt,a.self,a.from_,λs i=>(by cases i),λj c k _ l b=>?_⟩,by rw[<-Aw av (f d a.dst)];exact g⟩;unfold kx;rw[vn c,e];exact a.at_ j c l (by rw[Aw av k];exact b)
theorem pm{o:Oper}{K:(Nat->AV)->Prop}(h:kx P TE N ops o K F)(w:∀d,o.dst=some d->∀t,(F t).uses d=false)(i:∀T s,o.guard=none->mD o.op=some (T,s)->iP ops o s=true->∀t,(F t).uses s=false) :
  ∃y d av,Yl P TE N ops o F y d av/\K (eff y d av F):=by
 unfold kx at h;cases c:Fe F o with
 | none=>
  rw[c]at h;obtain⟨d,av,l⟩:=rW c h w;exact⟨none,d,av,l⟩
 | some p=>
  rw[c]at h;obtain⟨A,b,k,J,j,f⟩:=Ex c;simp only at h;cases g:o.dst with
  | none=>rw[g]at h;exact h.elim
  | some d=>
   rw[g]at h;simp only at h;cases a:iP ops o p.2 with
   | false=>rw[a]at h;exact h.elim
   | true=>
    rw[a]at h;simp only[cond_true]at h;obtain⟨av,l,B,D,E⟩:=Qf j f h;refine⟨some p.2,d,av,⟨g,l,B d,λe C=>(by rw[B e]at C;cases C),λs i=>?_,λG n q r H u=>?_⟩,?_⟩
    ·simp only[X0]at i
     subst i;exact⟨A,⟨p.1,b⟩,a⟩
    ·unfold kx
     rw[vn n,c];simp only;rw[g];simp only;rw[a];refine E G H ((n p.2 (cQ b)).1.trans j) ?_;rw[LD av ((n p.2 (cQ b)).1.trans j) q (r p.2 rfl)];exact u
    ·rw[<-LD av j (w d g) (i p.1 p.2 A b a)]
     exact D
theorem HG{nm:Bool}{o:Oper}{K:(Nat->AV)->Prop}(h:MD P TE N ops nm o K F)(g:∀d,o.dst=some d->∀t,(F t).uses d=false)(i:∀T s,o.guard=none->mD o.op=some (T,s)->iP ops o s=true->∀t,(F t).uses s=false) :
  ∃a d av,Yl P TE N ops o F a d av/\K (eff a d av F)/\(nm=true->a=none):=by
 unfold MD at h;cases nm with
 | false=>
  obtain⟨a,d,av,b,c⟩:=pm h g i;exact⟨a,d,av,b,c,λe=>(by cases e)⟩
 | true=>
  cases f:Fe F o with
  | some p=>simp only[f]at h
  | none=>
   simp only[f]at h;obtain⟨d,av,b,c⟩:=rW f h g;exact⟨none,d,av,b,c,λ_=>rfl⟩
end
section
variable{P:Program}{w0 w w1:World}{M S0 S:ac}{N:fp}{φ:Nat->ac}{F:Nat->AV}{a:Act}{TE:Nat->Option TI}{ops:Array Oper}
def wS(P:Program)(TE:Nat->Option TI)(N:fp)(ops:Array Oper)(m i:Nat)(K:(Nat->AV)->Prop)(F:Nat->AV):Prop:=
 match ops[i]? with
 | none=>K F
 | some o=>if i<m then kx P TE N ops o K F else jG P TE N ops o K F
def G7(P:Program)(TE:Nat->Option TI)(N:fp)(ops:Array Oper)(m:Nat)(K:(Nat->AV)->Prop):Nat->Array Bool->(Nat->AV)->Prop
 | 0,listed,F=>Region.ready .any ops listed=[]/\K F
 | fuel+1,listed,F=>(Region.ready .any ops listed=[]->K F)/\∀i,i∈Region.ready .any ops listed->wS P TE N ops m i (G7 P TE N ops m K fuel (listed.setIfInBounds i true)) F
theorem bi.oneP0(h:bi w0 M S0 N S φ F a w)(g:∀t i,TE t=some i->cj P t i){o:Oper}{K:(Nat->AV)->Prop}(b:gl P TE N ops o K F){Kc:Act->World->Prop}{Q:Exit->Act->World->Prop}(n:∀F' p f,K F'->St w0 M S0 N F' p f->Kc p f) :
  if Region.wanted o (yielded ops a.tmps) then o.wp P a w Kc Q else Kc (a.put o.dst undef) w:=by
 unfold gl at b;rcases wO h b with⟨j,b⟩|⟨j,b⟩
 ·rw[j,C9 rfl]
  cases e:o.dst with
  | none=>rw[e]at b;exact b.elim
  | some d=>
   rw[e]at b;obtain⟨av,k,q⟩:=h.pure_ g b;refine q Kc Q λv f r=>?_
   obtain⟨F',l,c⟩:=h.putD_new r k;rw[e];exact n F' _ f l c
 ·rw[j,C8 (by simp)]
  cases e:o.dst with
  | none=>rw[e]at b;exact b.elim
  | some d=>
   rw[e]at b;obtain⟨F',k,c⟩:=h.putD_new (v:=undef) (lD.same (av:=.hold (.tup []) []) LS) b;exact n F' _ w k c
theorem JO{o:Oper}{p:Option Nat × Nat}{d:Nat}{K:(Nat->AV)->Prop}(f:Fe F o=some p)(c:o.dst=some d)(h:Qy TE N F d p.1 p.2 K):jG P TE N ops o K F:=by
 obtain⟨e,a,-⟩:=Ex f;obtain⟨T,s⟩:=p;rcases H6 a with⟨i,j,rfl,b,g⟩|⟨rfl,b⟩
 ·unfold jG fC
  rw[e];simp only;rw[b];simp only[Jj];rw[c];simp only[oF,g];exact h
 ·unfold jG fC
  rw[e];simp only;rw[b];simp only[Jj];rw[c];simp only[oF];exact h
theorem bi.oneP(h:bi w0 M S0 N S φ F a w)(c:∀t i,TE t=some i->cj P t i){o:Oper}{K:(Nat->AV)->Prop}(b:kx P TE N ops o K F){Kc:Act->World->Prop}{Q:Exit->Act->World->Prop}(j:∀F' k l,K F'->St w0 M S0 N F' k l->Kc k l) :
  if Region.wanted o (yielded ops a.tmps) then o.wp P a w Kc Q else Kc (a.put o.dst undef) w:=by
 unfold kx at b;cases g:Fe F o with
 | none=>rw[g]at b;exact h.oneP0 c b j
 | some p=>
  rw[g]at b;simp only at b;cases f:o.dst with
  | none=>rw[f]at b;exact b.elim
  | some d=>
   rw[f]at b;simp only at b;cases e:iP ops o p.2 with
   | false=>rw[e]at b;exact b.elim
   | true=>
    rw[e]at b;have:=h.one c (JO (P:=P) (ops:=ops) g f b) (Q:=Q) j;rw[f]at this;exact this
theorem Gi(c:∀t i,TE t=some i->cj P t i){m i:Nat}{K:(Nat->AV)->Prop}(b:wS P TE N ops m i K F)(f:St w0 M S0 N F a w){Kc:Act->World->Prop}{Q:Exit->Act->World->Prop}(d:∀F' g j,K F'->St w0 M S0 N F' g j->Kc g j):wpOp P ops Q i Kc a w:=by
 unfold wS at b;unfold wpOp;cases k:ops[i]? with
 | none=>rw[k]at b;exact d F a w b f
 | some o=>
  rw[k]at b;simp only at b |-;obtain⟨S,φ,h⟩:=f;have:if Region.wanted o (yielded ops a.tmps) then o.wp P a w Kc Q else Kc (a.put o.dst undef) w:=by
   split at b
   ·exact h.oneP c b d
   ·exact h.one c b d
  split
  ·rename_i e;rw[C9 e]at this;exact .inl this
  ·rename_i e;rw[C8 e]at this;exact this
theorem zX(b:∀t i,TE t=some i->cj P t i){m:Nat}{K:(Nat->AV)->Prop}{Q:Exit->Act->World->Prop}(g:∀F' d e,K F'->St w0 M S0 N F' d e->Q .normal d e) :
  ∀(fuel:Nat)(listed:Array Bool)(F:Nat->AV)(a:Act)(w:World),G7 P TE N ops m K fuel listed F->St w0 M S0 N F a w->wpAny P .any ops Q fuel listed a w
 | 0,_,F,a,w,c,f=>⟨c.1,g F a w c.2 f⟩
 | fuel+1,_,F,a,w,c,f=>⟨λj=>g F a w (c.1 j) f,λi k=>Gi b (c.2 i k) f λF' d e l h=>zX b g fuel _ F' d e l h⟩
structure yR(ops:Array Oper)(m:Nat)(F:Nat->AV)(listed:Array Bool):Prop where
 dst:∀j o d,j<m->ops[j]? = some o->listed.getD j true=false->o.dst=some d->∀t,(F t).uses d=false
 mv:∀j o T s,j<m->ops[j]? = some o->listed.getD j true=false->o.guard=none->mD o.op=some (T,s)->iP ops o s=true->∀t,(F t).uses s=false
def DC(ops:Array Oper)(listed:Array Bool):Prop:=∀j a,ops[j]? = some a->listed.getD j false=true->∀k,cW a k=true->listed.getD k false=true
theorem NH{d e:Nat}{v:AV}(h:(kl d v).uses e=true):v.uses e=true/\v.uses d=false:=by
 rw[zS]at h;cases a:v.uses d with
 | true=>rw[a]at h;cases h
 | false=>rw[a]at h;exact⟨h,rfl⟩
theorem xM{α:Type}{p:α->Bool} : ∀{l:List α}{i j:Nat}{x y:α},(l.filter p).length<=1->l[i]? = some x->l[j]? = some y->p x=true->p y=true->i=j
 | [],_,_,_,_,_,h,_,_,_=>by simp at h
 | a::l,0,0,_,_,_,_,_,_,_=>rfl
 | a::l,i+1,j+1,x,y,h,b,c,d,e=>by
  rw[xM (l:=l) (V4 (List.Sublist.length_le ((List.sublist_cons_self a l).filter p)) h) b c d e]
 | a::l,0,j+1,x,y,h,b,c,d,e=>by
  simp only[List.getElem?_cons_zero,X0]at b;subst b;rw[List.filter_cons_of_pos d]at h;have:y∈l.filter p:=C4.2 ⟨Z1 c,e⟩;have:=List.length_pos_of_mem this;rw[List.length_cons]at h;omega
 | a::l,i+1,0,x,y,h,b,c,d,e=>by
  simp only[List.getElem?_cons_zero,X0]at c;subst c;rw[List.filter_cons_of_pos e]at h;have:x∈l.filter p:=C4.2 ⟨Z1 b,d⟩;have:=List.length_pos_of_mem this;rw[List.length_cons]at h;omega
theorem ik{listed:Array Bool}{j a:Nat}(c:(listed.setIfInBounds j true).getD a true=false):a≠j:=λe=>by
 subst e;have b:a<listed.size:=by
  rcases Nat.lt_or_ge a listed.size with h|h
  ·exact h
  ·simp[C6,Array.getElem?_eq_none (show(listed.setIfInBounds a true).size<=a by simpa using h)]at c
 simp[C6,b]at c
theorem jy{b:Option Nat}{d e t:Nat}{av:AV}(a:av.uses e=false)(c:(F t).uses e=false):(eff b d av F t).uses e=false:=by
 unfold eff;split
 ·exact a
 ·split
  ·exact Lu _ _
  ·exact c
theorem yR.put{m j d:Nat}{r:Option Nat}{listed:Array Bool}{av:AV}(h:yR ops m F listed)(o:∀a b g,a<m->a≠j->ops[a]? = some b->listed.getD a true=false->b.dst=some g->av.uses g=false)(p:∀a b T s,a<m->a≠j->ops[a]? = some b->listed.getD a true=false->b.guard=none->mD b.op=some (T,s)->iP ops b s=true->av.uses s=false) :
  yR ops m (eff r d av F) (listed.setIfInBounds j true):=by
 refine⟨λa b g i c f k t=>?_,λa b T s i c f q l n t=>?_⟩
 ·have e:=ik f
  rw[getD_set_ne true (Ne.symm e)]at f;exact jy (o a b g i e c f k) (h.dst a b g i c f k t)
 ·have e:=ik f
  rw[getD_set_ne true (Ne.symm e)]at f;exact jy (p a b T s i e c f q l n) (h.mv a b T s i c f q l n t)
inductive n6(ops:Array Oper):Nat->Nat->Prop
 |one {j i:Nat} (h:cW (cU ops j) i=true):n6 ops j i
 |step {j k i:Nat} (h:cW (cU ops j) k=true) (h2:n6 ops k i):n6 ops j i
theorem n6.trans{i j k:Nat}(h:n6 ops j k)(a:n6 ops k i):n6 ops j i:=by
 induction h with
 | one h=>exact .step h a
 | step h _ b=>exact .step h (b a)
theorem EV{i:Nat} : ∀{a:List Nat},(DV a).testBit i=true->i∈a
 | [],h=>by simp[DV]at h
 | k::a,h=>by
  rw[DV,Nat.testBit_or,X5]at h;rcases h with h|h
  ·rw[Nat.testBit_two_pow]at h
   rw[C0]at h;rw[h];exact V1
  ·exact v5 _ (EV h)
theorem vw{o:Oper}{i:Nat}(h:(DV (ons o)).testBit i=true):cW o i=true:=by
 have:=EV h;unfold ons at this;obtain⟨e,a,rfl⟩:=z4.1 this;rw[C4]at a;exact cg.2 ⟨e,by simpa using a.1,a.2,rfl⟩
theorem rz{j:Nat} : ∀(k S:Nat),(∀i,S.testBit i=true->n6 ops j i)->∀i,(clo ops k S).testBit i=true->n6 ops j i
 | 0,_,h,i,a=>h i a
 | k+1,S,h,i,a=>by
  rw[clo,KG]at a;cases c:S.testBit k with
  | false=>rw[c]at a;exact rz k S h i a
  | true=>
   rw[c]at a;refine rz k _ (λe b=>?_) i a;rw[Nat.testBit_or,X5]at b;rcases b with d|d
   ·exact h e d
   ·exact(h k c).trans (.one (vw d))
theorem mA{listed:Array Bool}(d:DC ops listed)(b:∀j o,ops[j]? = some o->∀e∈o.after,Region.binds .any e=true->e.on<j){j i:Nat}(p:n6 ops j i):j<ops.size->(∀k,cW (cU ops j) k=true->listed.getD k false=true)->listed.getD i false=true:=by
 induction p with
 | one h=>exact λ_ f=>f _ h
 | @step j k i h h2 ih=>
  intro g f;have r:k<j:=by
   have c:=(show ops[j]? = some ops[j] from Y5 g)
   rw[aZ c]at h;obtain⟨e,l,n,rfl⟩:=cg.1 h;exact b j _ c e l n
  have a:k<ops.size:=ω
  have c:=(show ops[k]? = some ops[k] from Y5 a)
  exact ih a λq a=>d k _ c (f k h) q (by rw[aZ c]at a;exact a)
theorem DC.put{listed:Array Bool}(h:DC ops listed){j:Nat}(n:j∈Region.ready .any ops listed):DC ops (listed.setIfInBounds j true):=by
 obtain⟨p,q,d,a⟩:=mem_ready.1 n;intro k ok c i e l;by_cases b:k=j
 ·subst b
  rw[d]at c;simp only[X0]at c;subst c;obtain⟨o,f,g,rfl⟩:=cg.1 l;exact getD_set_true (a o f g)
 ·rw[getD_set_ne false (Ne.symm b)]at i
  exact getD_set_true (h k ok c i e l)
theorem fJ{o:Oper}{s:Nat}(h:iP ops o s=true):(∃k ok,cW o k=true/\ops[k]? = some ok/\ok.dst=some s)/\∀(i j:Nat)(b c:Oper),ops[i]? = some b->ops[j]? = some c->s∈b.looksAt ops->s∈c.looksAt ops->i=j:=by
 unfold iP at h;rw[I0]at h;obtain⟨w,y⟩:=h;constructor
 ·obtain⟨k,A,g⟩:=X3.1 w
  have n:=List.mem_range.1 A;have t:=(show ops[k]? = some ops[k] from Y5 n)
  rw[I0,aZ t]at g;refine⟨k,_,g.1,t,?_⟩;have:=g.2;cases u:ops[k].dst with
  | none=>rw[u]at this;cases this
  | some a=>rw[u]at this;simp only at this;rw[C2 this]
 ·intro i j b c B C q r
  have d:=C1 y;have e:ops.toList[i]? = some b:=by simpa using B
  have f:ops.toList[j]? = some c:=by simpa using C
  have D:(b.looksAt ops).any (Nat.beq s)=true:=X3.2 ⟨s,q,Nat.beq_refl s⟩;have E:(c.looksAt ops).any (Nat.beq s)=true:=X3.2 ⟨s,r,Nat.beq_refl s⟩;generalize ops.toList=l at d e f;exact xM (p:=λk:Oper=>(k.looksAt ops).any (Nat.beq s)) d e f D E
structure Rf(ops:Array Oper)(m:Nat):Prop where
 back:∀j oj,ops[j]? = some oj->∀e∈oj.after,Region.binds .any e=true->e.on<j
 tail:∀j,m<=j->j<ops.size->∀i,i<j->n6 ops j i
 apart:∀i j oi oj,i<m->j<m->i≠j->ops[i]? = some oi->ops[j]? = some oj->cW oj i=true\/cW oi j=true\/oi.apart ops oj=true
 look:∀i j oi oj d,i<m->j<m->i≠j->ops[i]? = some oi->ops[j]? = some oj->oi.dst=some d->d∈oj.looksAt ops->cW oj i=true
theorem E8{m:Nat}(h:Am ops m=true):Rf ops m:=by
 have n:∀j b,ops[j]? = some b->_:=λj b a=>gh h (T3.1 a).1
 refine⟨λj b a e t p=>?_,λj A a i l=>?_,λi j u b l a f o k=>?_,λi j u b d l a f o k w y=>?_⟩
 ·have:=n j b a
  rw[aZ a]at this;simp only[I0]at this;have:=Y3.1 this.1 e (by simpa using t);rw[p]at this;simpa[Nat.blt_eq] using this
 ·have q:=(show ops[j]? = some ops[j] from Y5 a)
  have:=n j _ q;simp only[I0]at this;have c:=this.2;rw[show Nat.blt j m=false by rw[<-z5,Nat.blt_eq];omega]at c;simp only[cond_false,KG]at c;exact rz j _ (λB r=>.one (vw r)) i (gh c l)
 ·have:=n j b k
  rw[aZ k]at this;simp only[I0]at this;have c:=this.2;rw[show Nat.blt j m=true by simpa[Nat.blt_eq] using a]at c;have g:=gh c l;rw[aZ o,show Nat.beq i j=false by rw[<-z5,Nat.beq_eq];exact f]at g;simp only[Bool.false_or,I0,X5]at g;rcases g.1 with(h|h)|h
  ·exact .inl h
  ·exact .inr (.inl h)
  ·exact .inr (.inr h)
 ·have:=n j b k
  rw[aZ k]at this;simp only[I0]at this;have c:=this.2;rw[show Nat.blt j m=true by simpa[Nat.blt_eq] using a]at c;have g:=gh c l;rw[aZ o,show Nat.beq i j=false by rw[<-z5,Nat.beq_eq];exact f]at g;simp only[Bool.false_or,I0,X5]at g;rcases g.2 with h|h
  ·exfalso
   unfold tM at h;rw[aZ o,w]at h;simp only at h;rw[aZ k]at h;have:(b.looksAt ops).any (Nat.beq d)=true:=X3.2 ⟨d,y,Nat.beq_refl d⟩;rw[this]at h;cases h
  ·exact h
theorem J1{m:Nat}(W:Rf ops m){i d:Nat}{o:Oper}{y:Option Nat}{av:AV}{K:(Nat->AV)->Prop}(G:ops[i]? = some o)(r:i<m) :
  ∀(fuel:Nat)(listed:Array Bool)(F:Nat->AV),i∈Region.ready .any ops listed->yR ops m F listed->DC ops listed->Yl P TE N ops o F y d av->G7 P TE N ops m K fuel (listed.setIfInBounds i true) (eff y d av F)->G7 P TE N ops m K (fuel+1) listed F:=by
 have self:∀(listed:Array Bool)(F:Nat->AV),i∈Region.ready .any ops listed->yR ops m F listed->Yl P TE N ops o F y d av->∀K':(Nat->AV)->Prop,K' (eff y d av F)->kx P TE N ops o K' F:=λlisted F D a p K' hK=>by
  have b:=(mem_ready.1 D).1;refine p.at_ F (iN.refl _ _) (a.dst i o d r G b p.dst) (λs hs=>?_) K' hK;obtain⟨A,⟨T,V⟩,h3⟩:=p.mvl s hs;exact a.mv i o T s r G b A V h3
 intro fuel
 induction fuel with
 | zero=>
  intro listed F D a hdc p H;refine⟨λh=>(by rw[h]at D;cases D),λj hj=>?_⟩;by_cases l:j=i
  ·subst l
   unfold wS;rw[G];simp only[C9 r];exact self listed F D a p _ H
  ·have:=ready_mono hj l
   rw[H.1]at this;cases this
 | succ fuel ih=>
  intro listed F D a hdc p H;refine⟨λh=>(by rw[h]at D;cases D),λj hj=>?_⟩;by_cases l:j=i
  ·subst l
   unfold wS;rw[G];simp only[C9 r];exact self listed F D a p _ H
  ·have A:=H.2 j (ready_mono hj l)
   obtain⟨J,n,c,hall⟩:=mem_ready.1 hj;have b:=(mem_ready.1 D).1;have unl:∀k,listed.getD k true=false->listed.getD k false=true->False:=λk A V=>by
    rcases Nat.lt_or_ge k listed.size with h'|h'
    ·simp[h']at A V;rw[A]at V;cases V
    ·simp[Array.getElem?_eq_none h']at V
   have noedge:∀k ok,ops[k]? = some ok->listed.getD k true=false->cW n k=false:=λk ok hk L=>by
    rw[<-z5];intro he;obtain⟨e,M,O,he3⟩:=cg.1 he;exact unl k L (he3 ▸ hall e M O)
   have noedge':∀k ok,ops[k]? = some ok->listed.getD k true=false->cW o k=false:=λk ok hk L=>by
    rw[<-z5];intro he;obtain⟨e,M,O,he3⟩:=cg.1 he;obtain⟨-,oi',Q,hall'⟩:=mem_ready.1 D;rw[G]at Q;simp only[X0]at Q;subst Q;exact unl k L (he3 ▸ hall' e M O)
   have R:j<m:=by
    rcases Nat.lt_or_ge j m with h|h
    ·exact h
    ·have hjlt:=(T3.1 c).1
     refine(unl i b (mA hdc W.back (W.tail j h hjlt i ω) hjlt λk hk=>?_)).elim;rw[aZ c]at hk;obtain⟨e,M,O,rfl⟩:=cg.1 hk;exact hall e M O
   have hap:o.apart ops n=true:=by
    rcases W.apart i j o n r R (Ne.symm l) G c with h|h|h
    ·rw[noedge i o G b]at h;cases h
    ·rw[noedge' j n c J]at h;cases h
    ·exact h
   obtain⟨ap1,ap2,ap3⟩:=Oper.apart_spec hap;unfold wS at A |-;rw[c]at A |-;simp only[C9 R]at A |-;have hdl:d∉n.looksAt ops:=ap1 d p.dst;have cd:∀t,(F t).uses d=false:=a.dst i o d r G b p.dst
   have cdj':∀f,n.dst=some f->∀t,(F t).uses f=false:=λf S=>a.dst j n f R c J S
   have cmv:∀s,y=some s->(∀t,(F t).uses s=false)/\s∉n.looksAt ops/\s∈o.looksAt ops:=λs hs=>by
    obtain⟨U,⟨T,q⟩,E⟩:=p.mvl s hs;exact⟨a.mv i o T s r G b U q E,λhl=>l ((fJ E).2 i j o n G c (cQ q) hl).symm,cQ q⟩
   have cmvj:∀T s,n.guard=none->mD n.op=some (T,s)->iP ops n s=true->(∀t,(F t).uses s=false)/\s∉o.looksAt ops/\s∈n.looksAt ops:=λT s U q E=>
    ⟨a.mv j n T s R c J U q E,λhl=>l ((fJ E).2 i j o n G c hl (cQ q)).symm,cQ q⟩
   have avno:∀e,e∉o.looksAt ops->(∀t,(F t).uses e=false)->av.uses e=false:=λe A V=>by
    cases w:av.uses e with
    | false=>rfl
    | true=>
     rcases p.from_ e w with h|⟨t,_,h⟩
     ·exact absurd h A
     ·rw[V t]at h;cases h
   obtain⟨mvj,f,avj,B,hKj⟩:=pm A (λf S t=>jy (avno f (ap3 f S) (cdj' f S)) (cdj' f S t)) (λT s U q E t=>by
     obtain⟨c1,c2,-⟩:=cmvj T s U q E;exact jy (avno s c2 c1) (c1 t))
   have hdne:d≠f:=λe=>ap2 d p.dst (by rw[B.dst,e])
   have hdjl:f∉o.looksAt ops:=ap3 f B.dst;have cdj:∀t,(F t).uses f=false:=cdj' f B.dst
   have cmj:∀s,mvj=some s->(∀t,(F t).uses s=false)/\s∉o.looksAt ops/\s∈n.looksAt ops:=λs hs=>by
    obtain⟨U,⟨T,q⟩,E⟩:=B.mvl s hs;exact cmvj T s U q E
   have lookj:∀t,t∈n.looksAt ops->eff y d av F t=F t:=λt u=>by
    unfold eff;have X:t≠d:=λe=>hdl (e ▸ u)
    have e2:y≠some t:=λe=>(cmv t e).2.1 u
    rw[C8 X,C8 e2]
   have looki:∀t,t∈o.looksAt ops->eff mvj f avj F t=F t:=λt u=>by
    unfold eff;have X:t≠f:=λe=>hdjl (e ▸ u)
    have e2:mvj≠some t:=λe=>(cmj t e).2.1 u
    rw[C8 X,C8 e2]
   have avjno:∀e,e∉n.looksAt ops->(∀t,(F t).uses e=false)->avj.uses e=false:=λe A V=>by
    cases w:avj.uses e with
    | false=>rfl
    | true=>
     rcases B.from_ e w with h|⟨t,u,h⟩
     ·exact absurd h A
     ·rw[lookj t u,V t]at h;cases h
   have agrj:iN (eff y d av F) F (n.looksAt ops):=λt u=>by
    rw[lookj t u];refine⟨rfl,λt' w k cs hh=>?_⟩;have g:t'≠d:=λe=>by rw[e,cd t]at w;cases w
    have hnm:y≠some t':=λe=>by rw[(cmv t' e).1 t]at w;cases w
    unfold eff at hh;rw[C8 g,C8 hnm]at hh;exact hh
   refine B.at_ F agrj cdj (λs hs=>(cmj s hs).1) _ (ih (listed.setIfInBounds j true) (eff mvj f avj F) (ready_mono D (Ne.symm l)) (a.put (λj' o' d' Y g C Z hd'=>?_) (λj' o' T s Y g C Z U q E=>?_)) (hdc.put hj) ?_ ?_)
   ·refine avjno d' (λh=>?_) (a.dst j' o' d' Y C Z hd')
    have:=W.look j' j o' n d' Y R g C c hd' h;rw[noedge j' o' C Z]at this;cases this
   ·exact avjno s (λh=>g ((fJ E).2 j' j o' n C c (cQ q) h)) (a.mv j' o' T s Y C Z U q E)
   ·refine⟨p.dst,p.lt,p.self,λe he=>?_,p.mvl,λF' hA hd' hs' K' hK=>p.at_ F' (λt u=>?_) hd' hs' K' hK⟩
    ·rcases p.from_ e he with h|⟨t,u,h⟩
     ·exact .inl h
     ·exact .inr ⟨t,u,by rw[looki t u];exact h⟩
    ·obtain⟨a1,a2⟩:=hA t u
     rw[looki t u]at a1 a2;refine⟨a1,λt' w k cs hh=>a2 t' w k cs ?_⟩;have g:t'≠f:=λe=>by rw[e,cdj t]at w;cases w
     have hnm:mvj≠some t':=λe=>by rw[(cmj t' e).1 t]at w;cases w
     unfold eff;rw[C8 g,C8 hnm];exact hh
   ·rw[Array.setIfInBounds_comm _ _ l]
    have:eff y d av (eff mvj f avj F)=eff mvj f avj (eff y d av F):=by
     funext t
     unfold eff;by_cases X:t=d
     ·have U:t≠f:=λe=>hdne (X.symm.trans e)
      have q:mvj≠some t:=λe=>hdl (X ▸ (cmj t e).2.2)
      simp only[C9 X,C8 U,C8 q]
     ·rw[C8 X]
      by_cases e2:t=f
      ·have q:y≠some t:=λe=>hdjl (e2 ▸ (cmv t e).2.2)
       simp only[C9 e2,C8 q]
      ·simp only[C8 e2,C8 X]
       by_cases e3:y=some t
       ·by_cases e4:mvj=some t
        ·simp only[C9 e3,C9 e4]
        ·simp only[C9 e3,C8 e4]
       ·by_cases e4:mvj=some t
        ·simp only[C8 e3,C9 e4]
        ·simp only[C8 e3,C8 e4]
    rw[this];exact hKj
theorem sV{o:Op}{K K':AV->Prop}(h:dm P TE F o K)(a:∀av,K av->K' av):dm P TE F o K':=by
 obtain⟨av,b,-,c⟩:=lV h;exact c F (iN.refl _ _) K' (a av b)
theorem bH{d:Nat}{av:AV}{K K':(Nat->AV)->Prop}(h:bM N F d av K)(b:∀F',K F'->K' F'):bM N F d av K':=by
 unfold bM at h |-;cases a:(N.free d&&!av.uses d) with
 | false=>rw[a]at h;exact h.elim
 | true=>rw[a]at h;exact b _ h
theorem fH{y:Operand}{K K':(Nat->AV)->Option Nat->List C->Prop}(h:gG F y K)(b:∀F' ag cs,K F' ag cs->K' F' ag cs):gG F y K':=by
 cases y with
 | tmp t=>
  simp only[gG]at h |-;cases c:F t with
  | hold k cs=>
   rw[c]at h;cases k with
   | one=>exact b _ _ _ h
   | agg=>exact b _ _ _ h
   | _=>exact h.elim
  | bor e d f ag=>
   rw[c]at h;cases f with
   | cons s f=>
    simp only at h |-;cases a:F e with
    | hold k cs=>
     rw[a]at h;obtain⟨r,j,i,l,n,o⟩:=Lq.out h;exact .mk_ ⟨r,j,_,_,i,l,n,rfl,rfl,b _ _ _ o⟩
    | _=>rw[a]at h;exact h.elim
   | nil=>
    simp only at h |-;cases a:F e with
    | hold k cs=>
     rw[a]at h;simp only at h |-;cases g:Nat.ble (d+ag.getD 1) cs.length with
     | false=>rw[g]at h;exact h.elim
     | true=>rw[g]at h;exact b _ _ _ h
    | _=>rw[a]at h;exact h.elim
  | _=>rw[c]at h;exact h.elim
 | _=>exact h.elim
theorem zt{x:Operand}{K K':AV->Prop}(h:bp F x K)(a:∀av,K av->K' av):bp F x K':=by
 obtain⟨av,b,-,c⟩:=js h;exact c F (iN.refl _ _) K' (a av b)
theorem DU{d:Nat}{x:Operand}{K K':(Nat->AV)->Prop}(h:jT N F d x K)(n:∀F',K F'->K' F'):jT N F d x K':=by
 have a:∀y,bp F y (λj=>bM N F d j K)->bp F y (λj=>bM N F d j K'):=λy h=>zt h λj h=>bH h n
 have l:∀y,gG F y (λF' i c=>bM N F' d (.hold (kP i) c) K)->gG F y (λF' i c=>bM N F' d (.hold (kP i) c) K'):=λy h=>fH h λF' i c h=>bH h n
 cases x with
 | tmp t=>
  unfold jT at h |-;simp only at h |-;cases e:F t with
  | hold k c=>
   rw[e]at h;cases k with
   | one=>
    simp only at h |-;cases b:aX c with
    | true=>rw[b]at h;exact a (.tmp t) h
    | false=>rw[b]at h;exact l (.tmp t) h
   | agg=>
    simp only at h |-;cases b:aX c with
    | true=>rw[b]at h;exact a (.tmp t) h
    | false=>rw[b]at h;exact l (.tmp t) h
   | tup p=>exact a _ h
   | box=>exact a _ h
  | bor q o r i=>
   rw[e]at h;simp only at h |-;cases b:N.al d with
   | true=>rw[b]at h;exact a (.tmp t) h
   | false=>rw[b]at h;exact l (.tmp t) h
  | dead=>rw[e]at h;exact a _ h
  | ref=>rw[e]at h;exact a _ h
  | iref=>rw[e]at h;exact a _ h
  | fn=>rw[e]at h;exact a _ h
  | fv=>rw[e]at h;exact a _ h
 | const v=>exact a (.const v) h
 | global g=>exact a (.global g) h
 | func f=>exact a (.func f) h
theorem LH{d:Nat}{x:Operand}{K K':(Nat->AV)->Prop}(h:B4 N F d x K)(a:∀F',K F'->K' F'):B4 N F d x K':=by
 unfold B4 at h |-;cases b:AS N F d x with
 | none=>rw[b]at h;exact DU h a
 | some p=>rw[b]at h;exact bH h a
theorem tB{x:Operand}{cs:List C}{K K':(Nat->AV)->Prop}(h:pV F x cs K)(d:∀F',K F'->K' F'):pV F x cs K':=by
 cases x with
 | tmp t=>
  simp only[pV]at h |-;cases e:F t with
  | hold k c=>
   rw[e]at h;cases k with
   | box=>
    simp only at h |-;cases b:Nat.ble cs.length c.length with
    | false=>rw[b]at h;exact h.elim
    | true=>rw[b]at h;simp only[cond_true,dz]at h |-;exact d _ h
   | _=>exact h.elim
  | ref g f i=>
   rw[e]at h;cases i with
   | cons s i=>
    simp only at h |-;cases a:F g with
    | hold k c=>
     rw[a]at h;obtain⟨r,j,l,n,o,p⟩:=Pu.out h;exact Pu.mk l n o rfl (d _ p)
    | _=>rw[a]at h;exact h.elim
   | nil=>
    simp only at h |-;cases a:F g with
    | hold k c=>
     rw[a]at h;cases k with
     | box=>
      simp only at h |-;cases b:Nat.ble (f+cs.length) c.length with
      | false=>rw[b]at h;exact h.elim
      | true=>rw[b]at h;simp only[cond_true,dz]at h |-;exact d _ h
     | _=>exact h.elim
    | _=>rw[a]at h;exact h.elim
  | _=>rw[e]at h;exact h.elim
 | _=>exact h.elim
theorem GC{T:Nat}{x y:Operand}{K K':(Nat->AV)->Prop}(h:mT TE F T x y K)(d:∀F',K F'->K' F'):mT TE F T x y K':=by
 unfold mT at h |-;split at h
 ·rename_i i l
  obtain⟨n,e,a,j⟩:=cy h;refine j F (iN.refl _ _) _ ?_;cases f:Nat.beq e.length i.size with
  | false=>rw[f]at a;exact a.elim
  | true=>
   rw[f]at a;simp only[cond_true]at a |-;cases g:aX e with
   | true=>rw[g]at a;exact tB a d
   | false=>
    rw[g]at a;simp only[cond_false]at a |-;refine fH a λF' k c h=>?_
    cases b:Nat.beq c.length i.size with
    | false=>rw[b]at h;exact h.elim
    | true=>rw[b]at h;exact tB h d
 ·exact h.elim
theorem Fg{g:Option (Nat × Bool)}{a c K1' K0':(Nat->AV)->Prop}(h:fC F ops g a c)(h1:∀F,a F->K1' F)(e:∀F,c F->K0' F):fC F ops g K1' K0':=by
 unfold fC at h |-;split at h
 ·exact h1 _ h
 ·rename_i j want
  split at h
  ·rename_i d f
   split at h
   ·rename_i b i
    replace h:=Bf.out h;cases b<;>cases want<;>first|exact .in_ (h1 _ h)|exact .in_ (e _ h)
   ·exact e _ h
   ·exact h.elim
  ·exact h.elim
theorem tC{x:Operand}{K K':(Nat->AV)->Option Nat->List C->Prop}(h:un F x K)(b:∀F' ag cs,K F' ag cs->K' F' ag cs):un F x K':=by
 obtain⟨ag,cs,a,d⟩:=cy h;refine d F (iN.refl _ _) _ ?_;cases c:aX cs with
 | true=>rw[c]at a;exact b _ _ _ a
 | false=>rw[c]at a;exact fH a b
theorem iX{b:Nat->Option (Nat × Nat)} : ∀{parts:List (Nat × Operand)}{cs:List C}{K K':(Nat->AV)->List C->Prop}{F:Nat->AV},fillW b parts cs K F->(∀F' cs,K F' cs->K' F' cs)->fillW b parts cs K' F
 | [],cs,K,K',F,h,a=>a _ _ h
 | p::rest,cs,K,K',F,h,a=>by
  simp only[fillW]at h |-;split at h
  case h_2=>exact h.elim
  rename_i q d;refine tC h λF' e xs h=>?_
  cases c:(Nat.beq xs.length q.2&&Nat.ble (q.1+q.2) cs.length) with
  | false=>rw[c]at h;exact h.elim
  | true=>
   rw[c]at h;simp only[cond_true,dz]at h |-;exact iX h a
theorem DK{d T:Nat}{parts:List (Nat × Operand)}{K K':(Nat->AV)->Prop}(h:jJ TE N F d T parts K)(b:∀F',K F'->K' F'):jJ TE N F d T parts K':=by
 unfold jJ at h |-;split at h
 case h_2=>exact h.elim
 rename_i size bytes zero flds c;cases a:vM TE flds with
 | false=>rw[a]at h;exact h.elim
 | true=>rw[a]at h;exact iX h λF' e h=>bH h b
theorem Ax{d T n:Nat}{parts:List (Nat × Operand)}{K K':(Nat->AV)->Prop}(h:fG TE N F d T n parts K)(a:∀F',K F'->K' F'):fG TE N F d T n parts K':=by
 obtain⟨e,c,h,f⟩:=jc h;refine f _ ?_;cases b:Nat.ble (n*c.size) 16777216 with
 | false=>rw[b]at h;exact h.elim
 | true=>
  rw[b]at h;simp only[cond_true]at h |-;split at h
  ·exact bH h a
  ·rw[dz]at h |-
   refine iX h λF' g h=>?_
   rw[nU]at h |-;exact bH h a
  ·exact h.elim
theorem Do{y:Operand}{K K':Bool->(Nat->AV)->List (List C)->Prop}(h:BA F y K)(a:∀b F' xr,K b F' xr->K' b F' xr):BA F y K':=by
 unfold BA at h |-;split at h
 ·refine fH h λF' c d h=>?_
  match c,d,h with
  | none,[.s .own rows],h=>exact a _ _ _ h
 ·obtain⟨c,d,e,f⟩:=cy h
  refine f F (iN.refl _ _) _ ?_
  match c,d,e with
  | none,[.s o rows],h=>exact a _ _ _ h
  | none,[.z],h=>exact a _ _ _ h
theorem zk{x:Operand}{K K':(Nat->AV)->List (List C)->Prop}(h:yO F x K)(c:∀F' xr,K F' xr->K' F' xr):yO F x K':=by
 obtain⟨a,b,d,e⟩:=cy h;refine e F (iN.refl _ _) _ ?_
 match a,b,d with
 | none,[.z],h=>exact c _ _ h
 | none,[.s .own _],h=>
  refine fH h λF' a b h=>?_
  match a,b,h with
  | none,[.s .own rows],h=>exact c _ _ h
theorem HT{d T:Nat}{x y:Operand}{K K':(Nat->AV)->Prop}(h:z6 TE N F d T x y K)(c:∀F',K F'->K' F'):z6 TE N F d T x y K':=by
 obtain⟨e,o,h,f⟩:=jc h;refine f _ (Do h λb F' p h=>zk h λF'' a h=>?_);obtain⟨g,i,j,k,l,n⟩:=h.out;exact CQ g i j k l rfl (bH n c)
theorem BT{d T:Nat}{x:Operand}{K K':(Nat->AV)->Prop}(h:pA TE N F d T x K)(a:∀F',K F'->K' F'):pA TE N F d T x K':=by
 unfold pA at h |-;split at h
 case h_2=>exact h.elim
 refine fH h λF' b c h=>?_
 split at h
 ·exact bH h a
 ·exact h.elim
theorem FD{d:Nat}{x:Operand}{K K':(Nat->AV)->Prop}(h:iJ N F d x K)(b:∀F',K F'->K' F'):iJ N F d x K':=by
 have std:∀{y:Operand},bp F y (λa=>bM N F d a K)->bp F y (λa=>bM N F d a K'):=λh=>zt h λa h=>bH h b
 cases x with
 | tmp t=>
  simp only[iJ]at h |-;split at h
  ·rename_i i e j
   cases c:aX e with
   | true=>rw[c]at h;exact bH h b
   | false=>rw[c]at h;exact bH h b
  all_goals exact std h
 | const v=>simp only[iJ]at h |-;exact std h
 | global g=>simp only[iJ]at h |-;exact std h
 | func f=>simp only[iJ]at h |-;exact std h
theorem Fy{d:Nat}{x:Operand}{K K':(Nat->AV)->Prop}(h:tK N F d x K)(a:∀F',K F'->K' F'):tK N F d x K':=by
 unfold tK at h |-;split at h
 case h_2=>exact h.elim
 split at h
 case h_2=>exact h.elim
 obtain⟨b,c⟩:=h.out;exact Nt.mk (λe=>bH (b e) a) λf k g e=>bH (c f k g e) a
theorem E1{d:Nat}{x:Operand}{K K':(Nat->AV)->Prop}(h:pD N F d x K)(a:∀F',K F'->K' F'):pD N F d x K':=by
 unfold pD at h |-;split at h
 case h_2=>exact h.elim
 split at h
 case h_2=>exact h.elim
 exact bH h a
theorem KB{d:Nat}{b:Op}{K K':(Nat->AV)->Prop}(h:oF P TE N d b K F)(a:∀F',K F'->K' F'):oF P TE N d b K' F:=by
 cases b with
 | assign x=>exact LH h a
 | box T x=>simp only[oF,MJ]at h |-;exact tC h λF' i j h=>bH h a
 | build T f=>exact DK h a
 | buildSlice T n f=>exact Ax h a
 | range T x=>exact BT h a
 | move x=>exact FD h a
 | next x str=>
  cases str with
  | true=>exact h.elim
  | false=>exact Fy h a
 | entry x=>exact E1 h a
 | call c=>
  simp only[oF]at h |-;cases e:qZ c with
  | none=>rw[e]at h;exact sV h λg h=>bH h a
  | some p=>rw[e]at h;exact HT h a
 | _=>simp only[oF]at h |-;exact sV h λg h=>bH h a
theorem io{t off n:Nat}{st:cx}{K K':(Nat->AV)->List C->Prop}(h:lendAt F t off st n K)(a:∀F' cs,K F' cs->K' F' cs):lendAt F t off st n K':=by
 unfold lendAt at h |-;split at h
 case h_2=>exact h.elim
 split at h
 ·rename_i k c _ _
  cases b:Nat.ble (off+n) c.length with
  | false=>rw[b]at h;exact h.elim
  | true=>
   rw[b]at h;simp only[cond_true,dz]at h |-;exact a _ _ h
 ·obtain⟨r,j,d,e,f,g⟩:=Lq.out h
  refine .mk_ ?_;exact⟨r,j,_,_,d,e,f,rfl,rfl,a _ _ g⟩
theorem dG:∀{xs:List (Operand × Nat)}{K K':(Nat->AV)->List (MA × xT)->Prop}{F:Nat->AV},lendP xs K F->(∀F' l,K F' l->K' F' l)->lendP xs K' F
 | [],K,K',F,h,a=>a _ _ h
 | (x,0)::xs,K,K',F,h,a=>dG (xs:=xs) h λF' l h=>a _ _ h
 | (x,1)::xs,K,K',F,h,a=>by
  simp only[lendP]at h |-;split at h
  case h_2=>exact h.elim
  split at h
  ·exact io h λF' b h=>dG h λF'' l h=>a _ _ h
  ·exact io h λF' b h=>dG h λF'' l h=>a _ _ h
  ·exact io h λF' b h=>dG h λF'' l h=>a _ _ h
  ·exact h.elim
 | (x,n+2)::xs,K,K',F,h,a=>by
  simp only[lendP]at h |-;split at h
  case h_2=>exact h.elim
  split at h
  ·split at h
   ·exact dG h λF'' l h=>a _ _ h
   ·exact h.elim
  ·exact dG h λF'' l h=>a _ _ h
  ·exact h.elim
theorem kz:∀{l:List (MA × xT)}{xs:List Operand}{K K':Bool->List MA->Prop},valsP F l xs K->(∀b A,K b A->K' b A)->valsP F l xs K'
 | [],[],K,K',h,a=>a _ _ h
 | (m,.no)::l,x::xs,K,K',h,a=>by
  obtain⟨g,d,e,f⟩:=cy h;refine f F (iN.refl _ _) _ (kz e λb A h=>?_);cases c:aX d with
  | true=>rw[c]at h;exact a _ _ h
  | false=>rw[c]at h;exact a _ _ h
 | (m,.at_ t off st)::l,x::xs,K,K',h,a=>kz (l:=l) (xs:=xs) h λb A h=>a _ _ h
 | (m,.box t)::l,x::xs,K,K',h,a=>kz (l:=l) (xs:=xs) h λb A h=>a _ _ h
 | [],_::_,K,K',h,a=>h.elim
 | (m,.no)::l,[],K,K',h,a=>h.elim
 | (m,.at_ t off st)::l,[],K,K',h,a=>h.elim
 | (m,.box t)::l,[],K,K',h,a=>h.elim
theorem er{K K':(Nat->AV)->Prop}(a:∀F',K F'->K' F'):∀{l:List (MA × xT)}{B:List MA}{F:Nat->AV},iQ l B K F->iQ l B K' F
 | [],[],F,h=>a _ h
 | [],_::_,F,h=>h.elim
 | (m,.no)::l,[],F,h=>h.elim
 | (m,.at_ t off st)::l,[],F,h=>h.elim
 | (m,.box t)::l,[],F,h=>h.elim
 | (m,.no)::l,.val _ _::B,F,h=>er a (l:=l) (B:=B) h
 | (m,.no)::l,.mut _ _::B,F,h=>er a (l:=l) (B:=B) h
 | (m,.no)::l,.ptr _::B,F,h=>er a (l:=l) (B:=B) h
 | (m,.at_ t off st)::l,.val _ _::B,F,h=>h.elim
 | (m,.at_ t off st)::l,.ptr _::B,F,h=>h.elim
 | (m,.box t)::l,.val _ _::B,F,h=>h.elim
 | (m,.box t)::l,.mut _ _::B,F,h=>h.elim
 | (m,.at_ t off st)::l,.mut ag out::B,F,h=>by
  simp only[iQ]at h |-;split at h
  case h_2=>exact h.elim
  split at h
  ·rename_i k c _ _
   cases b:Nat.ble (off+out.length) c.length with
   | false=>rw[b]at h;exact h.elim
   | true=>
    rw[b]at h;simp only[cond_true,dz]at h |-;exact er a h
  ·obtain⟨r,j,d,e,f,g⟩:=Pu.out h
   exact Pu.mk d e f rfl (er a g)
 | (m,.box t)::l,.ptr out::B,F,h=>by
  simp only[iQ]at h |-;split at h
  ·exact er a h
  ·exact h.elim
theorem FU{d:Option Nat}{f:Nat}{args:List Operand}{modes:List Nat}{K K':(Nat->AV)->Prop}(h:oq P N F d f args modes K)(a:∀F',K F'->K' F'):oq P N F d f args modes K':=by
 unfold oq at h |-;refine dG h λF' l h=>?_
 cases c:(xH l&&Nat.beq args.length modes.length) with
 | false=>rw[c]at h;exact h.elim
 | true=>
  rw[c]at h;refine kz h λb A h=>?_
  obtain⟨j,B,k,rcs,e,g,i⟩:=cw.out h;refine CI e g (er (λF'' h=>?_) i);cases d with
  | none=>exact a _ h
  | some d=>exact bH h a
theorem pB{F:Nat->AV}{x:Operand}{K K':Nat->Nat->Prop}(h:FI F x K)(a:∀t o,K t o->K' t o):FI F x K':=by
 obtain⟨s,t,b,rfl,c,d⟩:=vU h;simp only[FI,c];exact a _ _ d
theorem JJ{d:Option Nat}{t:Nat}{cs:List C}{c a e b:Nat}{K K':(Nat->AV)->Prop}{k:Kd}{rcs:List C}{B:List MA}(h:Dc N F d t cs c a e b K k rcs B)(f:∀F',K F'->K' F'):Dc N F d t cs c a e b K' k rcs B:=by
 unfold Dc at h |-;split at h
 case h_2=>exact h.elim
 rename_i i j;cases g:(Nat.beq i.length a&&Nat.beq j.length b) with
 | false=>rw[g]at h;exact h.elim
 | true=>
  rw[g]at h;simp only[cond_true,dz]at h |-;cases d with
  | none=>exact f _ h
  | some d=>exact bH h f
theorem Gj{d:Option Nat}{f:Nat}{args:List Operand}{a b:Nat}{K K':(Nat->AV)->Prop}(h:ne P N F d f args a b K)(g:∀F',K F'->K' F'):ne P N F d f args a b K':=by
 unfold ne at h |-;split at h
 case h_2=>exact h.elim
 refine pB h λt i h=>pB h λj c h=>?_
 split at h
 case h_2=>exact h.elim
 rename_i l q;cases e:(Nat.beq j t&&Nat.ble (i+a) c&&Nat.ble (c+b) l.length) with
 | false=>rw[e]at h;exact h.elim
 | true=>
  rw[e]at h;simp only[cond_true,dz]at h |-;obtain⟨r,B,k,rcs,n,o,p⟩:=cw.out h;exact CI n o (JJ p g)
theorem FQ{d:Option Nat}{f:Nat}{args:List Operand}{modes:List Nat}{K K':(Nat->AV)->Prop}(h:mN P N F d f args modes K)(b:∀F',K F'->K' F'):mN P N F d f args modes K':=by
 unfold mN at h |-;split
 ·rename_i p a;rw[a]at h;exact Gj h b
 ·rename_i a;rw[a]at h;exact FU h b
theorem u6{t off:Nat}{z:Int}{v:Value}{K K':(Nat->AV)->Prop}(h:putMap F t off z v K)(d:∀F',K F'->K' F'):putMap F t off z v K':=by
 unfold putMap at h |-;cases a:F t with
 | hold k e=>
  rw[a]at h;simp only at h |-;cases b:e[off]? with
  | none=>rw[b]at h;exact h.elim
  | some c=>
   rw[b]at h;cases c with
   | m f=>
    simp only at h |-;have:=h.out;refine Mu.mk rfl ?_;simp only[dz]at this |-;exact d _ this
   | _=>exact h.elim
 | _=>rw[a]at h;exact h.elim
theorem BU{T:Nat}{x y v:Operand}{K K':(Nat->AV)->Prop}(h:pv TE F T x y v K)(b:∀F',K F'->K' F'):pv TE F T x y v K':=by
 unfold pv at h |-;split at h
 case h_2=>exact h.elim
 obtain⟨z,c,d⟩:=iE h;refine d F (iN.refl F _) _ ?_;obtain⟨f,a,e⟩:=iE c;refine e F (iN.refl F _) _ ?_;split at a
 case h_2=>exact a.elim
 split at a
 case h_2=>exact a.elim
 split at a
 ·exact u6 a b
 ·exact u6 a b
 ·exact a.elim
theorem kH{o:Oper}{K K':(Nat->AV)->Prop}(h:jG P TE N ops o K F)(a:∀F',K F'->K' F'):jG P TE N ops o K' F:=by
 unfold jG at h |-;refine Fg h (λF h=>?_) (λF h=>?_)
 ·split at h
  ·exact FQ h a
  ·split at h
   ·split at h
    ·exact GC h a
    ·exact BU h a
    ·exact h.elim
   ·exact KB h a
 ·split at h
  ·exact a _ h
  ·exact bH h a
theorem Bw{m:Nat}(c:Rf ops m){K:(Nat->AV)->Prop}(hm:m<=ops.size):∀(l:List Oper)(k:Nat)(listed:Array Bool)(F:Nat->AV),(∀j,l[j]? = ops[k+j]?)->listed.size=ops.size->(∀j,j<ops.size->listed.getD j true=decide (j<k))->yR ops m F listed->DC ops listed->
  KV P TE N ops (m - k) l K F->G7 P TE N ops m K l.length listed F
 | [],k,listed,F,W,X,a,_,_,n=>by
  have M:ops.size<=k:=by
   rcases Nat.lt_or_ge k ops.size with h|h
   ·have:=W 0;simp[h]at this
   ·exact h
  refine⟨?_,?_⟩
  ·apply List.eq_nil_iff_forall_not_mem.2
   intro j L;obtain⟨y,o,ho,-⟩:=mem_ready.1 L;have A:=(T3.1 ho).1;rw[a j A]at y;simp at y;omega
  ·cases O:m - k with
   | zero=>rw[O]at n;exact n
   | succ x=>rw[O]at n;exact n
 | o::l,k,listed,F,W,X,a,g,B,n=>by
  have u:ops[k]? = some o:=by simpa using (W 0).symm
  have M:=(T3.1 u).1;have hready:k∈Region.ready .any ops listed:=mem_ready.2 ⟨by rw[a k M];simp,o,u,λe he hb=>by
    have:=c.back k o u e he hb;have y:=a e.on ω;rw[show decide (e.on<k)=true by simpa using this]at y;have Y:e.on<listed.size:=ω
    simp[Y]at y |-;exact y⟩
  have Q:∀j,l[j]? = ops[k+1+j]?:=λj=>by have:=W (j+1);simpa[Nat.add_assoc,Nat.add_comm 1 j] using this
  have f:∀j,j<ops.size->(listed.setIfInBounds k true).getD j true=decide (j<k+1):=λj L=>by
   by_cases C:j=k
   ·subst C;simp[X,L]
   ·rw[getD_set_ne true (Ne.symm C),a j L]
    simp only[decide_eq_decide];omega
  show G7 P TE N ops m K (l.length+1) listed F;by_cases p:k<m
  ·have e1:m - k=(m - (k+1))+1:=ω
   rw[e1]at n;obtain⟨mv,d,av,hy,n⟩:=pm (show kx P TE N ops o (KV P TE N ops (m - (k+1)) l K) F from n) (λd hd=>g.dst k o d p u (by rw[a k M];simp) hd) (λT s g1 Z g3=>g.mv k o T s p u (by rw[a k M];simp) g1 Z g3);refine J1 c u p l.length listed F hready g B hy (Bw c hm l (k+1) _ _ Q (by simpa using X) f (g.put (λw D R i q b hl'' E=>?_) (λw D T s i q b hl'' g1 Z g3=>?_)) (B.put hready) n)
   ·cases hu:av.uses R with
    | false=>rfl
    | true=>
     rcases hy.from_ R hu with h|⟨t,_,h⟩
     ·have:=c.look w k D o R i p q b u E h
      obtain⟨e,G,H,he3⟩:=cg.1 this;have A:=c.back k o u e G H;have hj'lt:=(T3.1 b).1;rw[a w hj'lt]at hl'';simp at hl'';omega
     ·rw[g.dst w D R i b hl'' E t]at h;cases h
   ·cases hu:av.uses s with
    | false=>rfl
    | true=>
     rcases hy.from_ s hu with h|⟨t,_,h⟩
     ·exact absurd ((fJ g3).2 w k D o b u (cQ Z) h) q
     ·rw[g.mv w D T s i b hl'' g1 Z g3 t]at h;cases h
  ·refine⟨λh=>(by rw[h]at hready;cases hready),λj L=>?_⟩
   have C:j=k:=by
    obtain⟨y,oj,S,U⟩:=mem_ready.1 L;have r:=(T3.1 S).1;rw[a j r]at y;simp at y;rcases Nat.lt_or_ge k j with A|hge
    ·exfalso
     have Y:=mA B c.back (c.tail j ω r k A) r λk' V=>by
      rw[aZ S]at V;obtain⟨e,G,H,rfl⟩:=cg.1 V;exact U e G H
     have h3:=a k M;have h4:k<listed.size:=ω
     simp[h4]at Y h3;rw[Y]at h3;cases h3
    ·omega
   subst C;unfold wS;rw[u];simp only[C8 p];have e0:m - j=0:=ω
   rw[e0]at n;have hp':jG P TE N ops o (HU P TE N ops l K) F:=n;have J:∀F',HU P TE N ops l K F'->G7 P TE N ops m K l.length (listed.setIfInBounds j true) F':=λF' hF'=>
    Bw c hm l (j+1) _ F' Q (by simpa using X) f ⟨λw D R i b hl'' E=>by
      have hj'lt:=(T3.1 b).1;rw[f w hj'lt]at hl'';simp at hl'';omega,λw D T s i b hl''=>by
      have hj'lt:=(T3.1 b).1;rw[f w hj'lt]at hl'';simp at hl'';omega⟩ (B.put hready) (by rw[show m - (j+1)=0 by omega];cases l<;>exact hF')
   exact kH hp' J
theorem St.clr(h:St w0 M S0 N F a w)(ds:List Nat):St w0 M S0 N (Ab.clr ds F) a w:=by
 obtain⟨S,φ,h⟩:=h;refine⟨S,φ,λt=>?_,h.dis,h.disS,h.ex,h.sub,h.sup,h.old,h.size,h.defers,h.par⟩;rw[Bv];cases e:ds.any (λd=>(F t).uses d) with
 | true=>trivial
 | false=>
  simp only[cond_false];refine(h.slot t).keep (φ:=φ) (λt _ _ _=>h.slot t) (λc _=>⟨λk f b=>?_,rfl,λ_ _ _=>⟨rfl,rfl⟩⟩) (λ_ _ _=>⟨rfl,rfl⟩) (λ_ _ _=>⟨rfl,rfl⟩) (λ_ _ h=>h) (λ_ _ h=>h);rw[Bv];have:ds.any (λd=>(F c).uses d)=false:=by
   rw[b]
   induction ds with
   | nil=>rfl
   | cons d ds g=>simp[AV.uses]
  rw[this];exact b
theorem AE(u:∀t i,TE t=some i->cj P t i)(W:P.follows .mixedOrders=true){id m:Nat}{ds:List Nat}(b:((Nat.ble m ops.size&&below m λj=>match(cU ops j).dst with|some d=>ds.any (Nat.beq d)|none=>true)&&Am ops m)=true){K:(Nat->AV)->Prop}{Q:Exit->Act->World->Prop}(X:KV P TE N ops m ops.toList K (Ab.clr ds F))(Y:St w0 M S0 N F a w)(Z:∀F' O R,K F'->St w0 M S0 N F' O R->Q .normal O R):(Code.region id ops true).wp P Q a w:=by
 simp only[I0]at b;obtain⟨⟨l,y⟩,b⟩:=b;have g:m<=ops.size:=C1 l;refine wp_region_any W ?_;have A:St w0 M S0 N (Ab.clr ds F) a {w with drawn:=w.drawn+1}:=by
  have r:=Y.clr ds;obtain⟨S,φ,h⟩:=r;exact⟨S,φ,h.more (w1:={w with drawn:=w.drawn+1}) (λ_ _ h=>h) (λ_ _ h=>.inl h) ⟨rfl,rfl,rfl,z3 _,λ_ _ _=>rfl,λ_ _ _ _=>rfl,λ_ _ _ _=>rfl⟩⟩
 refine zX u (m:=m) Z ops.size (Array.replicate ops.size false) _ a _ ?_ A;have n:∀d,ds.any (Nat.beq d)=true->∀t,(Ab.clr ds F t).uses d=false:=λd p t=>by
  rw[Bv];cases U:ds.any (λd=>(F t).uses d) with
  | true=>rfl
  | false=>
   simp only[cond_false];cases hu:(F t).uses d with
   | false=>rfl
   | true=>
    obtain⟨d',B,he⟩:=X3.1 p;have C:=C2 he;subst C;have:ds.any (λd=>(F t).uses d)=true:=X3.2 ⟨_,B,hu⟩;rw[this]at U;cases U
 have c:∀j o d,j<m->ops[j]? = some o->o.dst=some d->ds.any (Nat.beq d)=true:=λj o d f q p=>by
  have r:=gh y f;rw[aZ q,p]at r;exact r
 have V:=E8 b;have:=Bw (P:=P) (TE:=TE) (N:=N) V (K:=K) g ops.toList 0 (Array.replicate ops.size false) (Ab.clr ds F) (by simp) (by simp) (λj f=>by simp[f]) ⟨λj o d f q _ p t=>n d (c j o d f q p) t,λj o T s f q _ _ _ g3 t=>by
   obtain⟨k,ok,D,E,G⟩:=(fJ g3).1;obtain⟨e,H,J,rfl⟩:=cg.1 D;have:=V.back j o q e H J;exact n s (c e.on ok s ω E G) t⟩ (λj oj f hl=>by
   have L:=(T3.1 f).1;simp[L]at hl) X
 simpa using this
end
section
variable{P:Program}{w0 w w1:World}{M S0 S:ac}{N:fp}{φ:Nat->ac}{F:Nat->AV}{a:Act}{TE:Nat->Option TI}{ops:Array Oper}{ds:List Nat}{nm:Nat->Bool}
def Qx(P:Program)(TE:Nat->Option TI)(ops:Array Oper)(p:Nat)(F:Nat->AV):Prop:=∃d,(cU ops p).dst=some d/\Fe F (cU ops p)=none/\dm P TE F (cU ops p).op λa=>a=F d
def tS(P:Program)(TE:Nat->Option TI)(N:fp)(ops:Array Oper)(ds:List Nat)(listed:Array Bool)(i:Nat)(K:(Nat->AV)->Prop)(F:Nat->AV):Prop:=
 match ops[i]? with
 | none=>K F
 | some o=>if nI ds o=true then kx P TE N ops o K F else jG P TE N ops o (λa=>(∀p,listed.getD p false=true->nI ds (cU ops p)=true->uE ops i p=false->Qx P TE ops p a)/\K a) F
def DQ(P:Program)(TE:Nat->Option TI)(N:fp)(ops:Array Oper)(ds:List Nat)(K:(Nat->AV)->Prop):Nat->Array Bool->(Nat->AV)->Prop
 | 0,listed,F=>Region.ready .any ops listed=[]/\K F
 | fuel+1,listed,F=>(Region.ready .any ops listed=[]->K F)/\∀i,i∈Region.ready .any ops listed->tS P TE N ops ds listed i (DQ P TE N ops ds K fuel (listed.setIfInBounds i true)) F
theorem BY(c:∀t i,TE t=some i->cj P t i){listed:Array Bool}{i:Nat}{K:(Nat->AV)->Prop}(b:tS P TE N ops ds listed i K F)(f:St w0 M S0 N F a w){Kc:Act->World->Prop}{Q:Exit->Act->World->Prop}(d:∀F' g j,K F'->St w0 M S0 N F' g j->Kc g j):wpOp P ops Q i Kc a w:=by
 unfold tS at b;unfold wpOp;cases k:ops[i]? with
 | none=>rw[k]at b;exact d F a w b f
 | some o=>
  rw[k]at b;simp only at b |-;obtain⟨S,φ,h⟩:=f;have:if Region.wanted o (yielded ops a.tmps) then o.wp P a w Kc Q else Kc (a.put o.dst undef) w:=by
   split at b
   ·exact h.oneP c b d
   ·exact h.one c (kH b λF' h=>h.2) d
  split
  ·rename_i e;rw[C9 e]at this;exact .inl this
  ·rename_i e;rw[C8 e]at this;exact this
theorem qq(b:∀t i,TE t=some i->cj P t i){K:(Nat->AV)->Prop}{Q:Exit->Act->World->Prop}(g:∀F' d e,K F'->St w0 M S0 N F' d e->Q .normal d e) :
  ∀(fuel:Nat)(listed:Array Bool)(F:Nat->AV)(a:Act)(w:World),DQ P TE N ops ds K fuel listed F->St w0 M S0 N F a w->wpAny P .any ops Q fuel listed a w
 | 0,_,F,a,w,c,f=>⟨c.1,g F a w c.2 f⟩
 | fuel+1,_,F,a,w,c,f=>⟨λj=>g F a w (c.1 j) f,λi k=>BY b (c.2 i k) f λF' d e l h=>qq b g fuel _ F' d e l h⟩
def dc(ts:List Nat)(F F1:Nat->AV):Prop:=∀t e,(F1 t).uses e=true->e∈ts\/∃a,(F a).uses e=true
theorem dc.refl(ts:List Nat)(F:Nat->AV):dc ts F F:=λt _ h=>.inr ⟨t,h⟩
theorem dc.trans{ts:List Nat}{F F1 a:Nat->AV}(h1:dc ts F F1)(b:dc ts F1 a):dc ts F a:=λt e h=>by
 rcases b t e h with h|⟨c,h⟩
 ·exact .inl h
 ·exact h1 c e h
theorem dc.clean{ts:List Nat}{F1:Nat->AV}{d:Nat}(h:dc ts F F1)(a:d∉ts)(b:∀t,(F t).uses d=false):∀t,(F1 t).uses d=false:=λt=>by
 cases c:(F1 t).uses d with
 | false=>rfl
 | true=>
  rcases h t d c with h|⟨e,h⟩
  ·exact absurd h a
  ·rw[b e]at h;cases h
theorem dc.put{ts:List Nat}{b:Nat}{av:AV}(h:∀e,av.uses e=true->e∈ts\/∃d,(F d).uses e=true):dc ts F (put F b av):=λt e a=>by
 by_cases c:t=b
 ·subst c;rw[mb]at a;exact h e a
 ·rw[gz _ _ c]at a;exact .inr ⟨t,(NH a).1⟩
theorem KJ{t e:Nat}{v:AV}(h:(rj t v).uses e=true):v.uses e=true:=by
 cases v with
 | bor a b d f=>simp only[rj]at h;cases c:Nat.beq a t<;>rw[c]at h<;>first|exact h|cases h
 | ref a b d=>cases d<;>simp only[rj]at h<;>first|exact h|(cases c:Nat.beq a t<;>rw[c]at h<;>first|exact h|cases h)
 | _=>exact h
theorem dc.updH{ts:List Nat}{t:Nat}{k:Kd}{cs:List C} : dc ts F (updH F t k cs):=λs e a=>by
 unfold Ab.updH at a;cases b:Nat.beq s t with
 | true=>rw[b]at a;cases a
 | false=>rw[b]at a;exact .inr ⟨s,KJ a⟩
theorem Mn{t e:Nat}{v:AV}(h:(MT t v).uses e=true):v.uses e=true:=by
 cases v with
 | bor a b d f=>simp only[MT]at h;cases c:Nat.beq a t<;>rw[c]at h<;>first|exact h|cases h
 | ref a b d=>simp only[MT]at h;cases c:Nat.beq a t<;>rw[c]at h<;>first|exact h|cases h
 | _=>exact h
theorem dc.kill{ts:List Nat}{t:Nat} : dc ts F (kill F t):=λs e a=>by
 unfold Ab.kill at a;cases b:Nat.beq s t with
 | true=>rw[b]at a;cases a
 | false=>rw[b]at a;exact .inr ⟨s,Mn a⟩
theorem df{d t:Nat}{av:AV}(h:t≠d):eff none d av F t=F t:=by unfold eff;rw[C8 h,C8 (λe=>by cases e)]
theorem lG{d:Nat}{a:Option Nat}{av:AV} : eff a d av F d=av:=by unfold eff;rw[C9 rfl]
theorem Ky{d:Nat} : eff none d (F d) F=F:=by
 funext t
 by_cases h:t=d
 ·subst h;rw[lG]
 ·rw[df h]
theorem oM{d:Nat}{av:AV}{ts:List Nat}(b:d∉ts)(c:∀t,(F t).uses d=false):iN (eff none d av F) F ts:=λt f=>by
 have g:t≠d:=λe=>b (e ▸ f)
 rw[df g];refine⟨rfl,λh a k l i=>?_⟩;have j:h≠d:=λe=>by rw[e,c t]at a;cases a
 rwa [df j]at i
theorem PJ{d a:Nat}{v av:AV}(b:a≠d):put (eff none d v F) a av=eff none d (kl a v) (put F a av):=by
 funext t
 by_cases c:t=a
 ·subst c;rw[mb,df b,mb]
 ·rw[gz _ _ c]
  by_cases e:t=d
  ·subst e;rw[lG,lG]
  ·rw[df e,df e,gz _ _ c]
theorem AO{d t:Nat}{e:Kd}{v:AV}{a:List C}(b:t≠d):updH (eff none d v F) t e a=eff none d (rj t v) (updH F t e a):=by
 funext s
 by_cases c:s=d
 ·subst c
  rw[lG];unfold updH;rw[show Nat.beq s t=false by rw[<-z5,Nat.beq_eq];exact Ne.symm b,lG];rfl
 ·rw[df c]
  unfold updH;rw[df c]
theorem vu{d t:Nat}{c:Kd}{a:List C}(b:t≠d):updH F t c a d=rj t (F d):=by
 unfold updH;rw[show Nat.beq d t=false by rw[<-z5,Nat.beq_eq];exact Ne.symm b];rfl
theorem GP{d t:Nat}{e:Kd}{v:AV}{a:List C}(b:t≠d):updN (eff none d v F) t e a=eff none d (MP t v) (updN F t e a):=by
 funext s
 by_cases c:s=d
 ·subst c
  rw[lG];unfold updN;rw[show Nat.beq s t=false by rw[<-z5,Nat.beq_eq];exact Ne.symm b,lG];rfl
 ·rw[df c]
  unfold updN;rw[df c]
theorem Fa{d t:Nat}{c:Kd}{a:List C}(b:t≠d):updN F t c a d=MP t (F d):=by
 unfold updN;rw[show Nat.beq d t=false by rw[<-z5,Nat.beq_eq];exact Ne.symm b];rfl
theorem Lz{t e:Nat}{v:AV}(h:(MP t v).uses e=true):v.uses e=true:=by
 cases v with
 | bor b c a f=>
  cases a with
  | nil=>exact h
  | cons s a=>simp only[MP]at h;cases d:Nat.beq b t<;>rw[d]at h<;>first|exact h|cases h
 | ref b c a=>
  cases a with
  | nil=>exact h
  | cons s a=>simp only[MP]at h;cases d:Nat.beq b t<;>rw[d]at h<;>first|exact h|cases h
 | _=>exact h
theorem dc.updN{ts:List Nat}{t:Nat}{k:Kd}{cs:List C} : dc ts F (updN F t k cs):=λs e a=>by
 unfold Ab.updN at a;cases b:Nat.beq s t with
 | true=>rw[b]at a;cases a
 | false=>rw[b]at a;exact .inr ⟨s,Lz a⟩
def Fq(d:Nat)(ts:List Nat)(v:AV)(F:Nat->AV)(K:(Nat->AV)->Prop)(F1:Nat->AV):Prop:=∃a,(v=F d->a=F1 d)/\K (eff none d a F1)/\dc ts F F1
def Rc(d:Nat)(ts:List Nat)(v:AV)(F:Nat->AV)(K:(Nat->AV)->Option Nat->List C->Prop)(F1:Nat->AV)(ag:Option Nat)(cs:List C):Prop:=∃a,(v=F d->a=F1 d)/\K (eff none d a F1) ag cs/\dc ts F F1
theorem Fq.trans{d:Nat}{ts:List Nat}{v a:AV}{F1 b:Nat->AV}{K:(Nat->AV)->Prop}(h1:v=F d->a=F1 d)(c:dc ts F F1)(h:Fq d ts a F1 K b):Fq d ts v F K b:=by
 obtain⟨f,g,i,j⟩:=h;exact⟨f,λe=>g (h1 e),i,c.trans j⟩
theorem jL{d a:Nat}{ts:List Nat}{v av:AV}{K:(Nat->AV)->Prop}(h:bM N (eff none d v F) a av K)(b:a≠d)(c:∀e,av.uses e=true->e∈ts\/∃g,(F g).uses e=true):bM N F a av (Fq d ts v F K):=by
 unfold bM at h |-;cases f:(N.free a&&!av.uses a) with
 | false=>rw[f]at h;exact h.elim
 | true=>
  rw[f]at h;simp only[cond_true]at h |-;rw[PJ b]at h;exact⟨kl a v,λe=>by rw[gz _ _ (Ne.symm b),e],h,dc.put c⟩
theorem kT{ts:List Nat}{k:Kd}{cs:List C} : ∀e,(AV.hold k cs).uses e=true->e∈ts\/∃a,(F a).uses e=true:=λe h=>by cases h
theorem Fw{p:(Nat->AV)->(AV->Prop)->Prop}{d b:Nat}{v:AV}{ts0 ts:List Nat}{K:(Nat->AV)->Prop}(h:nG p (eff none d v F) ts0 λav=>bM N (eff none d v F) b av K)(a:b≠d)(c:∀t,t∈ts0->t∈ts)(f:d∉ts)(g:∀t,(F t).uses d=false) :
  p F λav=>bM N F b av (Fq d ts v F K):=by
 obtain⟨av,i,j,k⟩:=h;refine k F (oM (λl=>f (c d l)) g) _ (jL i a λe n=>?_);rcases j e n with h|⟨t,o,h⟩
 ·exact .inl (c e h)
 ·have a:t≠d:=λe=>f (e ▸ c t o)
  rw[df a]at h;exact .inr ⟨t,h⟩
theorem rO{d:Nat}{ts:List Nat}{v:AV}{y:Operand}{K:(Nat->AV)->Option Nat->List C->Prop}(h:gG (eff none d v F) y K)(w:d∉tm y)(A:∀t,(F t).uses d=false):gG F y (Rc d ts v F K):=by
 have fin:∀{t:Nat}{k:Kd}{f:List C}{b:Option Nat}{xs:List C},t≠d->K (updH (eff none d v F) t k f) b xs->Rc d ts v F K (updH F t k f) b xs:=fun {t k f b xs} c h=>by
  rw[AO c]at h;exact⟨_,λe=>by rw[vu c,e],h,dc.updH⟩
 have uA:∀{t:Nat}{k:Kd}{f:List C}{b:Option Nat}{xs:List C},t≠d->K (updN (eff none d v F) t k f) b xs->Rc d ts v F K (updN F t k f) b xs:=fun {t k f b xs} c h=>by
  rw[GP c]at h;exact⟨_,λe=>by rw[Fa c,e],h,dc.updN⟩
 cases y with
 | tmp t=>
  have c:t≠d:=λe=>w (by simp[tm,e])
  simp only[gG]at h |-;rw[df c]at h;cases g:F t with
  | hold l n=>
   rw[g]at h;cases l with
   | one=>exact fin c h
   | agg=>exact fin c h
   | _=>exact h.elim
  | bor o p q b=>
   rw[g]at h;have i:o≠d:=λe=>by have:=A t;rw[g,e]at this;simp[AV.uses]at this
   cases q with
   | cons s q=>
    simp only at h |-;rw[df i]at h;cases a:F o with
    | hold l n=>
     rw[a]at h;obtain⟨r,j,B,D,E,G⟩:=Lq.out h;exact .mk_ ⟨r,j,_,_,B,D,E,rfl,rfl,uA i G⟩
    | _=>rw[a]at h;exact h.elim
   | nil=>
    simp only at h |-;rw[df i]at h;cases a:F o with
    | hold l n=>
     rw[a]at h;simp only at h |-;cases u:Nat.ble (p+b.getD 1) n.length with
     | false=>rw[u]at h;exact h.elim
     | true=>rw[u]at h;exact uA i h
    | _=>rw[a]at h;exact h.elim
  | _=>rw[g]at h;exact h.elim
 | _=>exact h.elim
theorem Px{d:Nat}{ts:List Nat}{v:AV}{y:Operand}{K:(Nat->AV)->Option Nat->List C->Prop}(h:un (eff none d v F) y K)(b:d∉tm y)(c:∀t,(F t).uses d=false):un F y (Rc d ts v F K):=by
 obtain⟨i,xs,a,g⟩:=cy h;refine g F (oM b c) _ ?_;cases f:aX xs with
 | true=>rw[f]at a;exact⟨v,λe=>e,a,dc.refl _ _⟩
 | false=>rw[f]at a;exact rO a b c
def R6(d:Nat)(ts:List Nat)(v:AV)(F:Nat->AV)(K:(Nat->AV)->List C->Prop)(F1:Nat->AV)(cs:List C):Prop:=∃a,(v=F d->a=F1 d)/\K (eff none d a F1) cs/\dc ts F F1
theorem xn{d:Nat}{ts:List Nat}{f:Nat->Option (Nat × Nat)}(a:d∉ts):∀{parts:List (Nat × Operand)}{cs:List C}{K:(Nat->AV)->List C->Prop}{F:Nat->AV}{v:AV},fillW f parts cs K (eff none d v F)->(∀p,p∈parts->d∉tm p.2)->(∀t,(F t).uses d=false)->
  fillW f parts cs (R6 d ts v F K) F
 | [],cs,K,F,v,h,_,b=>⟨v,λe=>e,h,dc.refl _ _⟩
 | p::rest,cs,K,F,v,h,g,b=>by
  simp only[fillW]at h |-;split at h
  case h_2=>exact h.elim
  rename_i q y;refine tC (Px (ts:=ts) h (g p V1) b) λA B xs h=>?_
  obtain⟨D,k,h,i⟩:=h;cases j:(Nat.beq xs.length q.2&&Nat.ble (q.1+q.2) cs.length) with
  | false=>rw[j]at h;exact h.elim
  | true=>
   rw[j]at h;simp only[cond_true,dz]at h |-;refine iX (xn a h (λl c=>g l (v5 _ c)) (i.clean a b)) λE cs2 n=>?_
   obtain⟨o,r,u,w⟩:=n;exact⟨o,λe=>r (k e),u,i.trans w⟩
theorem Js{d a T:Nat}{ts:List Nat}{v:AV}{parts:List (Nat × Operand)}{K:(Nat->AV)->Prop}(h:jJ TE N (eff none d v F) a T parts K)(b:a≠d)(c:d∉ts)(f:∀p,p∈parts->d∉tm p.2)(g:∀t,(F t).uses d=false) :
  jJ TE N F a T parts (Fq d ts v F K):=by
 unfold jJ at h |-;split at h
 case h_2=>exact h.elim
 rename_i size bytes zero flds l;cases e:vM TE flds with
 | false=>rw[e]at h;exact h.elim
 | true=>
  rw[e]at h;refine iX (xn c h f g) λn o h=>?_
  obtain⟨q,i,h,j⟩:=h;exact bH (jL (ts:=ts) h b kT) λr k=>Fq.trans i j k
theorem Gp{d c T n:Nat}{ts:List Nat}{v:AV}{parts:List (Nat × Operand)}{K:(Nat->AV)->Prop}(h:fG TE N (eff none d v F) c T n parts K)(a:c≠d)(f:d∉ts)(i:∀p,p∈parts->d∉tm p.2)(j:∀t,(F t).uses d=false) :
  fG TE N F c T n parts (Fq d ts v F K):=by
 unfold fG at h |-;obtain⟨e,k,h,b⟩:=jc h;refine b _ ?_;cases g:Nat.ble (n*k.size) 16777216 with
 | false=>rw[g]at h;exact h.elim
 | true=>
  rw[g]at h;simp only[cond_true]at h |-;cases n with
  | zero=>
   cases parts with
   | nil=>exact jL h a kT
   | cons=>exact h.elim
  | succ n=>
   simp only[dz]at h |-;refine iX (xn f h i j) λr u h=>?_
   obtain⟨w,l,h,o⟩:=h;rw[nU]at h |-;exact bH (jL (ts:=ts) h a kT) λy q=>Fq.trans l o q
theorem KL{d c t:Nat}{ts:List Nat}{v:AV}{K:(Nat->AV)->Prop}(h:iJ N (eff none d v F) c (.tmp t) K)(a:c≠d)(f:d∉ts)(i:t∈ts)(l:∀t,(F t).uses d=false):iJ N F c (.tmp t) (Fq d ts v F K):=by
 have b:t≠d:=λe=>f (e ▸ i)
 have std:bp (eff none d v F) (.tmp t) (λg=>bM N (eff none d v F) c g K)->bp F (.tmp t) (λg=>bM N F c g (Fq d ts v F K)):=λh=>
  Fw (p:=λF K=>bp F (.tmp t) K) (js h) a (λq j=>by simp[tm]at j;exact j ▸ i) f l
 simp only[iJ]at h |-;rw[df b]at h;split at h
 ·rename_i n xs r
  cases k:aX xs with
  | true=>rw[k]at h;exact jL h a kT
  | false=>
   rw[k]at h;simp only[cond_false]at h |-;rw[AO b]at h;exact bH (jL (ts:=ts) h a kT) λu o=>Fq.trans (F1:=updH F t (.tup n) _) (λe=>by rw[vu b,e]) dc.updH o
 all_goals exact std h
theorem Jc{d i:Nat}{ts:List Nat}{v:AV}{x:Operand}{K:(Nat->AV)->Prop}(h:jT N (eff none d v F) i x K)(q:i≠d)(l:d∉ts)(a:∀t,t∈tm x->t∈ts)(D:∀t,(F t).uses d=false):jT N F i x (Fq d ts v F K):=by
 have b:∀y,(∀t,t∈tm y->t∈ts)->bp (eff none d v F) y (λw=>bM N (eff none d v F) i w K)->bp F y (λw=>bM N F i w (Fq d ts v F K)):=λy A h=>Fw (p:=λF K=>bp F y K) (js h) q A l D
 have B:∀y,(∀t,t∈tm y->t∈ts)->gG (eff none d v F) y (λu r n=>bM N u i (.hold (kP r) n) K)->gG F y (λu r n=>bM N u i (.hold (kP r) n) (Fq d ts v F K)):=λy A h=>
  fH (rO (ts:=ts) h (λE=>l (A d E)) D) λu r n h=>by
   obtain⟨M,G,h,H⟩:=h;exact bH (jL (ts:=ts) h q kT) λO J=>Fq.trans G H J
 cases x with
 | tmp t=>
  have C:t≠d:=λe=>l (e ▸ a t (by simp[tm]))
  unfold jT at h |-;simp only at h |-;rw[df C]at h;cases o:F t with
  | hold k n=>
   rw[o]at h;cases k with
   | one=>
    simp only at h |-;cases j:aX n with
    | true=>rw[j]at h;exact b (.tmp t) a h
    | false=>rw[j]at h;exact B (.tmp t) a h
   | agg=>
    simp only at h |-;cases j:aX n with
    | true=>rw[j]at h;exact b (.tmp t) a h
    | false=>rw[j]at h;exact B (.tmp t) a h
   | tup P=>exact b _ a h
   | box=>exact b _ a h
  | bor Q L R r=>
   rw[o]at h;simp only at h |-;cases j:N.al i with
   | true=>rw[j]at h;exact b (.tmp t) a h
   | false=>rw[j]at h;exact B (.tmp t) a h
  | dead=>rw[o]at h;exact b _ a h
  | ref=>rw[o]at h;exact b _ a h
  | iref=>rw[o]at h;exact b _ a h
  | fn=>rw[o]at h;exact b _ a h
  | fv=>rw[o]at h;exact b _ a h
 | const c=>exact b (.const c) a h
 | global g=>exact b (.global g) a h
 | func f=>exact b (.func f) a h
theorem Pa{d t:Nat}{v:AV}(b:t≠d):kill (eff none d v F) t=eff none d (MT t v) (kill F t):=by
 funext s
 by_cases e:s=d
 ·subst e
  rw[lG,ib _ (Ne.symm b),lG]
 ·rw[df e]
  by_cases a:s=t
  ·subst a;rw[mg,mg]
  ·rw[ib _ a,ib _ a,df e]
theorem Qv{d c:Nat}{ts:List Nat}{v:AV}{x:Operand}{K:(Nat->AV)->Prop}(h:B4 N (eff none d v F) c x K)(f:c≠d)(b:d∉ts)(g:∀t,t∈tm x->t∈ts)(k:∀t,(F t).uses d=false):B4 N F c x (Fq d ts v F K):=by
 have i:AS N (eff none d v F) c x=AS N F c x:=by
  cases x with
  | tmp t=>
   have a:t≠d:=λe=>b (e ▸ g t (by simp[tm]))
   have l:eff none d v F t=F t:=df a;unfold AS;simp only;rw[l]
  | _=>rfl
 unfold B4 at h |-;rw[i]at h;cases j:AS N F c x with
 | none=>rw[j]at h;exact Jc h f b g k
 | some p=>
  rw[j]at h;simp only at h |-;obtain⟨rfl,o⟩:=zN j;have a:p.1≠d:=λe=>b (e ▸ g p.1 (by simp[tm]))
  rw[Pa a]at h;exact bH (jL (ts:=ts) h f kT) λq n=>Fq.trans (F1:=kill F p.1) (λe=>by rw[ib _ (Ne.symm a),e]) dc.kill n
theorem Hr{d:Nat}{ts:List Nat}{v:AV}{x:Operand}{cs:List C}{K:(Nat->AV)->Prop}(h:pV (eff none d v F) x cs K)(p:d∉tm x)(q:∀t,(F t).uses d=false):pV F x cs (Fq d ts v F K):=by
 have fin:∀{t:Nat}{k:Kd}{cs:List C},t≠d->K (updH (eff none d v F) t k cs)->Fq d ts v F K (updH F t k cs):=fun {t k cs} a h=>by
  rw[AO a]at h;exact⟨_,λe=>by rw[vu a,e],h,dc.updH⟩
 have uA:∀{t:Nat}{k:Kd}{cs:List C},t≠d->K (updN (eff none d v F) t k cs)->Fq d ts v F K (updN F t k cs):=fun {t k cs} a h=>by
  rw[GP a]at h;exact⟨_,λe=>by rw[Fa a,e],h,dc.updN⟩
 have finP:∀{t:Nat}{k:Kd}{cs:List C},t≠d->K (NL (eff none d v F) t k cs)->Fq d ts v F K (NL F t k cs):=fun {t k cs} a h=>by
  cases k with
  | box=>exact fin a h
  | _=>exact uA a h
 cases x with
 | tmp t=>
  have a:t≠d:=λe=>p (by simp[tm,e])
  simp only[pV]at h |-;rw[df a]at h;cases f:F t with
  | hold k g=>
   rw[f]at h;cases k with
   | box=>
    simp only at h |-;cases c:Nat.ble cs.length g.length with
    | false=>rw[c]at h;exact h.elim
    | true=>rw[c]at h;simp only[cond_true,dz]at h |-;exact fin a h
   | _=>exact h.elim
  | ref l n o=>
   rw[f]at h;have i:l≠d:=λe=>by have:=q t;rw[f,e]at this;simp[AV.uses]at this
   cases o with
   | cons s o=>
    simp only at h |-;rw[df i]at h;cases b:F l with
    | hold k g=>
     rw[b]at h;obtain⟨r,j,u,w,y,A⟩:=Pu.out h;exact Pu.mk u w y rfl (finP i A)
    | _=>rw[b]at h;exact h.elim
   | nil=>
    simp only at h |-;rw[df i]at h;cases b:F l with
    | hold k g=>
     rw[b]at h;cases k with
     | box=>
      simp only at h |-;cases c:Nat.ble (n+cs.length) g.length with
      | false=>rw[c]at h;exact h.elim
      | true=>rw[c]at h;simp only[cond_true,dz]at h |-;exact fin i h
     | _=>exact h.elim
    | _=>rw[b]at h;exact h.elim
  | _=>rw[f]at h;exact h.elim
 | _=>exact h.elim
theorem LN{d T:Nat}{ts:List Nat}{v:AV}{x y:Operand}{K:(Nat->AV)->Prop}(h:mT TE (eff none d v F) T x y K)(e:d∉ts)(j:d∉tm x)(k:d∉tm y)(c:∀t,(F t).uses d=false):mT TE F T x y (Fq d ts v F K):=by
 unfold mT at h |-;split at h
 ·rename_i i r
  obtain⟨u,l,a,f⟩:=cy h;refine f F (oM k c) _ ?_;cases n:Nat.beq l.length i.size with
  | false=>rw[n]at a;exact a.elim
  | true=>
   rw[n]at a;simp only[cond_true]at a |-;cases o:aX l with
   | true=>rw[o]at a;exact Hr a j c
   | false=>
    rw[o]at a;simp only[cond_false]at a |-;refine fH (rO (ts:=ts) a k c) λw q g h=>?_
    obtain⟨A,a,h,p⟩:=h;cases b:Nat.beq g.length i.size with
    | false=>rw[b]at h;exact h.elim
    | true=>rw[b]at h;exact tB (Hr (ts:=ts) h j (p.clean e c)) λB f=>Fq.trans a p f
 ·exact h.elim
theorem Qt{d:Nat}{v:AV}{y:Operand}(a:d∉tm y):mq (eff none d v F) y=mq F y:=by
 cases y with
 | tmp t=>exact df λe=>a (by simp[tm,e])
 | _=>rfl
theorem PZ{d:Nat}{ts:List Nat}{v:AV}{y:Operand}{K:Bool->(Nat->AV)->List (List C)->Prop}(h:BA (eff none d v F) y K)(f:d∉tm y)(g:∀t,(F t).uses d=false):BA F y λi F1 rows=>∃c,(v=F d->c=F1 d)/\K i (eff none d c F1) rows/\dc ts F F1:=by
 have b:=Qt (F:=F) (v:=v) f;unfold BA at h |-;rw[b]at h;split at h
 ·refine fH (rO (ts:=ts) h f g) λF1 j n h=>?_
  obtain⟨c,a,h,k⟩:=h;split at h
  ·exact⟨c,a,h,k⟩
  ·exact h.elim
 ·rw[<-b]at h
  obtain⟨j,xs,a,l⟩:=cy h;refine l F (oM f g) _ ?_;split at a
  ·exact⟨v,λe=>e,a,dc.refl _ _⟩
  ·exact⟨v,λe=>e,a,dc.refl _ _⟩
  ·exact a.elim
theorem N9{d:Nat}{ts:List Nat}{v:AV}{y:Operand}{K:(Nat->AV)->List (List C)->Prop}(h:yO (eff none d v F) y K)(c:d∉tm y)(f:∀t,(F t).uses d=false):yO F y λF1 rows=>∃b,(v=F d->b=F1 d)/\K (eff none d b F1) rows/\dc ts F F1:=by
 obtain⟨g,xs,a,i⟩:=cy h;refine i F (oM c f) _ ?_;split at a
 ·exact⟨v,λe=>e,a,dc.refl _ _⟩
 ·refine fH (rO (ts:=ts) a c f) λF1 g k h=>?_
  obtain⟨b,a,h,j⟩:=h;split at h
  ·exact⟨b,a,h,j⟩
  ·exact h.elim
 ·exact a.elim
theorem Nv{d b T:Nat}{ts:List Nat}{v:AV}{x y:Operand}{K:(Nat->AV)->Prop}(h:z6 TE N (eff none d v F) b T x y K)(c:b≠d)(f:d∉ts)(k:d∉tm x)(l:d∉tm y)(g:∀t,(F t).uses d=false):z6 TE N F b T x y (Fq d ts v F K):=by
 obtain⟨e,C,h,a⟩:=jc h;refine a _ (Do (PZ (ts:=ts) h l g) λD E G h=>?_);obtain⟨H,n,h,i⟩:=h;refine zk (N9 (ts:=ts) h k (i.clean f g)) λJ j h=>?_
 obtain⟨L,o,h,p⟩:=h;obtain⟨q,r,u,w,A,h⟩:=Ap.out h;refine CQ q r u w A rfl (bH (jL (ts:=ts) h c kT) λM B=>?_);exact Fq.trans n i (Fq.trans o p B)
theorem KO{f:Oper}{d:Nat}{v:AV}{K:(Nat->AV)->Prop}(E:f.guard=none)(u:Qm f.op=true)(q:f.dst≠some d)(j:d∉f.looksAt ops)(r:∀t,(F t).uses d=false)(h:jG P TE N ops f K (eff none d v F)) :
  jG P TE N ops f (Fq d (f.looksAt ops) v F K) F:=by
 unfold jG fC at h |-;rw[E]at h |-;simp only at h |-;have l:∀t,t∈cX f.op->t∈f.looksAt ops:=λt w=>gf f t w
 have pur:∀b,b≠d->dm P TE (eff none d v F) f.op (λA=>bM N (eff none d v F) b A K)->dm P TE F f.op λA=>bM N F b A (Fq d (f.looksAt ops) v F K):=λb q h=>
  Fw (p:=λF K=>dm P TE F f.op K) (lV h) q l j r
 have dne:∀b,f.dst=some b->b≠d:=λb a e=>q (e ▸ a)
 have tmI:∀x,x∈f.op.operands.toList->∀t,t∈tm x->t∈f.looksAt ops:=λx G t w=>l t (List.mem_flatMap.2 ⟨x,G,w⟩)
 cases g:f.op with
 | store T x y=>
  rw[g]at h tmI;simp only[Jj]at h |-;cases a:f.dst with
  | some b=>rw[a]at h;simp only[oF]at h;exact h.elim
  | none=>
   rw[a]at h;simp only at h |-;exact LN h j (λk=>j (tmI x (by simp[Op.operands]) d k)) (λk=>j (tmI y (by simp[Op.operands]) d k)) r
 | move x=>
  rw[g]at h tmI;cases a:f.dst with
  | none=>rw[a]at h;exact h.elim
  | some b=>
   rw[a]at h;cases x with
   | tmp t=>
    simp only[Jj,oF]at h |-;exact KL h (dne b a) j (tmI (.tmp t) (by simp[Op.operands]) t (by simp[tm])) r
   | _=>rw[g]at u;cases u
 | assign x=>
  rw[g]at h tmI;cases a:f.dst with
  | none=>rw[a]at h;exact h.elim
  | some b=>
   rw[a]at h;simp only[Jj,oF]at h |-;exact Qv h (dne b a) j (tmI x (by simp[Op.operands])) r
 | build T H=>
  rw[g]at h tmI;cases a:f.dst with
  | none=>rw[a]at h;exact h.elim
  | some b=>
   rw[a]at h;simp only[Jj,oF]at h |-;refine Js h (dne b a) j (λp B k=>j (tmI p.2 ?_ d k)) r;simp only[Op.operands];simpa using ⟨p.1,by simpa using B⟩
 | buildSlice T n H=>
  rw[g]at h tmI;cases a:f.dst with
  | none=>rw[a]at h;exact h.elim
  | some b=>
   rw[a]at h;simp only[Jj,oF]at h |-;refine Gp h (dne b a) j (λp B k=>j (tmI p.2 ?_ d k)) r;simp only[Op.operands];simpa using ⟨p.1,by simpa using B⟩
 | extract x i=>rw[g]at h pur;cases a:f.dst with|none=>rw[a]at h;exact h.elim|some b=>rw[a]at h;exact pur b (dne b a) h
 | load T x=>rw[g]at h pur;cases a:f.dst with|none=>rw[a]at h;exact h.elim|some b=>rw[a]at h;exact pur b (dne b a) h
 | fieldAddr T x i=>rw[g]at h pur;cases a:f.dst with|none=>rw[a]at h;exact h.elim|some b=>rw[a]at h;exact pur b (dne b a) h
 | field T x i=>rw[g]at h pur;cases a:f.dst with|none=>rw[a]at h;exact h.elim|some b=>rw[a]at h;exact pur b (dne b a) h
 | binOp o T x y J=>rw[g]at h pur;cases a:f.dst with|none=>rw[a]at h;exact h.elim|some b=>rw[a]at h;exact pur b (dne b a) h
 | unOp o T x=>rw[g]at h pur;cases a:f.dst with|none=>rw[a]at h;exact h.elim|some b=>rw[a]at h;exact pur b (dne b a) h
 | call c=>
  rw[g]at u h tmI;cases C:qZ c with
  | none=>simp[Qm,C]at u
  | some p=>
   have D:=xI C;subst D;cases a:f.dst with
   | none=>rw[a]at h;exact h.elim
   | some b=>
    rw[a]at h;simp only[Jj,oF,C]at h |-;exact Nv h (dne b a) j (λk=>j (tmI p.2.1 (by simp[Op.operands,Call.operands]) d k)) (λk=>j (tmI p.2.2 (by simp[Op.operands,Call.operands]) d k)) r
 | _=>rw[g]at u;cases u
theorem PU{a:Oper}{d:Nat}{K:(Nat->AV)->Prop}(f:a.guard=none)(g:Qm a.op=true)(b:a.dst≠some d)(i:d∉a.looksAt ops)(j:∀t,(F t).uses d=false)(h:jG P TE N ops a K F) :
  jG P TE N ops a (λF1=>K F1/\dc (a.looksAt ops) F F1) F:=by
 refine kH (KO (d:=d) (v:=F d) f g b i j (by rw[Ky];exact h)) λF1 k=>?_
 obtain⟨l,e,c,u⟩:=k;rw[e rfl,Ky]at c;exact⟨c,u⟩
theorem dc.setH{ts:List Nat}{t:Nat}{k:Kd}{cs:List C} : dc ts F (setH F t (.hold k cs)):=λs e a=>by
 unfold Ab.setH at a;cases b:Nat.beq s t with
 | true=>rw[b]at a;cases a
 | false=>rw[b]at a;exact .inr ⟨s,a⟩
theorem GQ{ts:List Nat}{d:Nat}{k:Kd}{rcs:List C}{K:(Nat->AV)->Prop}(h:bM N F d (.hold k rcs) K):bM N F d (.hold k rcs) λF1=>K F1/\dc ts F F1:=by
 unfold bM at h |-;cases a:(N.free d&&!(AV.hold k rcs).uses d) with
 | false=>rw[a]at h;exact h.elim
 | true=>rw[a]at h;exact⟨h,dc.put λe b=>by cases b⟩
theorem sM{ts:List Nat}{t off n:Nat}{st:cx}{K:(Nat->AV)->List C->Prop}(h:lendAt F t off st n K):lendAt F t off st n λF1 cs=>K F1 cs/\dc ts F F1:=by
 unfold lendAt at h |-;split at h
 case h_2=>exact h.elim
 split at h
 ·rename_i k b _ _
  cases a:Nat.ble (off+n) b.length with
  | false=>rw[a]at h;exact h.elim
  | true=>
   rw[a]at h;simp only[cond_true,dz]at h |-;exact⟨h,dc.updH⟩
 ·obtain⟨r,j,c,d,e,f⟩:=Lq.out h
  refine .mk_ ?_;exact⟨r,j,_,_,c,d,e,rfl,rfl,f,dc.updH⟩
theorem kL{ts:List Nat} : ∀{xs:List (Operand × Nat)}{K:(Nat->AV)->List (MA × xT)->Prop}{F:Nat->AV},lendP xs K F->lendP xs (λF1 l=>K F1 l/\dc ts F F1) F
 | [],K,F,h=>⟨h,dc.refl _ _⟩
 | (x,0)::xs,K,F,h=>kL (xs:=xs) h
 | (x,1)::xs,K,F,h=>by
  simp only[lendP]at h |-;split at h
  case h_2=>exact h.elim
  split at h
  ·exact io (sM (ts:=ts) h) λF1 c h=>dG (kL (ts:=ts) h.1) λb l a=>⟨a.1,h.2.trans a.2⟩
  ·exact io (sM (ts:=ts) h) λF1 c h=>dG (kL (ts:=ts) h.1) λb l a=>⟨a.1,h.2.trans a.2⟩
  ·exact io (sM (ts:=ts) h) λF1 c h=>dG (kL (ts:=ts) h.1) λb l a=>⟨a.1,h.2.trans a.2⟩
  ·exact h.elim
 | (x,n+2)::xs,K,F,h=>by
  simp only[lendP]at h |-;split at h
  case h_2=>exact h.elim
  split at h
  ·split at h
   ·exact dG (kL (ts:=ts) h) λb l a=>⟨a.1,dc.kill.trans a.2⟩
   ·exact h.elim
  ·exact dG (kL (ts:=ts) h) λb l a=>⟨a.1,dc.kill.trans a.2⟩
  ·exact h.elim
theorem kn{ts:List Nat}{K:(Nat->AV)->Prop} : ∀{l:List (MA × xT)}{B:List MA}{F:Nat->AV},iQ l B K F->iQ l B (λF1=>K F1/\dc ts F F1) F
 | [],[],F,h=>⟨h,dc.refl _ _⟩
 | [],_::_,F,h=>h.elim
 | (m,.no)::l,[],F,h=>h.elim
 | (m,.at_ t off st)::l,[],F,h=>h.elim
 | (m,.box t)::l,[],F,h=>h.elim
 | (m,.no)::l,.val _ _::B,F,h=>kn (l:=l) (B:=B) h
 | (m,.no)::l,.mut _ _::B,F,h=>kn (l:=l) (B:=B) h
 | (m,.no)::l,.ptr _::B,F,h=>kn (l:=l) (B:=B) h
 | (m,.at_ t off st)::l,.val _ _::B,F,h=>h.elim
 | (m,.at_ t off st)::l,.ptr _::B,F,h=>h.elim
 | (m,.box t)::l,.val _ _::B,F,h=>h.elim
 | (m,.box t)::l,.mut _ _::B,F,h=>h.elim
 | (m,.at_ t off st)::l,.mut ag out::B,F,h=>by
  simp only[iQ]at h |-;split at h
  case h_2=>exact h.elim
  split at h
  ·rename_i k d _ _
   cases b:Nat.ble (off+out.length) d.length with
   | false=>rw[b]at h;exact h.elim
   | true=>
    rw[b]at h;simp only[cond_true,dz]at h |-;exact er (λc a=>⟨a.1,dc.updH.trans a.2⟩) (kn (ts:=ts) h)
  ·obtain⟨r,j,e,f,g,i⟩:=Pu.out h
   exact Pu.mk e f g rfl (er (λc a=>⟨a.1,dc.updH.trans a.2⟩) (kn (ts:=ts) i))
 | (m,.box t)::l,.ptr out::B,F,h=>by
  simp only[iQ]at h |-;split at h
  ·exact er (λc a=>⟨a.1,dc.setH.trans a.2⟩) (kn (ts:=ts) h)
  ·exact h.elim
theorem Lf{ts:List Nat}{d:Option Nat}{f:Nat}{args:List Operand}{modes:List Nat}{K:(Nat->AV)->Prop}(h:oq P N F d f args modes K):oq P N F d f args modes λF1=>K F1/\dc ts F F1:=by
 unfold oq at h |-;refine dG (kL (ts:=ts) h) λn l h=>?_
 obtain⟨h,c⟩:=h;cases e:(xH l&&Nat.beq args.length modes.length) with
 | false=>rw[e]at h;exact h.elim
 | true=>
  rw[e]at h;refine kz h λb A h=>?_
  obtain⟨o,B,k,rcs,i,a,j⟩:=cw.out h;refine CI i a (er (λF'' h=>?_) (kn (ts:=ts) j));obtain⟨h,g⟩:=h;cases d with
  | none=>exact⟨h,c.trans g⟩
  | some d=>exact bH (GQ (ts:=ts) h) λp a=>⟨a.1,(c.trans g).trans a.2⟩
theorem NX{ts:List Nat}{d:Option Nat}{t:Nat}{cs:List C}{c a e b:Nat}{K:(Nat->AV)->Prop}{k:Kd}{rcs:List C}{B:List MA}(h:Dc N F d t cs c a e b K k rcs B):Dc N F d t cs c a e b (λF1=>K F1/\dc ts F F1) k rcs B:=by
 unfold Dc at h |-;split at h
 case h_2=>exact h.elim
 rename_i i j;cases f:(Nat.beq i.length a&&Nat.beq j.length b) with
 | false=>rw[f]at h;exact h.elim
 | true=>
  rw[f]at h;simp only[cond_true,dz]at h |-;cases d with
  | none=>exact⟨h,dc.kill.trans dc.setH⟩
  | some d=>exact bH (GQ (ts:=ts) h) λl g=>⟨g.1,(dc.kill.trans dc.setH).trans g.2⟩
theorem Me{ts:List Nat}{d:Option Nat}{f:Nat}{args:List Operand}{a b:Nat}{K:(Nat->AV)->Prop}(h:ne P N F d f args a b K):ne P N F d f args a b λF1=>K F1/\dc ts F F1:=by
 unfold ne at h |-;split at h
 case h_2=>exact h.elim
 refine pB h λt g h=>pB h λi c h=>?_
 split at h
 case h_2=>exact h.elim
 rename_i j p;cases e:(Nat.beq i t&&Nat.ble (g+a) c&&Nat.ble (c+b) j.length) with
 | false=>rw[e]at h;exact h.elim
 | true=>
  rw[e]at h;simp only[cond_true,dz]at h |-;obtain⟨q,B,k,rcs,l,n,o⟩:=cw.out h;exact CI l n (NX o)
theorem KK{ts:List Nat}{d:Option Nat}{f:Nat}{args:List Operand}{modes:List Nat}{K:(Nat->AV)->Prop}(h:mN P N F d f args modes K):mN P N F d f args modes λF1=>K F1/\dc ts F F1:=by
 unfold mN at h |-;split
 ·rename_i p a;rw[a]at h;exact Me h
 ·rename_i a;rw[a]at h;exact Lf h
theorem MU{a:Oper}{K:(Nat->AV)->Prop}(k:a.guard=none)(i:He a.op=true)(h:jG P TE N ops a K F):jG P TE N ops a (λF1=>K F1/\dc (a.looksAt ops) F F1) F:=by
 have pur:∀d,a.dst=some d->dm P TE F a.op (λj=>bM N F d j K)->dm P TE F a.op λj=>bM N F d j λF1=>K F1/\dc (a.looksAt ops) F F1:=λd b h=>by
  have u:gl P TE N ops a K F:=by unfold gl fC;rw[k,b];exact h
  obtain⟨B,j,l,w⟩:=wg u;have f:=l.dst;rw[b]at f;simp only[X0]at f;subst f;have n:=l.at_ F (iN.refl _ _) (λF1=>K F1/\dc (a.looksAt ops) F F1) ⟨w,dc.put λe y=>(l.from_ e y).imp id λ⟨t,_,h⟩=>⟨t,h⟩⟩;unfold gl fC at n;rw[k,b]at n;exact n
 unfold jG fC at h |-;rw[k]at h |-;simp only at h |-;cases g:a.op with
 | call c=>
  rw[g]at h i;cases q:Jj N F (.call c) with
  | some p=>rw[q]at h;exact KK h
  | none=>
   rw[q]at h;simp only at h |-;have o:qZ c=none:=by
    simp only[He]at i;unfold qZ;cases A:c.callee with
    | value=>rfl
    | _=>simp[A]at i
   cases b:a.dst with
   | none=>rw[b]at h;exact h.elim
   | some d=>
    rw[b]at h;simp only[oF,o]at h |-;have r:=pur d b;rw[g]at r;exact r h
 | _=>rw[g]at i;cases i
theorem Pt{a:Oper}{d:Nat}{K:(Nat->AV)->Prop}(e:a.guard=none)(b:(Qm a.op || He a.op)=true)(c:a.dst≠some d)(f:d∉a.looksAt ops)(g:∀t,(F t).uses d=false)(h:jG P TE N ops a K F) :
  jG P TE N ops a (λF1=>K F1/\dc (a.looksAt ops) F F1) F:=by
 rw[X5]at b;rcases b with b|b
 ·exact PU e b c f g h
 ·exact MU e b h
structure lB(ops:Array Oper)(ds:List Nat)(F:Nat->AV)(listed:Array Bool):Prop where
 dst:∀(j:Nat)(o:Oper)(d:Nat),nI ds o=true->ops[j]? = some o->listed.getD j true=false->o.dst=some d->∀t,(F t).uses d=false
 mv:∀(j:Nat)(o:Oper)(T:Option Nat)(s:Nat),nI ds o=true->ops[j]? = some o->listed.getD j true=false->o.guard=none->mD o.op=some (T,s)->iP ops o s=true->∀t,(F t).uses s=false
theorem lB.put{j d:Nat}{r:Option Nat}{listed:Array Bool}{av:AV}(h:lB ops ds F listed)(o:∀b a g,nI ds a=true->b≠j->ops[b]? = some a->listed.getD b true=false->a.dst=some g->av.uses g=false)(p:∀b a T s,nI ds a=true->b≠j->ops[b]? = some a->listed.getD b true=false->a.guard=none->mD a.op=some (T,s)->iP ops a s=true->av.uses s=false) :
  lB ops ds (eff r d av F) (listed.setIfInBounds j true):=by
 refine⟨λb a g i c f k t=>?_,λb a T s i c f q l n t=>?_⟩
 ·have e:=ik f
  rw[getD_set_ne true (Ne.symm e)]at f;exact jy (o b a g i e c f k) (h.dst b a g i c f k t)
 ·have e:=ik f
  rw[getD_set_ne true (Ne.symm e)]at f;exact jy (p b a T s i e c f q l n) (h.mv b a T s i c f q l n t)
theorem xO{o:Oper}(h:QB o=true):o.guard=none:=by
 unfold QB at h;cases a:o.guard with
 | none=>rfl
 | some p=>rw[a]at h;cases h
theorem LV{ts:List Nat}{d:Nat}(h:(!ts.any (Nat.beq d))=true):d∉ts:=λa=>by
 have:ts.any (Nat.beq d)=true:=X3.2 ⟨d,a,Nat.beq_refl d⟩;rw[this]at h;cases h
theorem Kv{c b:Oper}{d:Nat}{f:Bool}(h:QJ ops c b f=true)(i:b.dst=some d):c.guard=none/\Qm c.op=true/\c.dst≠some d/\d∉c.looksAt ops/\b.guard=none/\d∉b.looksAt ops/\(f=true\/∀T s,mD b.op=some (T,s)->iP ops b s=false):=by
 unfold QJ at h;rw[i]at h;simp only[I0]at h;obtain⟨⟨⟨⟨⟨⟨j,k⟩,g⟩,l⟩,n⟩,o⟩,a⟩:=h;refine⟨xO j,k,λe=>?_,LV l,xO n,LV o,?_⟩
 ·rw[e]at g;simp at g
 ·rw[X5]at a
  rcases a with a|a
  ·exact .inl a
  ·exact .inr λT s e=>by rw[e]at a;simpa using a
theorem Ly{j i:Nat}(h:uE ops j i=true):n6 ops j i:=rz j _ (λ_ a=>.one (vw a)) i h
theorem GG{o:Oper}(h:nI ds o=true):∃d,o.dst=some d/\ds.any (Nat.beq d)=true:=by
 unfold nI at h;cases a:o.dst with
 | none=>rw[a]at h;cases h
 | some d=>rw[a]at h;exact⟨d,rfl,h⟩
structure QI(ops:Array Oper)(ds:List Nat)(nm:Nat->Bool):Prop where
 back:∀(j:Nat)(oj:Oper),ops[j]? = some oj->∀e∈oj.after,Region.binds .any e=true->e.on<j
 apart:∀(i j:Nat)(oi oj:Oper),nI ds oi=true->nI ds oj=true->i≠j->ops[i]? = some oi->ops[j]? = some oj->cW oj i=true\/cW oi j=true\/oi.apart ops oj=true
 look:∀(i j:Nat)(oi oj:Oper)(d:Nat),nI ds oi=true->i≠j->ops[i]? = some oi->ops[j]? = some oj->oi.dst=some d->d∈oj.looksAt ops->cW oj i=true
 differ:∀(i j:Nat)(oi oj:Oper)(d:Nat),nI ds oi=true->nI ds oj=true->i≠j->ops[i]? = some oi->ops[j]? = some oj->oi.dst=some d->oj.dst≠some d
 nf:∀(i j:Nat)(oi oj:Oper),nI ds oi=true->nI ds oj=false->i≠j->ops[i]? = some oi->ops[j]? = some oj->uE ops j i=true\/uE ops i j=true\/QJ ops oj oi (nm i)=true
 mvs:∀(j:Nat)(oj:Oper)(T:Option Nat)(s:Nat),nI ds oj=true->ops[j]? = some oj->mD oj.op=some (T,s)->iP ops oj s=true->ds.any (Nat.beq s)=true
theorem oB{listed:Array Bool}{j i:Nat}{h:Oper}(c:QI ops ds nm)(d:DC ops listed)(a:ops[j]? = some h)(b:∀e∈h.after,Region.binds .any e=true->listed.getD e.on false=true)(n:uE ops j i=true):listed.getD i false=true:=
 mA d c.back (Ly n) (T3.1 a).1 λk l=>by
  rw[aZ a]at l;obtain⟨e,f,g,rfl⟩:=cg.1 l;exact b e f g
theorem unl{listed:Array Bool}{k:Nat}(h1:listed.getD k true=false)(a:listed.getD k false=true):False:=by
 rcases Nat.lt_or_ge k listed.size with b|b
 ·simp[b]at h1 a;rw[h1]at a;cases a
 ·simp[Array.getElem?_eq_none b]at a
theorem iN.trans{F1 a:Nat->AV}{ts:List Nat}(h1:iN F F1 ts)(g:iN F1 a ts):iN F a ts:=λt b=>by
 obtain⟨c,h⟩:=h1 t b;obtain⟨i,j⟩:=g t b;refine⟨i.trans c,λd e k f l=>j d (by rw[c];exact e) k f (h d e k f l)⟩
theorem lB.us{j:Nat}{f:Oper}{F1:Nat->AV}{listed:Array Bool}(r:QI ops ds nm)(h:lB ops ds F listed)(g:ops[j]? = some f)(i:∀e∈f.after,Region.binds .any e=true->listed.getD e.on false=true)(u:dc (f.looksAt ops) F F1):lB ops ds F1 (listed.setIfInBounds j true):=by
 refine⟨λk l y q b c n=>u.clean (λd=>?_) (h.dst k l y q b ?_ n),λk l T s q b c A o p=>u.clean (λd=>?_) (h.mv k l T s q b ?_ A o p)⟩
 ·have a:=ik c
  rw[getD_set_ne true (Ne.symm a)]at c;have:=r.look k j l f y q a b g n d;obtain⟨e,t,w,rfl⟩:=cg.1 this;exact unl c (i e t w)
 ·have a:=ik c
  rwa [getD_set_ne true (Ne.symm a)]at c
 ·have a:=ik c
  exact a ((fJ p).2 k j l f b g (cQ o) d)
 ·have a:=ik c
  rwa [getD_set_ne true (Ne.symm a)]at c
theorem PT{p d:Nat}{v:AV}{F1:Nat->AV}{b:Oper}(a:ops[p]? = some b)(g:d∉b.looksAt ops)(i:∀t,(F1 t).uses d=false)(c:b.dst≠some d)(h:Qx P TE ops p (eff none d v F1)):Qx P TE ops p F1:=by
 obtain⟨n,f,j,k⟩:=h;rw[aZ a]at f j k;refine⟨n,by rw[aZ a];exact f,?_,?_⟩
 ·rw[aZ a]
  rw[<-j];exact vn (ops:=ops) (oM g i)
 ·rw[aZ a]
  obtain⟨r,l,-,o⟩:=lV k;rw[df (λe=>c (by rw[f,e]))]at l;exact o F1 (oM (λq=>g (gf b d q)) i) _ l
theorem Ga(B:QI ops ds nm){i d:Nat}{b:Oper}{K:(Nat->AV)->Prop}(C:ops[i]? = some b)(o:nI ds b=true) :
  ∀(fuel:Nat)(listed:Array Bool)(F:Nat->AV)(q:Option Nat)(av:AV),i∈Region.ready .any ops listed->lB ops ds F listed->DC ops listed->Yl P TE N ops b F q d av->(nm i=true->q=none)->DQ P TE N ops ds K fuel (listed.setIfInBounds i true) (eff q d av F)->DQ P TE N ops ds K (fuel+1) listed F:=by
 have self:∀(listed:Array Bool)(F:Nat->AV)(q:Option Nat)(av:AV),i∈Region.ready .any ops listed->lB ops ds F listed->Yl P TE N ops b F q d av->∀K':(Nat->AV)->Prop,K' (eff q d av F)->kx P TE N ops b K' F:=λlisted F q av W c f K' hK=>by
  have a:=(mem_ready.1 W).1;refine f.at_ F (iN.refl _ _) (c.dst i b d o C a f.dst) (λs hs=>?_) K' hK;obtain⟨L,⟨T,h2⟩,h3⟩:=f.mvl s hs;exact c.mv i b T s o C a L h2 h3
 intro fuel
 induction fuel with
 | zero=>
  intro listed F q av W c M f E H;refine⟨λh=>(by rw[h]at W;cases W),λj hj=>?_⟩;by_cases g:j=i
  ·subst g
   unfold tS;rw[C];simp only[C9 o];exact self listed F q av W c f _ H
  ·have:=ready_mono hj g
   rw[H.1]at this;cases this
 | succ fuel ih=>
  intro listed F q av W c M f E H;refine⟨λh=>(by rw[h]at W;cases W),λj hj=>?_⟩;by_cases g:j=i
  ·subst g
   unfold tS;rw[C];simp only[C9 o];exact self listed F q av W c f _ H
  ·have L:=H.2 j (ready_mono hj g)
   obtain⟨G,n,l,X⟩:=mem_ready.1 hj;obtain⟨a,oi',Y,Z⟩:=mem_ready.1 W;rw[C]at Y;simp only[X0]at Y;subst Y;have noedge:∀k ok,ops[k]? = some ok->listed.getD k true=false->cW n k=false:=λk ok hk hkun=>by
    rw[<-z5];intro he;obtain⟨e,he1,he2,he3⟩:=cg.1 he;exact unl hkun (he3 ▸ X e he1 he2)
   have noedge':∀k ok,ops[k]? = some ok->listed.getD k true=false->cW b k=false:=λk ok hk hkun=>by
    rw[<-z5];intro he;obtain⟨e,he1,he2,he3⟩:=cg.1 he;exact unl hkun (he3 ▸ Z e he1 he2)
   have cd:∀t,(F t).uses d=false:=c.dst i b d o C a f.dst
   unfold tS at L |-;rw[l]at L |-;simp only at L |-;by_cases O:nI ds n=true
   case neg=>
    rw[C8 O]at L |-;have hji1:uE ops j i=false:=by
     rw[<-z5];exact λh=>unl a (oB B M l X h)
    have hij1:uE ops i j=false:=by
     rw[<-z5];exact λh=>unl G (oB B M C Z h)
    have hfb:QJ ops n b (nm i)=true:=by
     rcases B.nf i j b n o (by simpa using O) (Ne.symm g) C l with h|h|h
     ·rw[hji1]at h;cases h
     ·rw[hij1]at h;cases h
     ·exact h
    obtain⟨Q,y,J,g4,g5,g6,g7⟩:=Kv hfb f.dst;have hmv:q=none:=by
     cases q with
     | none=>rfl
     | some s=>
      obtain⟨-,⟨T,q1⟩,q2⟩:=f.mvl s rfl;rcases g7 with g7|g7
      ·exact E g7
      ·rw[g7 T s q1]at q2;cases q2
    subst hmv;refine kH (KO Q y J g4 cd L) λF1 hF1=>?_
    obtain⟨v,-,⟨hchk,hrun⟩,u⟩:=hF1;have cd1:∀t,(F1 t).uses d=false:=u.clean g4 cd
    have hisz:i<listed.size:=by
     rcases Nat.lt_or_ge i listed.size with h|h
     ·exact h
     ·simp[Array.getElem?_eq_none h]at a
    have hrd:Qx P TE ops i (eff none d v F1):=hchk i (by simp[hisz]) (by rw[aZ C];exact o) hji1;refine⟨λp hp1 hp2 hp3=>?_,ih (listed.setIfInBounds j true) F1 none v (ready_mono W (Ne.symm g)) (c.us B l X u) (M.put hj) ?_ (λ_=>rfl) (by rw[Array.setIfInBounds_comm _ _ g];exact hrun)⟩
    ·have hpi:p≠i:=λe=>by subst e;exact unl a hp1
     have hpl:p<ops.size:=by
      rcases Nat.lt_or_ge p ops.size with h|h
      ·exact h
      ·rw[show cU ops p=default by simp[cU,C6,Array.getElem?_eq_none h]]at hp2
       cases hp2
     have h0:ops[p]? = some ops[p]:=Y5 hpl;have hp2':=hp2;rw[aZ h0]at hp2';refine PT h0 (λhlk=>?_) cd1 (B.differ i p b _ d o hp2' (Ne.symm hpi) C h0 f.dst) (hchk p (getD_set_true hp1) hp2 hp3);have:=B.look i p b _ d o (Ne.symm hpi) C h0 f.dst hlk;exact unl a (M p _ h0 hp1 i this)
    ·obtain⟨dp,q1,q2,q3⟩:=hrd
     rw[aZ C]at q1 q2 q3;have hdp:dp=d:=by rw[f.dst]at q1;simpa using q1.symm
     subst hdp;rw[lG]at q3;obtain⟨R,e1,e2,e3⟩:=lV q3;subst e1;have agr1:iN (eff none dp R F1) F1 (b.looksAt ops):=oM g6 cd1;have fromv:ec F1 (b.looksAt ops) R:=λe he=>by
      rcases e2 e he with h|⟨t,A,h⟩
      ·exact .inl (gf b e h)
      ·have htl:=gf (ops:=ops) b t A
       have hne:t≠dp:=λe=>g6 (e ▸ htl)
       rw[df hne]at h;exact .inr ⟨t,htl,h⟩
     have hself:R.uses dp=false:=by
      cases D:R.uses dp with
      | false=>rfl
      | true=>
       rcases fromv dp D with h|⟨t,_,h⟩
       ·exact absurd h g6
       ·rw[cd1 t]at h;cases h
     refine⟨f.dst,f.lt,hself,fromv,λs hs=>(by cases hs),λF' hA S _ K' hK=>?_⟩;have agr2:=agr1.trans hA;unfold kx;rw[vn agr2,q2];simp only;unfold gl fC;rw[g5,f.dst];simp only;refine e3 F' (agr2.mono λt A=>gf b t A) _ ?_;unfold bM;rw[f.lt,hself];show K' (put F' dp R);rw[Aw R S];exact hK
   rw[C9 O]at L |-;have hap:b.apart ops n=true:=by
    rcases B.apart i j b n o O (Ne.symm g) C l with h|h|h
    ·rw[noedge i b C a]at h;cases h
    ·rw[noedge' j n l G]at h;cases h
    ·exact h
   obtain⟨ap1,ap2,ap3⟩:=Oper.apart_spec hap;have hdl:d∉n.looksAt ops:=ap1 d f.dst;have cdj':∀r,n.dst=some r->∀t,(F t).uses r=false:=λr hdj=>c.dst j n r O l G hdj
   have cmv:∀s,q=some s->(∀t,(F t).uses s=false)/\s∉n.looksAt ops/\s∈b.looksAt ops:=λs hs=>by
    obtain⟨Q,⟨T,y⟩,J⟩:=f.mvl s hs;exact⟨c.mv i b T s o C a Q y J,λhl=>g ((fJ J).2 i j b n C l (cQ y) hl).symm,cQ y⟩
   have cmvj:∀T s,n.guard=none->mD n.op=some (T,s)->iP ops n s=true->(∀t,(F t).uses s=false)/\s∉b.looksAt ops/\s∈n.looksAt ops:=λT s Q y J=>
    ⟨c.mv j n T s O l G Q y J,λhl=>g ((fJ J).2 i j b n C l hl (cQ y)).symm,cQ y⟩
   have avno:∀e,e∉b.looksAt ops->(∀t,(F t).uses e=false)->av.uses e=false:=λe L h2=>by
    cases D:av.uses e with
    | false=>rfl
    | true=>
     rcases f.from_ e D with h|⟨t,_,h⟩
     ·exact absurd h L
     ·rw[h2 t]at h;cases h
   obtain⟨mvj,r,avj,U,hKj⟩:=pm L (λr hdj t=>jy (avno r (ap3 r hdj) (cdj' r hdj)) (cdj' r hdj t)) (λT s Q y J t=>by
     obtain⟨c1,c2,-⟩:=cmvj T s Q y J;exact jy (avno s c2 c1) (c1 t))
   have hdne:d≠r:=λe=>ap2 d f.dst (by rw[U.dst,e])
   have hdjl:r∉b.looksAt ops:=ap3 r U.dst;have cdj:∀t,(F t).uses r=false:=cdj' r U.dst
   have cmj:∀s,mvj=some s->(∀t,(F t).uses s=false)/\s∉b.looksAt ops/\s∈n.looksAt ops:=λs hs=>by
    obtain⟨Q,⟨T,y⟩,J⟩:=U.mvl s hs;exact cmvj T s Q y J
   have lookj:∀t,t∈n.looksAt ops->eff q d av F t=F t:=λt A=>by
    unfold eff;have e1:t≠d:=λe=>hdl (e ▸ A)
    have e2:q≠some t:=λe=>(cmv t e).2.1 A
    rw[C8 e1,C8 e2]
   have looki:∀t,t∈b.looksAt ops->eff mvj r avj F t=F t:=λt A=>by
    unfold eff;have e1:t≠r:=λe=>hdjl (e ▸ A)
    have e2:mvj≠some t:=λe=>(cmj t e).2.1 A
    rw[C8 e1,C8 e2]
   have avjno:∀e,e∉n.looksAt ops->(∀t,(F t).uses e=false)->avj.uses e=false:=λe L h2=>by
    cases D:avj.uses e with
    | false=>rfl
    | true=>
     rcases U.from_ e D with h|⟨t,A,h⟩
     ·exact absurd h L
     ·rw[lookj t A,h2 t]at h;cases h
   have agrj:iN (eff q d av F) F (n.looksAt ops):=λt A=>by
    rw[lookj t A];refine⟨rfl,λt' D k cs hh=>?_⟩;have w:t'≠d:=λe=>by rw[e,cd t]at D;cases D
    have E:q≠some t':=λe=>by rw[(cmv t' e).1 t]at D;cases D
    unfold eff at hh;rw[C8 w,C8 E]at hh;exact hh
   refine U.at_ F agrj cdj (λs hs=>(cmj s hs).1) _ (ih (listed.setIfInBounds j true) (eff mvj r avj F) q av (ready_mono W (Ne.symm g)) (c.put (λj' o' d' hm' w V hl' S=>?_) (λj' o' T s hm' w V hl' Q y J=>?_)) (M.put hj) ?_ E ?_)
   ·refine avjno d' (λh=>?_) (c.dst j' o' d' hm' V hl' S)
    have:=B.look j' j o' n d' hm' w V l S h;rw[noedge j' o' V hl']at this;cases this
   ·exact avjno s (λh=>w ((fJ J).2 j' j o' n V l (cQ y) h)) (c.mv j' o' T s hm' V hl' Q y J)
   ·refine⟨f.dst,f.lt,f.self,λe he=>?_,f.mvl,λF' hA S hs' K' hK=>f.at_ F' (λt A=>?_) S hs' K' hK⟩
    ·rcases f.from_ e he with h|⟨t,A,h⟩
     ·exact .inl h
     ·exact .inr ⟨t,A,by rw[looki t A];exact h⟩
    ·obtain⟨a1,a2⟩:=hA t A
     rw[looki t A]at a1 a2;refine⟨a1,λt' D k cs hh=>a2 t' D k cs ?_⟩;have w:t'≠r:=λe=>by rw[e,cdj t]at D;cases D
     have E:mvj≠some t':=λe=>by rw[(cmj t' e).1 t]at D;cases D
     unfold eff;rw[C8 w,C8 E];exact hh
   ·rw[Array.setIfInBounds_comm _ _ g]
    have:eff q d av (eff mvj r avj F)=eff mvj r avj (eff q d av F):=by
     funext t
     unfold eff;by_cases e1:t=d
     ·have Q:t≠r:=λe=>hdne (e1.symm.trans e)
      have y:mvj≠some t:=λe=>hdl (e1 ▸ (cmj t e).2.2)
      simp only[C9 e1,C8 Q,C8 y]
     ·rw[C8 e1]
      by_cases e2:t=r
      ·have y:q≠some t:=λe=>hdjl (e2 ▸ (cmv t e).2.2)
       simp only[C9 e2,C8 y]
      ·simp only[C8 e2,C8 e1]
       by_cases e3:q=some t
       ·by_cases e4:mvj=some t
        ·simp only[C9 e3,C9 e4]
        ·simp only[C9 e3,C8 e4]
       ·by_cases e4:mvj=some t
        ·simp only[C8 e3,C9 e4]
        ·simp only[C8 e3,C8 e4]
    rw[this];exact hKj
theorem zH:∀{g:List Nat}{X:Prop}{F:Nat->AV},Ma P TE ops g X F->X/\∀p,p∈g->Qx P TE ops p F
 | [],X,F,h=>⟨h,λp k=>by cases k⟩
 | p::l,X,F,h=>by
  simp only[Ma]at h;unfold Q9 at h;cases c:(cU ops p).dst with
  | none=>rw[c]at h;exact h.elim
  | some d=>
   rw[c]at h;simp only at h;cases f:Fe F (cU ops p) with
   | some q=>rw[f]at h;exact h.elim
   | none=>
    rw[f]at h;simp only at h;obtain⟨i,j,-,-⟩:=lV h;obtain⟨e,n,b⟩:=(show i=F d/\X/\∀p,p∈l->Qx P TE ops p F from⟨j.out.1,zH j.out.2⟩)
    refine⟨n,λo a=>?_⟩;rcases List.mem_cons.1 a with rfl|a
    ·exact⟨d,c,f,sV h λi h=>h.out.1⟩
    ·exact b o a
theorem pF{l:List (Nat × List Nat)}{i:Nat} : pJ l i=true↔∃p,p∈l/\p.1=i:=by
 unfold pJ;rw[X3];exact⟨λ⟨p,a,b⟩=>⟨p,a,C2 b⟩,λ⟨p,a,b⟩=>⟨p,a,by rw[b];exact Nat.beq_refl i⟩⟩
theorem kh{k:Nat × List Nat}{l:List (Nat × List Nat)}{i:Nat} : pJ (k::l) i=(Nat.beq k.1 i || pJ l i):=rfl
theorem BL(f:QI ops ds nm){K:(Nat->AV)->Prop} : ∀(l:List (Nat × List Nat))(listed:Array Bool)(F:Nat->AV),EC ops ds l=true->listed.size=ops.size->(∀j,j<ops.size->listed.getD j true = !pJ l j)->lB ops ds F listed->DC ops listed->
  Jv P TE N ops ds nm l K F->DQ P TE N ops ds K l.length listed F
 | [],listed,F,_,hs,g,_,_,w=>by
  refine⟨?_,w⟩;apply List.eq_nil_iff_forall_not_mem.2;intro j hj;obtain⟨h1,o,ho,-⟩:=mem_ready.1 hj;have y:=(T3.1 ho).1;rw[g j y]at h1;cases h1
 | k::l,listed,F,Q,hs,g,n,L,w=>by
  simp only[EC,I0]at Q;obtain⟨⟨⟨⟨q1,q2⟩,q3⟩,q4⟩,q5⟩:=Q;have hk:k.1<ops.size:=by simpa[Nat.blt_eq] using q1
  have u:ops[k.1]? = some ops[k.1]:=Y5 hk;have hrf:∀i,i<ops.size->listed.getD i true=true->listed.getD i false=true:=λi hi h=>by
   have h2:i<listed.size:=ω
   simp[h2]at h |-;exact h
  have hready:k.1∈Region.ready .any ops listed:=mem_ready.2 ⟨by rw[g k.1 hk,kh,Nat.beq_refl];rfl,_,u,λe he hb=>by
    have y:=f.back k.1 _ u e he hb;have hx:=q3;rw[aZ u]at hx;have h3:=Y3.1 hx e (by simpa using he);rw[hb]at h3;refine hrf e.on ω ?_;rw[g e.on ω,kh];simpa using h3⟩
  have A:∀j,j<ops.size->(listed.setIfInBounds k.1 true).getD j true = !pJ l j:=λj hj=>by
   by_cases B:j=k.1
   ·subst B
    have:pJ l k.1=false:=by simpa using q2
    rw[this];simp[hs,hj]
   ·rw[getD_set_ne true (Ne.symm B),g j hj,kh,show Nat.beq k.1 j=false by rw[<-z5,Nat.beq_eq];exact Ne.symm B];rfl
  show DQ P TE N ops ds K (l.length+1) listed F;simp only[Jv]at w;rw[aZ u]at w q4;have S:listed.getD k.1 true=false:=(mem_ready.1 hready).1;cases a:nI ds ops[k.1] with
  | true=>
   rw[a]at w;simp only[cond_true]at w;obtain⟨mv,d,av,hy,w,hnm⟩:=HG w (λd hd=>n.dst k.1 _ d a u S hd) (λT s g1 g2 g3=>n.mv k.1 _ T s a u S g1 g2 g3);have b:∀e∈ops[k.1].after,Region.binds .any e=true->listed.getD e.on false=true:=by
    obtain⟨-,R,U,b⟩:=mem_ready.1 hready;rw[u]at U;simp only[X0]at U;subst U;exact b
   refine Ga f u a l.length listed F mv av hready n L hy hnm (BL f l _ _ q5 (by simpa using hs) A (n.put (λM R d' r C c hl'' V=>?_) (λM R T s r C c hl'' g1 g2 g3=>?_)) (L.put hready) w)
   ·cases hu:av.uses d' with
    | false=>rfl
    | true=>
     rcases hy.from_ d' hu with h|⟨t,_,h⟩
     ·have:=f.look M k.1 R _ d' r C c u V h
      obtain⟨e,W,X,Y⟩:=cg.1 this;exact(unl hl'' (Y ▸ b e W X)).elim
     ·rw[n.dst M R d' r c hl'' V t]at h;cases h
   ·cases hu:av.uses s with
    | false=>rfl
    | true=>
     rcases hy.from_ s hu with h|⟨t,_,h⟩
     ·exact absurd ((fJ g3).2 M k.1 R _ c u (cQ g2) h) C
     ·rw[n.mv M R T s r c hl'' g1 g2 g3 t]at h;cases h
  | false=>
   rw[a]at w q4;simp only[cond_false]at w;simp only[Bool.false_or,I0]at q4;obtain⟨⟨r1,r2⟩,r3⟩:=q4;refine⟨λh=>(by rw[h]at hready;cases hready),λj hj=>?_⟩;obtain⟨D,oj,E,b⟩:=mem_ready.1 hj;have hjlt:=(T3.1 E).1;have B:j=k.1:=by
    rw[g j hjlt,kh]at D;cases hb:Nat.beq k.1 j with
    | true=>exact(C2 hb).symm
    | false=>
     rw[hb]at D;obtain⟨p,G,rfl⟩:=pF.1 (show pJ l j=true by simpa using D);exact(unl S (oB f L E b (Y3.1 r1 p G))).elim
   subst B;rw[u]at E;simp only[X0]at E;subst E;unfold tS;rw[u];simp only[a,C8 (show ¬false=true by decide)];have post:∀J,Ma P TE ops k.2 (Jv P TE N ops ds nm l K J) J->lB ops ds J (listed.setIfInBounds k.1 true)->(∀p,listed.getD p false=true->nI ds (cU ops p)=true->uE ops k.1 p=false->Qx P TE ops p J)/\DQ P TE N ops ds K l.length (listed.setIfInBounds k.1 true) J:=λJ Z hcl1=>by
    obtain⟨hrun,hrd⟩:=zH Z;refine⟨λp G hp2 hp3=>hrd p ?_,BL f l _ _ q5 (by simpa using hs) A hcl1 (L.put hready) hrun⟩;have hpl:p<ops.size:=by
     rcases Nat.lt_or_ge p ops.size with h|h
     ·exact h
     ·rw[show cU ops p=default by simp[cU,C6,Array.getElem?_eq_none h]]at hp2
      cases hp2
    have h4:=gh r2 hpl;rw[hp2,hp3]at h4;have hml:pJ l p=false:=by
     rw[<-z5];intro hm;have:listed.getD p true=false:=by rw[g p hpl,kh,hm];simp
     exact unl this G
    rw[hml]at h4;simp only[Bool.not_true,Bool.false_or]at h4;obtain⟨x,O,q⟩:=X3.1 h4;exact C2 q ▸ O
   cases hlater:l.any (λj=>nI ds (cU ops j.1)) with
   | false=>
    refine kH w λJ Z=>post J Z ⟨λM R d' r c hl'' V=>?_,λM R T s r c hl''=>?_⟩
    all_goals
     exfalso;have hj'lt:=(T3.1 c).1;rw[A M hj'lt]at hl'';obtain⟨p,G,rfl⟩:=pF.1 (show pJ l M=true by simpa using hl'');have:l.any (λj=>nI ds (cU ops j.1))=true:=X3.2 ⟨p,G,by rw[aZ c];exact r⟩;rw[this]at hlater;cases hlater
   | true=>
    rw[hlater]at r3;simp only[Bool.not_true,Bool.false_or,I0]at r3;obtain⟨x,O,q⟩:=X3.1 hlater;have H:listed.getD x.1 true=false/\x.1<ops.size:=by
     have y:x.1<ops.size:=by
      rcases Nat.lt_or_ge x.1 ops.size with h|h
      ·exact h
      ·rw[show cU ops x.1=default by simp[cU,C6,Array.getElem?_eq_none h]]at q
       cases q
     refine⟨?_,y⟩;rw[g x.1 y,kh,pF.2 ⟨x,O,rfl⟩];simp
    have hx0:ops[x.1]? = some ops[x.1]:=Y5 H.2;rw[aZ hx0]at q;obtain⟨d,hd,hdd⟩:=GG q;have hxk:x.1≠k.1:=λe=>by
     have:pJ l k.1=true:=pF.2 ⟨x,O,e⟩;rw[this]at q2;cases q2
    refine kH (Pt (d:=d) (xO r3.1) r3.2 (λe=>?_) (λhlk=>?_) (n.dst x.1 _ d q hx0 H.1 hd) w) λJ h1=>post J h1.1 (n.us f u b h1.2)
    ·unfold nI at a
     rw[e]at a;simp only at a;rw[hdd]at a;cases a
    ·have:=f.look x.1 k.1 _ _ d q hxk hx0 u hd hlk
     obtain⟨e,W,X,Y⟩:=cg.1 this;exact unl H.1 (Y ▸ b e W X)
theorem Au{sch:List (Nat × List Nat)}(h:By ops ds sch=true):QI ops ds (Rb sch)/\EC ops ds sch=true/\sch.length=ops.size/\∀j,j<ops.size->pJ sch j=true:=by
 unfold By at h;simp only[I0]at h;obtain⟨⟨t,o⟩,p⟩:=h;have q:=λj (k:j<ops.size)=>gh t k
 have r:∀(i j:Nat)(g f:Oper),i≠j->ops[i]? = some g->ops[j]? = some f->zO ops ds (Rb sch) i j=true:=λi j g f a b c=>by
  have:=q j (T3.1 c).1;simp only[I0]at this;have:=gh this.2 (T3.1 b).1;rw[show Nat.beq i j=false by rw[<-z5,Nat.beq_eq];exact a]at this;exact this
 refine⟨⟨λj f k e u w=>?_,λi j g f l n a b c=>?_,λi j g f d l a b c y D=>?_,λi j g f d l n a b c y u=>?_,λi j g f l n a b c=>?_,λj f T s l k A B=>?_⟩,p,C2 o,λj k=>?_⟩
 ·have:=q j (T3.1 k).1
  rw[aZ k]at this;simp only[I0]at this;have:=Y3.1 this.1.1.1 e (by simpa using u);rw[w]at this;simpa[Nat.blt_eq] using this
 ·have:=r i j g f a b c
  unfold zO at this;rw[aZ b,aZ c,l,n]at this;simp only[cond_true,I0,X5]at this;rcases this.1.1 with(h|h)|h
  ·exact .inl h
  ·exact .inr (.inl h)
  ·exact .inr (.inr h)
 ·have:=r i j g f a b c
  unfold zO at this;rw[aZ b,aZ c,l]at this;have C:tM ops i j=true:=by
   unfold tM;rw[aZ b,y];simp only;rw[aZ c];exact X3.2 ⟨d,D,Nat.beq_refl d⟩
  rw[C]at this;cases n:nI ds f with
  | true=>
   rw[n]at this;simp only[cond_true,I0,Bool.not_true,Bool.false_or]at this;exact this.1.2
  | false=>
   rw[n]at this;simp only[cond_true,cond_false,I0,Bool.not_true,Bool.false_or]at this;exact this.2
 ·have:=r i j g f a b c
  unfold zO at this;rw[aZ b,aZ c,l,n,y,u]at this;simp[Nat.beq_refl]at this
 ·have:=r i j g f a b c
  unfold zO at this;rw[aZ b,aZ c,l,n]at this;simp only[cond_true,cond_false,I0,X5]at this;rcases this.1 with(h|h)|h
  ·exact .inl h
  ·exact .inr (.inl h)
  ·exact .inr (.inr h)
 ·have:=q j (T3.1 k).1
  rw[aZ k]at this;simp only[I0]at this;have:=this.1.2;rw[l,A]at this;simp only[B,Bool.not_true,Bool.false_or]at this;exact this
 ·have:=q j k
  simp only[I0]at this;exact this.1.1.2
theorem pk{l:List Nat}{j:Nat} : Aj l j=true↔j∈l:=by
 unfold Aj;rw[X3];exact⟨λ⟨x,a,b⟩=>C2 b ▸ a,λh=>⟨j,h,Nat.beq_refl j⟩⟩
theorem EJ{p:Nat->Prop} : ∀{l:List Nat}{i:Nat},Rn p i l->∀j,j∈i::l->p j
 | [],i,h,j,a=>by rw[I1.1 a];exact h
 | k::l,i,h,j,a=>by
  rcases List.mem_cons.1 a with rfl|a
  ·exact h.1
  ·exact EJ h.2 j a
theorem EZ{l:List Nat}{K:Prop}{p:Nat->Prop}(h:Ri l K p):(l=[]->K)/\∀j∈l,p j:=by
 cases l with
 | nil=>exact⟨λ_=>h,λj a=>by cases a⟩
 | cons i l=>exact⟨λe=>(by cases e),EJ h⟩
theorem qz{listed:Array Bool}{done:List Nat}(t:listed.size=ops.size)(b:∀j,j<ops.size->listed.getD j true=Aj done j)(q:∀k∈done,k<ops.size){j:Nat} : j∈Region.ready .any ops listed↔j∈Lw ops done:=by
 have d:∀i,listed.getD i false=Aj done i:=λi=>by
  by_cases n:i<ops.size
  ·rw[<-b i n]
   have f:i<listed.size:=ω
   simp[f]
  ·have f:listed.getD i false=false:=by simp[Array.getElem?_eq_none (show listed.size<=i by omega)]
   rw[f]
   symm
   rw[<-z5,pk];exact λr=>n (q i r)
 rw[mem_ready];unfold Lw;rw[C4,List.mem_range,I0];constructor
 ·rintro⟨l,o,p,g⟩
  have a:=(T3.1 p).1;refine⟨a,by rw[<-b j a,l];rfl,Y3.2 λe h=>?_⟩;rw[aZ p]at h;cases c:Region.binds .any e with
  | false=>rfl
  | true=>
   have:=g e (by simpa using h) c;rw[d]at this;simpa using this
 ·rintro⟨a,l,f⟩
  refine⟨by rw[b j a];simpa using l,ops[j],Y5 a,λe h c=>?_⟩;have:=Y3.1 f e (by rw[aZ (Y5 a)];simpa using h);rw[c]at this;rw[d];simpa using this
theorem P8{K:(Nat->AV)->Prop} : ∀(n:Nat)(done:List Nat)(listed:Array Bool)(F:Nat->AV),listed.size=ops.size->(∀j,j<ops.size->listed.getD j true=Aj done j)->(∀k∈done,k<ops.size)->PV P TE N ops K n done F->DQ P TE N ops [] K n listed F
 | 0,done,listed,F,c,a,d,h=>by
  obtain⟨o,q⟩:=EZ h;have l:Lw ops done=[]:=List.eq_nil_iff_forall_not_mem.2 λj b=>q j b
  exact⟨List.eq_nil_iff_forall_not_mem.2 λj b=>(by rw[qz c a d,l]at b;cases b),o l⟩
 | n+1,done,listed,F,c,a,d,h=>by
  obtain⟨o,q⟩:=EZ h;refine⟨λl=>o (List.eq_nil_iff_forall_not_mem.2 λj b=>(by rw[<-qz c a d,l]at b;cases b)),λi y=>?_⟩;have f:=(qz c a d).1 y;have t:=q i f;have g:i<ops.size:=List.mem_range.1 (C4.1 f).1;have u:ops[i]? = some ops[i]:=Y5 g;unfold tS;rw[u];simp only;rw[aZ u]at t;have A:nI [] ops[i]=false:=by unfold nI;split<;>rfl
  rw[C8 (by rw[A];decide)];refine kH t λB C=>⟨λp _ w=>?_,P8 n (i::done) _ B (by simpa using c) (λj b=>?_) (λk r=>?_) C⟩
  ·have:nI [] (cU ops p)=false:=by unfold nI;split<;>rfl
   rw[this]at w;cases w
  ·by_cases e:j=i
   ·subst e
    rw[show Aj (j::done) j=true from pk.2 (V1 ..)];simp[c,b]
   ·rw[getD_set_ne true (Ne.symm e),a j b]
    rw[U4,pk,pk,List.mem_cons];exact⟨.inr,λh=>h.resolve_left e⟩
  ·rcases List.mem_cons.1 r with rfl|r
   ·exact g
   ·exact d k r
theorem xu(g:∀t i,TE t=some i->cj P t i)(C:P.follows .mixedOrders=true){id:Nat}{tb:List (Nat × Nat × List Nat)}(b:mK tb id ops=true){K:(Nat->AV)->Prop}{Q:Exit->Act->World->Prop}(c:DD P TE N tb id ops K F)(D:St w0 M S0 N F a w)(E:∀F' U V,K F'->St w0 M S0 N F' U V->Q .normal U V):(Code.region id ops true).wp P Q a w:=by
 unfold mK at b;unfold DD at c;cases q:vV tb id with
 | none=>rw[q]at b;cases b
 | some p=>
  obtain⟨m,L⟩:=p;rw[q]at b c;simp only at b c;cases r:Nat.ble 65536 m with
  | true=>
   rw[r]at c;refine wp_region_any C ?_;have l:St w0 M S0 N F a {w with drawn:=w.drawn+1}:=by
    obtain⟨S,φ,h⟩:=D;exact⟨S,φ,h.more (w1:={w with drawn:=w.drawn+1}) (λ_ _ h=>h) (λ_ _ h=>.inl h) ⟨rfl,rfl,rfl,z3 _,λ_ _ _=>rfl,λ_ _ _ _=>rfl,λ_ _ _ _=>rfl⟩⟩
   refine qq g (ds:=[]) E ops.size (Array.replicate ops.size false) _ a _ ?_ l;exact P8 ops.size [] _ F (by simp) (λj n=>by simp[n,Aj]) (λk Z=>by cases Z) c
  | false=>
  rw[r]at b c;simp only[cond_false]at b c;cases u:Nat.ble 256 m with
  | false=>
   rw[u]at b c;exact AE g C b c D E
  | true=>
   rw[u]at b c;simp only[cond_true,Hd]at b c;generalize L.take (m - 256)=ds at b c;generalize dec (L.drop (m - 256))=sch at b c;obtain⟨W,y,e,A⟩:=Au b;refine wp_region_any C ?_;have l:St w0 M S0 N (Ab.clr ds F) a {w with drawn:=w.drawn+1}:=by
    have h1:=D.clr ds;obtain⟨S,φ,h⟩:=h1;exact⟨S,φ,h.more (w1:={w with drawn:=w.drawn+1}) (λ_ _ h=>h) (λ_ _ h=>.inl h) ⟨rfl,rfl,rfl,z3 _,λ_ _ _=>rfl,λ_ _ _ _=>rfl,λ_ _ _ _=>rfl⟩⟩
   refine qq g (ds:=ds) E ops.size (Array.replicate ops.size false) _ a _ ?_ l;have B:∀d,ds.any (Nat.beq d)=true->∀t,(Ab.clr ds F t).uses d=false:=λd G t=>by
    rw[Bv];cases X:ds.any (λd=>(F t).uses d) with
    | true=>rfl
    | false=>
     simp only[cond_false];cases hu:(F t).uses d with
     | false=>rfl
     | true=>
      obtain⟨d',f,he⟩:=X3.1 G;have H:=C2 he;subst H;have:ds.any (λd=>(F t).uses d)=true:=X3.2 ⟨_,f,hu⟩;rw[this]at X;cases X
   rw[<-e];refine BL W sch _ _ y (by simp[e]) (λj n=>by rw[A j n];simp[e,n]) ⟨λj o d J Y _ G t=>?_,λj o T s J Y _ _ g2 g3 t=>B s (W.mvs j o T s J Y g2 g3) t⟩ (λj oj n hl=>by
     have O:=(T3.1 n).1;simp[e,O]at hl) c
   obtain⟨d',f,R⟩:=GG J;rw[G]at f;simp only[X0]at f;subst f;exact B d R t
end
def jB:List (Option Nat)->Kd
 | [ag]=>kP ag
 | a=>.tup a
def oV:ResultVar->Nat
 | .tmp t=>t
 | .cell t _=>t
def DR(tmps:Array Value):ResultVar->Sem Value
 | .tmp t=>pure (tmps.getD t undef)
 | .cell a t=>do loadVar t (<-asAddr (tmps.getD a undef))
def resOne(TE:Nat->Option TI)(F:Nat->AV)(r:ResultVar)(K:Option Nat->List C->Prop):Prop:=
 match r with
 | .tmp t=>(match F t with
   | .hold .one cs=>K none cs
   | .hold .agg cs=>K (some cs.length) cs
   | _=>False)
 | .cell t T=>match TE T with
  | some i=>bif i.agg || Nat.beq i.size 1 then(match F t with
    | .hold .box cs=>bif Nat.beq cs.length i.size then K (pH i) cs else False
    | _=>False) else False
  | none=>False
def resA(TE:Nat->Option TI)(F:Nat->AV):List ResultVar->List Nat->(List (Option Nat)->List C->Prop)->Prop
 | [],_,K=>K [] []
 | r::rs,seen,K=>bif seen.any (Nat.beq (oV r)) then False else resOne TE F r λb c=>resA TE F rs (oV r::seen) λd a=>K (b::d) (c++a)
def Rk:RA->AV
 | .val a cs=>.hold (kP a) cs
 | .ptr cs=>.iref cs 0
 | .fn Ok=>.fv Ok
def uH:Nat->List RA->List (Nat × AV)
 | _,[]=>[]
 | i,A::As=>(i,Rk A)::uH (i+1) As
inductive Kk:C->C->Prop
 |rfl_ (c:C):Kk c c
 |z_:Kk .z (.s .own [])
 |own_ (rows rows':List (List C)) (hl:rows.length=rows'.length) (hk:∀(i:Nat)(r r':List C),rows[i]? = some r->rows'[i]? = some r'->r.length=r'.length)
   (hr:∀(i j:Nat)(r r':List C)(c c':C),rows[i]? = some r->rows'[i]? = some r'->r[j]? = some c->r'[j]? = some c'->Kk c c'):Kk (.s .own rows) (.s .own rows')
def L0(cs a:List C):Prop:=cs.length=a.length/\∀(j:Nat)(c b:C),cs[j]? = some c->a[j]? = some b->Kk c b
theorem L0.nil:L0 [] []:=⟨rfl,λj c a h=>by simp at h⟩
theorem L0.cons{c e:C}{cs a:List C}(h:Kk c e)(f:L0 cs a):L0 (c::cs) (e::a):=by
 refine⟨by simp[f.1],λj y g b d=>?_⟩;cases j with
 | zero=>simp at b d;subst b d;exact h
 | succ j=>exact f.2 j y g (by simpa using b) (by simpa using d)
theorem Kk.rep{n:Nat}{r k:List C}(h:L0 r k):Kk (.s .own (List.replicate n r)) (.s .own (List.replicate n k)):=by
 refine .own_ _ _ (by simp) (λi a b d e=>?_) (λi j a b c p d e l o=>?_)
 ·have f:=List.mem_replicate.1 (Z1 d)
  have g:=List.mem_replicate.1 (Z1 e);rw[f.2,g.2];exact h.1
 ·have f:=List.mem_replicate.1 (Z1 d)
  have g:=List.mem_replicate.1 (Z1 e);rw[f.2]at l;rw[g.2]at o;exact h.2 j c p l o
theorem Pf{w:World}{S Y:ac}{c:C}{v:Value}(h:eC w S Y c v):∀y,Kk c y->eC w S Y y v:=by
 induction h with
 | z F a=>
  intro y l;cases l with
  | rfl_=>exact .z _ _
  | z_=>exact .nil _ _ _ trivial
 | nil F o a T=>
  intro y l;cases l with
  | rfl_=>exact .nil _ _ _ T
  | own_ d e L=>obtain rfl:e=[]:=X6 (by simpa using L.symm);exact .nil _ _ _ trivial
 | own F o g k n B d u f T Q R q E K hu hf l M ih=>
  intro y U;cases U with
  | rfl_=>exact .own _ o g k n B d u f T Q R q E K hu hf l M
  | own_ d e L N V=>
   have G:∀(i:Nat)(D:List C),e[i]? = some D->∃r,d[i]? = some r:=λi D H=>⟨_,I2 (by have:=(O2.1 H).1;omega)⟩
   refine .own _ .own g k n B e u f trivial (L.symm.trans Q) (λD W=>?_) q E K hu hf l (λi j D y H hj=>?_)
   ·obtain⟨i,H⟩:=List.mem_iff_getElem?.1 W
    obtain⟨r,t⟩:=G i D H;rw[<-N i r D t H];exact R r (Z1 t)
   ·obtain⟨r,t⟩:=G i D H
    have hlen:=N i r D t H;have hjl:=(O2.1 hj).1;have O:r[j]? = some (r[j]'(ω)):=I2 ω;exact ih i j r _ t O _ (V i j r D _ y t H O hj)
 | v F x X=>intro y l;cases l;exact .v _ _ X
 | x F u X=>intro y l;cases l;exact .x _ _ X
 | imm F g Z k n B d u Q R q hS M ih=>intro y l;cases l;exact .imm _ g Z k n B d u Q R q hS M
 | m F b p es A K hb he hv J=>intro y l;cases l;exact .m _ b p es A K hb he hv J
 | it F r b since c0 p seen A cur left K V hb J M hv L P=>intro y l;cases l;exact .it _ r b since c0 p seen A cur left K V hb J M hv L P
def WK(cs a:List C):Prop:=Kn cs a\/L0 cs a
inductive j9(k k':Kd)(cs cs':List C):Prop
 |mk_ (h:k=k'/\WK cs cs')
theorem km:∀(cs:List C),Kn cs cs
 | []=>trivial
 | c::cs=>by
  refine⟨?_,km cs⟩;cases c with
  | s o a=>cases o<;>rfl
  | x=>trivial
  | _=>rfl
theorem j9.mk{k b:Kd}{cs a:List C}(h1:k=b)(c:cs=a):j9 k b cs a:=by refine .mk_ ?_;exact⟨h1,.inl (c ▸ km cs)⟩
theorem j9.wk{k b:Kd}{cs a:List C}(h1:k=b)(c:Kn cs a):j9 k b cs a:=.mk_ ⟨h1,.inl c⟩
theorem j9.dk{k b:Kd}{cs a:List C}(h1:k=b)(c:L0 cs a):j9 k b cs a:=.mk_ ⟨h1,.inr c⟩
theorem j9.out{k b:Kd}{cs a:List C}(h:j9 k b cs a):k=b/\WK cs a:=by obtain⟨h⟩:=h;exact h
theorem WK.len{cs a:List C}(h:WK cs a):cs.length=a.length:=h.elim (λh=>(sg h).1) (λh=>h.1)
theorem WK.row{w:World}{S Y:ac}{cs c:List C}{u:Nat->Value}(a:WK cs c)(h:cP w S Y cs u):cP w S Y c u:=by
 rcases a with a|a
 ·exact Ao a h
 ·obtain⟨f,k,l,n⟩:=h
  refine⟨f,λj i b=>?_,λj b=>l j (by rw[a.1];exact b),λj o b g=>n j o (by rw[a.1];exact b) (by rw[a.1];exact g)⟩;have d:=(O2.1 b).1;have e:cs[j]? = some (cs[j]'(by rw[a.1];exact d)):=I2 (by rw[a.1];exact d);exact Pf (k j _ e) i (a.2 j _ i e b)
def NW(TE:Nat->Option TI)(c:List ResultVar)(k:Kd)(rcs:List C):Exit->(Nat->AV)->Prop:=λe F=>
 match e with
 | .normal=>resA TE F c [] λa b=>j9 (jB a) k b rcs
 | .ret=>resA TE F c [] λa b=>j9 (jB a) k b rcs
 | _=>False
def NY(F:Nat->AV)(t:Nat)(rcs:List C):Prop:=
 match F t with
 | .hold .box cs=>j9 .box .box cs rcs
 | .ref a 0 []=>(match F a with
   | .hold .box cs=>j9 .box .box cs rcs
   | _=>False)
 | _=>False
def QP(t:Nat)(rcs:List C):Exit->(Nat->AV)->Prop:=λe F=>
 match e with
 | .normal=>NY F t rcs
 | .ret=>NY F t rcs
 | _=>False
section
variable{P:Program}{w0 w w1:World}{M S0 S:ac}{N:fp}{φ:Nat->ac}{F:Nat->AV}{a:Act}{TE:Nat->Option TI}
theorem bi.resOne(h:bi w0 M S0 N S φ F a w)(u:∀t i,TE t=some i->cj P t i){r:ResultVar}{K:Option Nat->List C->Prop}(b:resOne TE F r K) :
  ∃ag cs v,K ag cs/\bE w S (φ (oV r)) ag cs v/\(DR a.tmps r).run P w=.ok v w:=by
 cases r with
 | tmp t=>
  have e:=h.slot t;simp only[Ab.resOne]at b;cases f:F t with
  | hold k cs=>
   rw[f]at b e;obtain⟨G,Y,H,l,J,E,n⟩:=e;cases k with
   | one=>exact⟨none,cs,tvs a t,b,⟨E,_,rfl,n.mono (λ_ _ h=>h) l⟩,rfl⟩
   | agg=>
    obtain⟨arr,p,y⟩:=E;refine⟨some cs.length,cs,tvs a t,b,⟨rfl,bY w .agg (tvs a t),?_,n.mono (λ_ _ h=>h) l⟩,rfl⟩;rw[p];have:=pe arr;rw[y]at this;exact this
   | _=>exact b.elim
  | _=>rw[f]at b;exact b.elim
 | cell t T=>
  have e:=h.slot t;simp only[Ab.resOne]at b;split at b
  case h_2=>exact b.elim
  rename_i i L;have O:=u _ _ L;cases q:(i.agg || Nat.beq i.size 1) with
  | false=>rw[q]at b;exact b.elim
  | true=>
   rw[q]at b;simp only[cond_true]at b;cases f:F t with
   | hold k cs=>
    rw[f]at b e;cases k with
    | box=>
     simp only at b;cases A:Nat.beq cs.length i.size with
     | false=>rw[A]at b;exact b.elim
     | true=>
      rw[A]at b;have B:=C2 A;obtain⟨G,Y,H,l,J,⟨g,o,p,Q⟩,n⟩:=e;have c:∀d,d<i.size->cel w g (o+d)=some (bY w .box (tvs a t) d):=λd U=>by
       obtain⟨-,⟨z,R⟩,-⟩:=Q d ω;rw[p];simp only[bY,R,Option.getD_some]
      have j:=wn (w:=w) O q c;refine⟨_,cs,_,b,⟨by rw[nQ q];exact B,_,rfl,n.mono (λ_ _ h=>h) l⟩,?_⟩;have D:a.tmps.getD t undef=.pointer (some ⟨g,o,none⟩):=p;simp only[DR,D,asAddr];exact j
    | _=>exact b.elim
   | _=>rw[f]at b;exact b.elim
theorem FR{ag:Option Nat}{cs:List C}{v:Value}{Y:ac}(h:bE w S Y ag cs v):∃u,v.cells.toList=(List.range cs.length).map u/\cP w S Y cs u/\v=mkv ag u:=by
 obtain⟨a,u,rfl,b⟩:=h;refine⟨u,?_,b,rfl⟩;rw[pf (λe=>by subst e;exact b.one (by simp at a;omega)),a]
theorem FM{p q:ac}{cs l:List C}{u D:Nat->Value}(h:cP w S p cs u)(h':cP w S q l D)(E:∀b o,p b o->¬q b o) :
  cP w S (λb o=>p b o\/q b o) (cs++l) (λj=>if j<cs.length then u j else D (j - cs.length)):=by
 obtain⟨f,F,r,G⟩:=h;obtain⟨H,t,k,y⟩:=h';refine⟨λj=>if j<cs.length then f j else H (j - cs.length),λj c i=>?_,λj i b o g=>?_,λj n i A B b o g a=>?_⟩
 ·by_cases e:j<cs.length
  ·simp only[C9 e];rw[I4 e]at i;exact F j c i
  ·simp only[C8 e];rw[O4 ω]at i;exact t _ c i
 ·rw[I3]at i
  by_cases e:j<cs.length
  ·rw[C9 e]at g;exact .inl (r j e b o g)
  ·rw[C8 e]at g;exact .inr (k _ ω b o g)
 ·rw[I3]at i A
  by_cases e:j<cs.length
  ·rw[C9 e]at g
   by_cases d:n<cs.length
   ·rw[C9 d]at a;exact G j n e d B b o g a
   ·rw[C8 d]at a;exact E b o (r j e b o g) (k _ ω b o a)
  ·rw[C8 e]at g
   by_cases d:n<cs.length
   ·rw[C9 d]at a;exact E b o (r n d b o a) (k _ ω b o g)
   ·rw[C8 d]at a;exact y _ _ ω ω ω b o g a
theorem bi.resA(h:bi w0 M S0 N S φ F a w)(l:∀t i,TE t=some i->cj P t i):∀{E:List ResultVar}{seen:List Nat}{K:List (Option Nat)->List C->Prop},resA TE F E seen K->
  ∃sh cs vs u,K sh cs/\(E.mapM (DR a.tmps)).run P w=.ok vs w/\wQ sh vs/\sh.length=E.length/\pO sh=cs.length/\
   (vs.flatMap λv=>v.cells.toList)=(List.range cs.length).map u/\(∀ag,sh=[ag]->∃v,vs=[v]/\bE w S (λb o=>∃t,t∉seen/\φ t b o) ag cs v)/\cP w S (λb o=>∃t,t∉seen/\φ t b o) cs u
 | [],seen,K,f=>⟨[],[],[],λ_=>undef,f,rfl,trivial,rfl,rfl,rfl,λ_ h=>by simp at h,cP.nil _ _ _ _⟩
 | r::E,seen,K,f=>by
  simp only[Ab.resA]at f;cases c:seen.any (Nat.beq (oV r)) with
  | true=>rw[c]at f;exact f.elim
  | false=>
   rw[c]at f;simp only[cond_false]at f;have p:oV r∉seen:=λH=>by
    have:seen.any (Nat.beq (oV r))=true:=X3.2 ⟨_,H,Nat.beq_refl _⟩;rw[this]at c;cases c
   obtain⟨ag,cs,v,f,G,q⟩:=h.resOne l f;obtain⟨sh,d,vs,X,Y,k,J,L,U,hcells,-,y⟩:=bi.resA h l f;obtain⟨u,O,V,A⟩:=FR G;have Z:∀b o,φ (oV r) b o->¬∃t,t∉oV r::seen/\φ t b o:=λb o g ⟨t,Q,R⟩=>h.dis _ _ (λe=>Q (by rw[<-e];simp)) b o g R
   refine⟨ag::sh,cs++d,v::vs,λj=>if j<cs.length then u j else X (j - cs.length),Y,?_,?_,by simp[L],?_,?_,?_,?_⟩
   ·rw[List.mapM_cons]
    simp only[Sem.run_bind,q,Result.andThen_ok,k,Sem.run_pure]
   ·obtain⟨hl,-⟩:=G
    cases ag with
    | none=>
     refine⟨?_,J⟩;rw[A];have W:(u 0).oneCell'=true:=V.one (by simp at hl;omega);show(u 0).cells = #[u 0];cases hu:u 0<;>first|(rw[hu]at W;cases W;done)|rfl
    | some n=>exact⟨⟨_,by rw[A];rfl,by simp⟩,J⟩
   ·rw[qM,I3,U,G.1]
   ·simp only[I6,O,hcells,I3]
    apply List.ext_getElem?;intro j;by_cases T:j<cs.length
    ·rw[I4 (by simpa using T)];simp[T,Nat.lt_add_right]
    ·rw[O4 (by simp;omega)]
     by_cases B:j - cs.length<d.length
     ·simp[T,B,show j<cs.length+d.length by omega]
     ·simp[B,show ¬j<cs.length+d.length by omega]
   ·intro ag' D
    simp only[List.cons.injEq]at D;obtain⟨rfl,rfl⟩:=D;cases vs with
    | cons _ _=>exact J.elim
    | nil=>
     have:d=[]:=X6 (by simpa[pO] using U.symm);subst this;exact⟨v,rfl,by rw[List.append_nil];exact G.mono (λ_ _ h=>h) (λb o g=>⟨_,p,g⟩)⟩
   ·exact(FM V y Z).mono (λ_ _ h=>h) (λb o g=>g.elim (λg=>⟨_,p,g⟩) (λ⟨t,Q,g⟩=>⟨t,λH=>Q (v5 _ H),g⟩))
theorem sY:∀{A:List RA}{vs:List Value}(i:Nat),xU w S A vs->∀t,(lay (uH i A) t=.dead)\/(∃a v,i<=t/\vs[t - i]? = some v/\lay (uH i A) t=Rk a/\oK w S a v)
 | [],_,i,_,t=>.inl rfl
 | a::A,[],i,h,t=>h.elim
 | a::A,v::vs,i,h,t=>by
  simp only[uH,lay];cases b:Nat.beq t i with
  | true=>
   have:=C2 b;subst this;exact .inr ⟨a,v,z3 _,by simp,rfl,h.1⟩
  | false=>
   have d:t≠i:=λe=>by subst e;rw[Nat.beq_refl]at b;cases b
   rcases sY (i+1) h.2 t with c|⟨f,g,c,j,k⟩
   ·exact .inl c
   ·refine .inr ⟨f,g,ω,?_,k⟩
    rw[show t - i=(t - (i+1))+1 by omega];simpa using j
theorem oK.slot{A:RA}{v:Value}(h:oK w S A v){tv:Nat->Value} : cB w S F tv NO (Rk A) v:=by
 cases A with
 | val f a=>exact bE.slot h
 | ptr a=>obtain⟨g,b,u,c,d,e⟩:=h;exact⟨g,b,u,by rw[c,Nat.add_zero],d,e⟩
 | fn Ok=>exact h
theorem BJ:∀{A:List RA}{vs:List Value},xU w S A vs->A.length=vs.length
 | [],[],_=>rfl
 | _::_,_::_,h=>by simp[BJ h.2]
 | [],_::_,h=>h.elim
 | _::_,[],h=>h.elim
theorem Kg{D : Nat -> Array Oper -> ((Nat -> AV) -> Prop) -> (Nat -> AV) -> Prop}{f : Nat}{d : Func}{c : Code}{sh : Bool}{A : List RA}{k : Kd}{rcs : List C}(M : ∀t i, TE t = some i -> cj P t i)(hf : P.funcs[f]? = some d)(hn : (d.name == "runtime.NumGoroutine") = false)(g:d.body=some c){ck:Nat->Array Oper->Bool}(hD:vS P N ck D)(hc:fT ck c=true)(hN:A.length+(d.ntmps - A.length)=N.n)(hkp:N.kp=[])(hsh:sh=true\/gH rcs)(W:aw P TE N D c (NW TE d.results.toList k rcs) (lay (uH 0 A))):ao P f sh A k rcs:=by
 refine⟨⟨d,hf,hn,by rw[g];rfl⟩,λw S y hS hA=>?_⟩;have hlen:=BJ hA;refine calls_of_wp hf g ?_;have hst:St w NO S N (lay (uH 0 A)) {tmps:=y.toArray++Array.replicate (d.ntmps - y.toArray.size) undef,defers:=[]} w:=by
  refine⟨S,λ_=>NO,λt=>?_,λ_ _ _ _ _ h=>h.elim,λ_ _ _ h=>h.elim,λ_ _ _ h=>h.elim,λ_ _ h=>h,λb o h=>⟨hS b o h,.inl h⟩,CX _ _,by simp;omega,rfl,λp W=>by rw[hkp]at W;cases W⟩;rcases sY 0 hA t with r|⟨A0,v,-,B,G,h4⟩
  ·rw[r];trivial
  ·rw[G]
   have hv:tvs {tmps:=y.toArray++Array.replicate (d.ntmps - y.toArray.size) undef,defers:=[]} t=v:=by
    have hlt:=(O2.1 B).1;simp only[tvs,C6];rw[Array.getElem?_append_left (by simpa using hlt)];simp only[List.getElem?_toArray];rw[show y[t]? = some v by simpa using B];rfl
   rw[hv];exact h4.slot
 refine iz M hD c hc _ _ _ _ w W hst λe F' K l he hs'=>?_
 obtain⟨S',φ',h⟩:=hs';have fin:resA TE F' d.results.toList [] (λsh O=>j9 (jB sh) k O rcs)->K.defers=[]/\∃v,(results d K.tmps).run P l=.ok v l/\(∃v',Ending.returned v=.returned v'/\bB NO w l/\∃X S1:ac,(∀b o,X b o->b<l.heap.size/\w.heap.size<=b)/\
     (∀b o,S1 b o->(sh=true/\S b o)\/(b<l.heap.size/\w.heap.size<=b))/\(∀b o,X b o->¬S1 b o)/\fS l NO k rcs.length v'/\cP l S1 X rcs (bY l k v')):=by
  intro hr;obtain⟨shs,O,a,u,Q,R,E,hln,T,hcells,q,U⟩:=h.resA M hr;obtain⟨rfl,V⟩:=Q.out;refine⟨h.defers,?_⟩;have J:(results d K.tmps).run P l=.ok (if h:a.toArray.size=1 then a.toArray[0] else .tuple a.toArray) l:=by
   have e:results d K.tmps=(do let y <-d.results.mapM (DR K.tmps);pure (if h:y.size=1 then y[0] else .tuple y)):=by
    unfold results
    congr 1
   rw[e,<-Array.toArray_toList (xs:=d.results),List.mapM_toArray];simp only[Sem.run_bind,Sem.run_map,R,Result.andThen_ok,Sem.run_pure]
  refine⟨_,J,_,rfl,h.old,λb o=>∃t,φ' t b o,λb o=>(sh=true/\S' b o)\/(S' b o/\w.heap.size<=b),λb o ⟨t,g⟩=>⟨(h.ex t b o g).1,(h.ex t b o g).2.resolve_right (λh=>h)⟩,λb o g=>?_,λb o ⟨t,g⟩ hb'=>h.disS t b o g (hb'.elim (·.2) (·.1)),?_⟩
  ·rcases g with⟨r,B⟩|⟨r,B⟩
   ·rcases(h.sup b o B).2 with G|G|G
    ·exact .inl ⟨r,G⟩
    ·exact .inr ⟨(h.sup b o B).1,G⟩
    ·exact G.elim
   ·exact .inr ⟨(h.sup b o r).1,B⟩
  ·have L:fS l NO (jB shs) O.length (if h:a.toArray.size=1 then a.toArray[0] else .tuple a.toArray)/\cP l S' (λb o=>∃t,φ' t b o) O (bY l (jB shs) (if h:a.toArray.size=1 then a.toArray[0] else .tuple a.toArray)):=by
    have H:∀b o,(∃t,t∉([]:List Nat)/\φ' t b o)->∃t,φ' t b o:=λb o ⟨t,_,g⟩=>⟨t,g⟩
    match shs,E,q,T with
    | [],E,_,T=>
     cases a with
     | cons _ _=>exact E.elim
     | nil=>
      have:O=[]:=X6 (by simpa[pO] using T.symm);subst this;exact⟨⟨_,rfl,trivial,rfl⟩,cP.nil _ _ _ _⟩
    | [Z],_,q,_=>
     obtain⟨v,rfl,hv⟩:=q Z rfl;have:=(hv.mono (λ_ _ h=>h) H).slot (F:=F') (tv:=tvs K);obtain⟨X1,Y,r,B,G,h4,h5⟩:=this;refine⟨?_,h5.mono (λ_ _ h=>h) B⟩;cases Z<;>exact h4
    | Z::ag2::sh,E,_,T=>
     have hsz:¬a.toArray.size=1:=by
      match a,E with
      | [],E=>simp
      | [v],E=>cases Z<;>cases ag2<;>exact E.2.elim
      | _::_::_,_=>simp
     rw[dif_neg hsz];refine⟨⟨_,rfl,E,T⟩,(U.mono (λ_ _ h=>h) H).congr λj hj=>?_⟩;simp only[bY,jB,lW,hcells];simp[List.getD,hj]
   replace L:=CJ L.1 (V.row L.2);refine⟨by rw[<-V.len];exact L.1,?_⟩;rcases hsh with r|r
   ·exact L.2.mono (λb o g=>.inl ⟨r,g⟩) (λ_ _ h=>h)
   ·exact(L.2.fresh r).mono (λ_ _ h=>h.elim) (λ_ _ h=>h)
 cases e with
 | normal=>exact fin he
 | ret=>exact fin he
 | _=>exact he.elim
theorem HK{D : Nat -> Array Oper -> ((Nat -> AV) -> Prop) -> (Nat -> AV) -> Prop}{f t : Nat}{j : Func}{c : Code}{A : List RA}{rcs : List C}(R : ∀t i, TE t = some i -> cj P t i)(hf : P.funcs[f]? = some j)(hn : (j.name == "runtime.NumGoroutine") = false)(a:j.body=some c){ck:Nat->Array Oper->Bool}(hD:vS P N ck D)(hc:fT ck c=true)(hN:A.length+(j.ntmps - A.length)=N.n)(T:N.kp=[])(hr:j.results = #[.tmp t])(K:aw P TE N D c (QP t rcs) (lay (uH 0 A))):qt P f true A .box rcs:=by
 refine⟨⟨j,hf,hn,by rw[a];rfl⟩,λw S E hS hA=>?_⟩;have hlen:=BJ hA;refine calls_of_wp hf a ?_;have U:St w NO S N (lay (uH 0 A)) {tmps:=E.toArray++Array.replicate (j.ntmps - E.toArray.size) undef,defers:=[]} w:=by
  refine⟨S,λ_=>NO,λt=>?_,λ_ _ _ _ _ h=>h.elim,λ_ _ _ h=>h.elim,λ_ _ _ h=>h.elim,λ_ _ h=>h,λb o h=>⟨hS b o h,.inl h⟩,CX _ _,by simp;omega,rfl,λp K=>by rw[T]at K;cases K⟩;rcases sY 0 hA t with L|⟨A0,v,-,F,M,V⟩
  ·rw[L];trivial
  ·rw[M]
   have O:tvs {tmps:=E.toArray++Array.replicate (j.ntmps - E.toArray.size) undef,defers:=[]} t=v:=by
    have W:=(O2.1 F).1;simp only[tvs,C6];rw[Array.getElem?_append_left (by simpa using W)];simp only[List.getElem?_toArray];rw[show E[t]? = some v by simpa using F];rfl
   rw[O];exact V.slot
 refine iz R hD c hc _ _ _ _ w K U λe F' y q Z hs'=>?_
 obtain⟨S',φ',h⟩:=hs';have fin:NY F' t rcs->y.defers=[]/\∃v,(results j y.tmps).run P q=.ok v q/\(∃v',Ending.returned v=.returned v'/\bB NO w q/\∃X S1:ac,(∀b o,X b o->b<q.heap.size/\w.heap.size<=b)/\
     (∀b o,S1 b o->(true=true/\S b o)\/(b<q.heap.size/\w.heap.size<=b))/\(∀b o,X b o->¬S1 b o)/\∃B Y:ac,(∀b o,B b o->X b o)/\(∀b o,Y b o->X b o)/\(∀b o,B b o->¬Y b o)/\fS q B .box rcs.length v'/\cP q S1 Y rcs (bY q .box v')):=by
  intro k;have core:∃(d:Nat)(r:List C),tvs y t=tvs y d/\F' d=.hold .box r/\j9 .box .box r rcs:=by
   unfold NY at k;split at k
   ·rename_i r u
    exact⟨t,r,rfl,u,k⟩
   ·rename_i d hF2
    split at k
    case h_2=>exact k.elim
    rename_i r u;refine⟨d,r,?_,u,k⟩;have G:=h.slot t;rw[hF2]at G;obtain⟨k0,cs0,r0,j0,g0,o0,e1,-,Q,e4⟩:=G;have H:=h.slot d;rw[u]at H;rw[u]at e1;simp only[AV.hold.injEq]at e1;obtain⟨rfl,rfl⟩:=e1;obtain⟨B,Y,L,F,M,⟨g,o,O,-⟩,h5⟩:=H;rw[O]at Q;simp only[plc,oN,t5,X0,Prod.mk.injEq]at Q;rw[e4,O,<-Q.1,<-Q.2]
    rfl
   ·exact k.elim
  obtain⟨d,r,htt,u,k⟩:=core;have J:=k.out.2;have H:=h.slot d;rw[u]at H;obtain⟨B,Y,L,F,M,V,h5⟩:=H;refine⟨h.defers,tvs y d,?_,tvs y d,rfl,h.old,φ' d,λb o=>S' b o/\(S b o\/w.heap.size<=b),λb o a=>⟨(h.ex d b o a).1,(h.ex d b o a).2.resolve_right (λh=>h)⟩,λb o a=>?_,λb o a hb'=>h.disS d b o a hb'.1,B,Y,L,F,M,?_,?_⟩
  ·rw[<-htt];simp[results,hr,tvs]
  ·rcases a.2 with l|l
   ·exact .inl ⟨rfl,l⟩
   ·exact .inr ⟨(h.sup b o a.1).1,l⟩
  ·rw[<-J.len];exact V
  ·exact(J.row h5).mono (λb o a=>⟨a,by
     rcases(h.sup b o a).2 with l|l|l
     · exact .inl l
     · exact .inr l
     · exact l.elim⟩) (λ_ _ h=>h)
 cases e with
 | normal=>exact fin Z
 | ret=>exact fin Z
 | _=>exact Z.elim
end
def DF(P:Program)(TE:Nat->Option TI)(N:fp)(tb:List (Nat × Nat × List Nat))(id:Nat)(ops:Array Oper)(K:(Nat->AV)->Prop)(F:Nat->AV):Prop:=
 match vV tb (id+1048576) with
 | some (t,offs)=>qT t offs (DD P TE N tb id ops K) F
 | none=>DD P TE N tb id ops K F
theorem qG{P:Program}{TE:Nat->Option TI}(a:∀t i,TE t=some i->cj P t i)(e:P.follows .mixedOrders=true)(N:fp)(tb:List (Nat × Nat × List Nat)):vS P N (mK tb) (DF P TE N tb):=
 λ_ _ b _ _ _ _ _ _ _ _ c f g=>by
  unfold DF at c;split at c
  ·obtain⟨j,h,d⟩:=wP c f
   exact xu a e b h d g
  ·exact xu a e b c f g
def GF:List (Nat × TI)->Nat->Option TI
 | [],_=>none
 | p::l,t=>bif Nat.beq t p.1 then some p.2 else GF l t
def Qi(P:Program):List (Nat × TI)->Prop
 | []=>True
 | p::l=>cj P p.1 p.2/\Qi P l
theorem E3{P:Program} : ∀{l:List (Nat × TI)},Qi P l->∀t i,GF l t=some i->cj P t i
 | [],_,t,i,h=>by cases h
 | p::l,b,t,i,h=>by
  simp only[GF]at h;cases a:Nat.beq t p.1 with
  | true=>
   rw[a]at h;simp only[cond_true,X0]at h;have:=C2 a;subst this h;exact b.1
  | false=>rw[a]at h;exact E3 b.2 t i h
def ti3:TI:=⟨1,8,[.v (.int .i64 0)],.sc (.int .i64)⟩
theorem tok3:cj Tryz.prog 3 ti3:=⟨by kernel_rfl,by simp[ti3,aJ,Value.oneCell'],⟨Tryz.underlying3,trivial⟩⟩
def ti4:TI:=⟨1,1,[.v (.bool false)],.sc .bool⟩
theorem tok4:cj Tryz.prog 4 ti4:=⟨by kernel_rfl,by simp[ti4,aJ,Value.oneCell'],⟨Tryz.underlying4,trivial⟩⟩
def ti2:TI:=⟨1,8,[.v (.int .i64 0)],.sc (.int .i64)⟩
theorem tok2:cj Tryz.prog 2 ti2:=⟨by kernel_rfl,by simp[ti2,aJ,Value.oneCell'],⟨Tryz.underlying2,trivial⟩⟩
def ti5:TI:=⟨1,1,[.v (.int .u8 0)],.sc (.int .u8)⟩
theorem tok5:cj Tryz.prog 5 ti5:=⟨by kernel_rfl,by simp[ti5,aJ,Value.oneCell'],⟨Tryz.underlying5,trivial⟩⟩
def ti6:TI:=⟨1,1,[.v (.int .u8 0)],.sc (.int .u8)⟩
theorem tok6:cj Tryz.prog 6 ti6:=⟨by kernel_rfl,by simp[ti6,aJ,Value.oneCell'],⟨Tryz.underlying6,trivial⟩⟩
def ti7:TI:=⟨4,24,[.v (.int .i64 0),.v (.int .i64 0),.v (.bool false),.v (.int .u8 0)],.st [(0,2),(1,3),(2,4),(3,6)]⟩
theorem tok7:cj Tryz.prog 7 ti7:=⟨by kernel_rfl,by simp[ti7,aJ,Value.oneCell'],⟨_,Tryz.underlying7,rfl⟩⟩
def ti8:TI:=⟨4,24,[.v (.int .i64 0),.v (.int .i64 0),.v (.bool false),.v (.int .u8 0)],.st [(0,2),(1,3),(2,4),(3,6)]⟩
theorem tok8:cj Tryz.prog 8 ti8:=⟨by kernel_rfl,by simp[ti8,aJ,Value.oneCell'],⟨_,Tryz.underlying8,rfl⟩⟩
def ti9:TI:=⟨1,16,[.v (.string ⟨#[]⟩)],.sc .string⟩
theorem tok9:cj Tryz.prog 9 ti9:=⟨by kernel_rfl,by simp[ti9,aJ,Value.oneCell'],⟨Tryz.underlying9,trivial⟩⟩
def ti10:TI:=⟨1,16,[.v (.string ⟨#[]⟩)],.sc .string⟩
theorem tok10:cj Tryz.prog 10 ti10:=⟨by kernel_rfl,by simp[ti10,aJ,Value.oneCell'],⟨Tryz.underlying10,trivial⟩⟩
def ti11:TI:=⟨1,16,[.v (.string ⟨#[]⟩)],.sc .string⟩
theorem tok11:cj Tryz.prog 11 ti11:=⟨by kernel_rfl,by simp[ti11,aJ,Value.oneCell'],⟨Tryz.underlying11,trivial⟩⟩
def ti12:TI:=⟨1,8,[.v (.int .u64 0)],.sc (.int .u64)⟩
theorem tok12:cj Tryz.prog 12 ti12:=⟨by kernel_rfl,by simp[ti12,aJ,Value.oneCell'],⟨Tryz.underlying12,trivial⟩⟩
def ti13:TI:=⟨2,24,[.v (.string ⟨#[]⟩),.v (.int .u64 0)],.st [(0,9),(1,12)]⟩
theorem tok13:cj Tryz.prog 13 ti13:=⟨by kernel_rfl,by simp[ti13,aJ,Value.oneCell'],⟨_,Tryz.underlying13,rfl⟩⟩
def ti14:TI:=⟨2,24,[.v (.string ⟨#[]⟩),.v (.int .u64 0)],.st [(0,9),(1,12)]⟩
theorem tok14:cj Tryz.prog 14 ti14:=⟨by kernel_rfl,by simp[ti14,aJ,Value.oneCell'],⟨_,Tryz.underlying14,rfl⟩⟩
def ti21:TI:=⟨1,4,[.v (.int .i32 0)],.sc (.int .i32)⟩
theorem tok21:cj Tryz.prog 21 ti21:=⟨by kernel_rfl,by simp[ti21,aJ,Value.oneCell'],⟨Tryz.underlying21,trivial⟩⟩
def ti22:TI:=⟨1,24,[.z],.sl 5⟩
theorem tok22:cj Tryz.prog 22 ti22:=⟨by kernel_rfl,by simp[ti22,aJ,Value.oneCell'],Tryz.underlying22⟩
def ti24:TI:=⟨1,24,[.z],.sl 33⟩
theorem tok24:cj Tryz.prog 24 ti24:=⟨by kernel_rfl,by simp[ti24,aJ,Value.oneCell'],Tryz.underlying24⟩
def ti25:TI:=⟨1,24,[.z],.sl 4⟩
theorem tok25:cj Tryz.prog 25 ti25:=⟨by kernel_rfl,by simp[ti25,aJ,Value.oneCell'],Tryz.underlying25⟩
def ti26:TI:=⟨2,48,[.z,.z],.st [(0,24),(1,25)]⟩
theorem tok26:cj Tryz.prog 26 ti26:=⟨by kernel_rfl,by simp[ti26,aJ,Value.oneCell'],⟨_,Tryz.underlying26,rfl⟩⟩
def ti27:TI:=⟨2,48,[.z,.z],.st [(0,24),(1,25)]⟩
theorem tok27:cj Tryz.prog 27 ti27:=⟨by kernel_rfl,by simp[ti27,aJ,Value.oneCell'],⟨_,Tryz.underlying27,rfl⟩⟩
def ti28:TI:=⟨1,24,[.z],.sl 134⟩
theorem tok28:cj Tryz.prog 28 ti28:=⟨by kernel_rfl,by simp[ti28,aJ,Value.oneCell'],Tryz.underlying28⟩
def ti29:TI:=⟨1,24,[.z],.st [(0,28)]⟩
theorem tok29:cj Tryz.prog 29 ti29:=⟨by kernel_rfl,by simp[ti29,aJ,Value.oneCell'],⟨_,Tryz.underlying29,rfl⟩⟩
def ti30:TI:=⟨1,24,[.z],.st [(0,28)]⟩
theorem tok30:cj Tryz.prog 30 ti30:=⟨by kernel_rfl,by simp[ti30,aJ,Value.oneCell'],⟨_,Tryz.underlying30,rfl⟩⟩
def ti31:TI:=⟨3,72,[.z,.z,.z],.st [(0,27),(2,30)]⟩
theorem tok31:cj Tryz.prog 31 ti31:=⟨by kernel_rfl,by simp[ti31,aJ,Value.oneCell'],⟨_,Tryz.underlying31,rfl⟩⟩
def ti32:TI:=⟨3,72,[.z,.z,.z],.st [(0,27),(2,30)]⟩
theorem tok32:cj Tryz.prog 32 ti32:=⟨by kernel_rfl,by simp[ti32,aJ,Value.oneCell'],⟨_,Tryz.underlying32,rfl⟩⟩
def ti33:TI:=⟨1,24,[.z],.sl 3⟩
theorem tok33:cj Tryz.prog 33 ti33:=⟨by kernel_rfl,by simp[ti33,aJ,Value.oneCell'],Tryz.underlying33⟩
def ti34:TI:=⟨5,104,[.z,.z,.z,.v (.int .i64 0),.z],.st [(0,32),(3,3),(4,33)]⟩
theorem tok34:cj Tryz.prog 34 ti34:=⟨by kernel_rfl,by simp[ti34,aJ,Value.oneCell'],⟨_,Tryz.underlying34,rfl⟩⟩
def ti35:TI:=⟨5,104,[.z,.z,.z,.v (.int .i64 0),.z],.st [(0,32),(3,3),(4,33)]⟩
theorem tok35:cj Tryz.prog 35 ti35:=⟨by kernel_rfl,by simp[ti35,aJ,Value.oneCell'],⟨_,Tryz.underlying35,rfl⟩⟩
def ti36:TI:=⟨1,24,[.z],.sl 131⟩
theorem tok36:cj Tryz.prog 36 ti36:=⟨by kernel_rfl,by simp[ti36,aJ,Value.oneCell'],Tryz.underlying36⟩
def ti37:TI:=⟨1,24,[.z],.sl 75⟩
theorem tok37:cj Tryz.prog 37 ti37:=⟨by kernel_rfl,by simp[ti37,aJ,Value.oneCell'],Tryz.underlying37⟩
def ti38:TI:=⟨1,24,[.z],.sl 173⟩
theorem tok38:cj Tryz.prog 38 ti38:=⟨by kernel_rfl,by simp[ti38,aJ,Value.oneCell'],Tryz.underlying38⟩
def ti39:TI:=⟨1,24,[.z],.sl 71⟩
theorem tok39:cj Tryz.prog 39 ti39:=⟨by kernel_rfl,by simp[ti39,aJ,Value.oneCell'],Tryz.underlying39⟩
def ti40:TI:=⟨1,24,[.z],.sl 105⟩
theorem tok40:cj Tryz.prog 40 ti40:=⟨by kernel_rfl,by simp[ti40,aJ,Value.oneCell'],Tryz.underlying40⟩
def ti41:TI:=⟨1,24,[.z],.sl 212⟩
theorem tok41:cj Tryz.prog 41 ti41:=⟨by kernel_rfl,by simp[ti41,aJ,Value.oneCell'],Tryz.underlying41⟩
def ti42:TI:=⟨2,48,[.z,.z],.st [(0,41),(1,24)]⟩
theorem tok42:cj Tryz.prog 42 ti42:=⟨by kernel_rfl,by simp[ti42,aJ,Value.oneCell'],⟨_,Tryz.underlying42,rfl⟩⟩
def ti43:TI:=⟨2,48,[.z,.z],.st [(0,41),(1,24)]⟩
theorem tok43:cj Tryz.prog 43 ti43:=⟨by kernel_rfl,by simp[ti43,aJ,Value.oneCell'],⟨_,Tryz.underlying43,rfl⟩⟩
def ti44:TI:=⟨1,24,[.z],.sl 185⟩
theorem tok44:cj Tryz.prog 44 ti44:=⟨by kernel_rfl,by simp[ti44,aJ,Value.oneCell'],Tryz.underlying44⟩
def ti45:TI:=⟨2,32,[.v (.int .i64 0),.z],.st [(0,3),(1,44)]⟩
theorem tok45:cj Tryz.prog 45 ti45:=⟨by kernel_rfl,by simp[ti45,aJ,Value.oneCell'],⟨_,Tryz.underlying45,rfl⟩⟩
def ti46:TI:=⟨2,32,[.v (.int .i64 0),.z],.st [(0,3),(1,44)]⟩
theorem tok46:cj Tryz.prog 46 ti46:=⟨by kernel_rfl,by simp[ti46,aJ,Value.oneCell'],⟨_,Tryz.underlying46,rfl⟩⟩
def ti47:TI:=⟨3,40,[.v (.int .i64 0),.v (.int .i64 0),.z],.st [(0,3),(1,3),(2,33)]⟩
theorem tok47:cj Tryz.prog 47 ti47:=⟨by kernel_rfl,by simp[ti47,aJ,Value.oneCell'],⟨_,Tryz.underlying47,rfl⟩⟩
def ti48:TI:=⟨3,40,[.v (.int .i64 0),.v (.int .i64 0),.z],.st [(0,3),(1,3),(2,33)]⟩
theorem tok48:cj Tryz.prog 48 ti48:=⟨by kernel_rfl,by simp[ti48,aJ,Value.oneCell'],⟨_,Tryz.underlying48,rfl⟩⟩
def ti49:TI:=⟨5,56,[.v (.int .i64 0),.v (.int .i64 0),.z,.v (.int .i64 0),.v (.int .i64 0)],.st [(0,48),(3,3),(4,3)]⟩
theorem tok49:cj Tryz.prog 49 ti49:=⟨by kernel_rfl,by simp[ti49,aJ,Value.oneCell'],⟨_,Tryz.underlying49,rfl⟩⟩
def ti50:TI:=⟨5,56,[.v (.int .i64 0),.v (.int .i64 0),.z,.v (.int .i64 0),.v (.int .i64 0)],.st [(0,48),(3,3),(4,3)]⟩
theorem tok50:cj Tryz.prog 50 ti50:=⟨by kernel_rfl,by simp[ti50,aJ,Value.oneCell'],⟨_,Tryz.underlying50,rfl⟩⟩
def ti51:TI:=⟨24,400,[.z,.z,.z,.v (.int .i64 0),.z,.z,.z,.z,.z,.z,.z,.z,.v (.int .i64 0),.z,.v (.int .i64 0),.v (.int .i64 0),.v (.int .i64 0),.v (.int .i64 0),.v (.bool false),.v (.int .i64 0),.v (.int .i64 0),.z,.v (.int .i64 0),.v (.int .i64 0)],.st [(0,35),(5,36),(6,37),(7,38),(8,39),(9,40),(10,43),(12,46),(14,3),(15,3),(16,3),(17,3),(18,4),(19,50)]⟩
theorem tok51:cj Tryz.prog 51 ti51:=⟨by kernel_rfl,by simp[ti51,aJ,Value.oneCell'],⟨_,Tryz.underlying51,rfl⟩⟩
def ti52:TI:=⟨24,400,[.z,.z,.z,.v (.int .i64 0),.z,.z,.z,.z,.z,.z,.z,.z,.v (.int .i64 0),.z,.v (.int .i64 0),.v (.int .i64 0),.v (.int .i64 0),.v (.int .i64 0),.v (.bool false),.v (.int .i64 0),.v (.int .i64 0),.z,.v (.int .i64 0),.v (.int .i64 0)],.st [(0,35),(5,36),(6,37),(7,38),(8,39),(9,40),(10,43),(12,46),(14,3),(15,3),(16,3),(17,3),(18,4),(19,50)]⟩
theorem tok52:cj Tryz.prog 52 ti52:=⟨by kernel_rfl,by simp[ti52,aJ,Value.oneCell'],⟨_,Tryz.underlying52,rfl⟩⟩
def ti53:TI:=⟨1,24,[.z],.sl 330⟩
theorem tok53:cj Tryz.prog 53 ti53:=⟨by kernel_rfl,by simp[ti53,aJ,Value.oneCell'],Tryz.underlying53⟩
def ti54:TI:=⟨2,32,[.v (.int .i64 0),.z],.st [(0,3),(1,53)]⟩
theorem tok54:cj Tryz.prog 54 ti54:=⟨by kernel_rfl,by simp[ti54,aJ,Value.oneCell'],⟨_,Tryz.underlying54,rfl⟩⟩
def ti55:TI:=⟨2,32,[.v (.int .i64 0),.z],.st [(0,3),(1,53)]⟩
theorem tok55:cj Tryz.prog 55 ti55:=⟨by kernel_rfl,by simp[ti55,aJ,Value.oneCell'],⟨_,Tryz.underlying55,rfl⟩⟩
def ti56:TI:=⟨26,432,[.z,.z,.z,.v (.int .i64 0),.z,.z,.z,.z,.z,.z,.z,.z,.v (.int .i64 0),.z,.v (.int .i64 0),.v (.int .i64 0),.v (.int .i64 0),.v (.int .i64 0),.v (.bool false),.v (.int .i64 0),.v (.int .i64 0),.z,.v (.int .i64 0),.v (.int .i64 0),.v (.int .i64 0),.z],.st [(0,52),(24,55)]⟩
theorem tok56:cj Tryz.prog 56 ti56:=⟨by kernel_rfl,by simp[ti56,aJ,Value.oneCell'],⟨_,Tryz.underlying56,rfl⟩⟩
def ti57:TI:=⟨26,432,[.z,.z,.z,.v (.int .i64 0),.z,.z,.z,.z,.z,.z,.z,.z,.v (.int .i64 0),.z,.v (.int .i64 0),.v (.int .i64 0),.v (.int .i64 0),.v (.int .i64 0),.v (.bool false),.v (.int .i64 0),.v (.int .i64 0),.z,.v (.int .i64 0),.v (.int .i64 0),.v (.int .i64 0),.z],.st [(0,52),(24,55)]⟩
theorem tok57:cj Tryz.prog 57 ti57:=⟨by kernel_rfl,by simp[ti57,aJ,Value.oneCell'],⟨_,Tryz.underlying57,rfl⟩⟩
def ti65:TI:=⟨8,64,[.v (.int .i64 0),.v (.int .i64 0),.v (.int .i64 0),.v (.int .i64 0),.v (.int .i64 0),.v (.int .i64 0),.v (.int .i64 0),.v (.int .i64 0)],.st [(0,3),(1,3),(2,3),(3,3),(4,3),(5,3),(6,3),(7,3)]⟩
theorem tok65:cj Tryz.prog 65 ti65:=⟨by kernel_rfl,by simp[ti65,aJ,Value.oneCell'],⟨_,Tryz.underlying65,rfl⟩⟩
def ti66:TI:=⟨8,64,[.v (.int .i64 0),.v (.int .i64 0),.v (.int .i64 0),.v (.int .i64 0),.v (.int .i64 0),.v (.int .i64 0),.v (.int .i64 0),.v (.int .i64 0)],.st [(0,3),(1,3),(2,3),(3,3),(4,3),(5,3),(6,3),(7,3)]⟩
theorem tok66:cj Tryz.prog 66 ti66:=⟨by kernel_rfl,by simp[ti66,aJ,Value.oneCell'],⟨_,Tryz.underlying66,rfl⟩⟩
def ti70:TI:=⟨4,32,[.v (.int .i64 0),.v (.int .i64 0),.v (.int .i64 0),.v (.int .i64 0)],.st [(0,3),(1,3),(2,3),(3,3)]⟩
theorem tok70:cj Tryz.prog 70 ti70:=⟨by kernel_rfl,by simp[ti70,aJ,Value.oneCell'],⟨_,Tryz.underlying70,rfl⟩⟩
def ti71:TI:=⟨4,32,[.v (.int .i64 0),.v (.int .i64 0),.v (.int .i64 0),.v (.int .i64 0)],.st [(0,3),(1,3),(2,3),(3,3)]⟩
theorem tok71:cj Tryz.prog 71 ti71:=⟨by kernel_rfl,by simp[ti71,aJ,Value.oneCell'],⟨_,Tryz.underlying71,rfl⟩⟩
def ti74:TI:=⟨3,24,[.v (.int .i64 0),.v (.int .i64 0),.v (.int .i64 0)],.st [(0,3),(1,3),(2,3)]⟩
theorem tok74:cj Tryz.prog 74 ti74:=⟨by kernel_rfl,by simp[ti74,aJ,Value.oneCell'],⟨_,Tryz.underlying74,rfl⟩⟩
def ti75:TI:=⟨3,24,[.v (.int .i64 0),.v (.int .i64 0),.v (.int .i64 0)],.st [(0,3),(1,3),(2,3)]⟩
theorem tok75:cj Tryz.prog 75 ti75:=⟨by kernel_rfl,by simp[ti75,aJ,Value.oneCell'],⟨_,Tryz.underlying75,rfl⟩⟩
def ti104:TI:=⟨1,24,[.z],.st [(0,24)]⟩
theorem tok104:cj Tryz.prog 104 ti104:=⟨by kernel_rfl,by simp[ti104,aJ,Value.oneCell'],⟨_,Tryz.underlying104,rfl⟩⟩
def ti105:TI:=⟨1,24,[.z],.st [(0,24)]⟩
theorem tok105:cj Tryz.prog 105 ti105:=⟨by kernel_rfl,by simp[ti105,aJ,Value.oneCell'],⟨_,Tryz.underlying105,rfl⟩⟩
def ti120:TI:=⟨4,32,[.v (.int .i64 0),.v (.int .i64 0),.v (.int .i64 0),.v (.int .i64 0)],.st [(0,3),(1,3),(2,3),(3,3)]⟩
theorem tok120:cj Tryz.prog 120 ti120:=⟨by kernel_rfl,by simp[ti120,aJ,Value.oneCell'],⟨_,Tryz.underlying120,rfl⟩⟩
def ti121:TI:=⟨4,32,[.v (.int .i64 0),.v (.int .i64 0),.v (.int .i64 0),.v (.int .i64 0)],.st [(0,3),(1,3),(2,3),(3,3)]⟩
theorem tok121:cj Tryz.prog 121 ti121:=⟨by kernel_rfl,by simp[ti121,aJ,Value.oneCell'],⟨_,Tryz.underlying121,rfl⟩⟩
def ti130:TI:=⟨2,16,[.v (.int .i64 0),.v (.int .i64 0)],.st [(0,3),(1,3)]⟩
theorem tok130:cj Tryz.prog 130 ti130:=⟨by kernel_rfl,by simp[ti130,aJ,Value.oneCell'],⟨_,Tryz.underlying130,rfl⟩⟩
def ti131:TI:=⟨2,16,[.v (.int .i64 0),.v (.int .i64 0)],.st [(0,3),(1,3)]⟩
theorem tok131:cj Tryz.prog 131 ti131:=⟨by kernel_rfl,by simp[ti131,aJ,Value.oneCell'],⟨_,Tryz.underlying131,rfl⟩⟩
def ti133:TI:=⟨2,16,[.v (.int .i64 0),.v (.int .i64 0)],.st [(0,3),(1,3)]⟩
theorem tok133:cj Tryz.prog 133 ti133:=⟨by kernel_rfl,by simp[ti133,aJ,Value.oneCell'],⟨_,Tryz.underlying133,rfl⟩⟩
def ti134:TI:=⟨2,16,[.v (.int .i64 0),.v (.int .i64 0)],.st [(0,3),(1,3)]⟩
theorem tok134:cj Tryz.prog 134 ti134:=⟨by kernel_rfl,by simp[ti134,aJ,Value.oneCell'],⟨_,Tryz.underlying134,rfl⟩⟩
def ti144:TI:=⟨1,24,[.z],.sl 150⟩
theorem tok144:cj Tryz.prog 144 ti144:=⟨by kernel_rfl,by simp[ti144,aJ,Value.oneCell'],Tryz.underlying144⟩
def ti149:TI:=⟨2,16,[.v (.int .i64 0),.v (.int .i64 0)],.st [(0,3),(1,3)]⟩
theorem tok149:cj Tryz.prog 149 ti149:=⟨by kernel_rfl,by simp[ti149,aJ,Value.oneCell'],⟨_,Tryz.underlying149,rfl⟩⟩
def ti150:TI:=⟨2,16,[.v (.int .i64 0),.v (.int .i64 0)],.st [(0,3),(1,3)]⟩
theorem tok150:cj Tryz.prog 150 ti150:=⟨by kernel_rfl,by simp[ti150,aJ,Value.oneCell'],⟨_,Tryz.underlying150,rfl⟩⟩
def ti172:TI:=⟨3,24,[.v (.int .i64 0),.v (.int .i64 0),.v (.int .i64 0)],.st [(0,3),(1,3),(2,3)]⟩
theorem tok172:cj Tryz.prog 172 ti172:=⟨by kernel_rfl,by simp[ti172,aJ,Value.oneCell'],⟨_,Tryz.underlying172,rfl⟩⟩
def ti173:TI:=⟨3,24,[.v (.int .i64 0),.v (.int .i64 0),.v (.int .i64 0)],.st [(0,3),(1,3),(2,3)]⟩
theorem tok173:cj Tryz.prog 173 ti173:=⟨by kernel_rfl,by simp[ti173,aJ,Value.oneCell'],⟨_,Tryz.underlying173,rfl⟩⟩
def ti180:TI:=⟨2,16,[.v (.int .i64 0),.v (.int .i64 0)],.st [(0,3),(1,3)]⟩
theorem tok180:cj Tryz.prog 180 ti180:=⟨by kernel_rfl,by simp[ti180,aJ,Value.oneCell'],⟨_,Tryz.underlying180,rfl⟩⟩
def ti181:TI:=⟨2,16,[.v (.int .i64 0),.v (.int .i64 0)],.st [(0,3),(1,3)]⟩
theorem tok181:cj Tryz.prog 181 ti181:=⟨by kernel_rfl,by simp[ti181,aJ,Value.oneCell'],⟨_,Tryz.underlying181,rfl⟩⟩
def ti184:TI:=⟨3,24,[.v (.int .i64 0),.v (.int .i64 0),.v (.int .i64 0)],.st [(0,3),(1,3),(2,3)]⟩
theorem tok184:cj Tryz.prog 184 ti184:=⟨by kernel_rfl,by simp[ti184,aJ,Value.oneCell'],⟨_,Tryz.underlying184,rfl⟩⟩
def ti185:TI:=⟨3,24,[.v (.int .i64 0),.v (.int .i64 0),.v (.int .i64 0)],.st [(0,3),(1,3),(2,3)]⟩
theorem tok185:cj Tryz.prog 185 ti185:=⟨by kernel_rfl,by simp[ti185,aJ,Value.oneCell'],⟨_,Tryz.underlying185,rfl⟩⟩
def ti196:TI:=⟨5,56,[.v (.int .i64 0),.v (.int .i64 0),.v (.int .i64 0),.v (.int .i64 0),.z],.st [(0,3),(1,3),(2,3),(3,3),(4,33)]⟩
theorem tok196:cj Tryz.prog 196 ti196:=⟨by kernel_rfl,by simp[ti196,aJ,Value.oneCell'],⟨_,Tryz.underlying196,rfl⟩⟩
def ti197:TI:=⟨5,56,[.v (.int .i64 0),.v (.int .i64 0),.v (.int .i64 0),.v (.int .i64 0),.z],.st [(0,3),(1,3),(2,3),(3,3),(4,33)]⟩
theorem tok197:cj Tryz.prog 197 ti197:=⟨by kernel_rfl,by simp[ti197,aJ,Value.oneCell'],⟨_,Tryz.underlying197,rfl⟩⟩
def ti199:TI:=⟨1,24,[.z],.sl 264⟩
theorem tok199:cj Tryz.prog 199 ti199:=⟨by kernel_rfl,by simp[ti199,aJ,Value.oneCell'],Tryz.underlying199⟩
def ti201:TI:=⟨3,40,[.z,.v (.int .i64 0),.v (.int .i64 0)],.st [(0,22),(1,3),(2,3)]⟩
theorem tok201:cj Tryz.prog 201 ti201:=⟨by kernel_rfl,by simp[ti201,aJ,Value.oneCell'],⟨_,Tryz.underlying201,rfl⟩⟩
def ti202:TI:=⟨3,40,[.z,.v (.int .i64 0),.v (.int .i64 0)],.st [(0,22),(1,3),(2,3)]⟩
theorem tok202:cj Tryz.prog 202 ti202:=⟨by kernel_rfl,by simp[ti202,aJ,Value.oneCell'],⟨_,Tryz.underlying202,rfl⟩⟩
def ti209:TI:=⟨1,8,[.v (.map none)],.mp 3 4 (.bool false)⟩
theorem tok209:cj Tryz.prog 209 ti209:=⟨by kernel_rfl,by simp[ti209,aJ,Value.oneCell'],⟨Tryz.underlying209,Tryz.underlying3,by kernel_rfl,rfl⟩⟩
def ti212:TI:=⟨1,24,[.z],.sl 181⟩
theorem tok212:cj Tryz.prog 212 ti212:=⟨by kernel_rfl,by simp[ti212,aJ,Value.oneCell'],Tryz.underlying212⟩
def ti215:TI:=⟨1,8,[.v (.map none)],.mp 3 3 (.int .i64 0)⟩
theorem tok215:cj Tryz.prog 215 ti215:=⟨by kernel_rfl,by simp[ti215,aJ,Value.oneCell'],⟨Tryz.underlying215,Tryz.underlying3,by kernel_rfl,rfl⟩⟩
def ti263:TI:=⟨5,40,[.v (.int .i64 0),.v (.int .i64 0),.v (.int .i64 0),.v (.int .i64 0),.v (.int .i64 0)],.st [(0,3),(1,3),(2,3),(3,3),(4,3)]⟩
theorem tok263:cj Tryz.prog 263 ti263:=⟨by kernel_rfl,by simp[ti263,aJ,Value.oneCell'],⟨_,Tryz.underlying263,rfl⟩⟩
def ti264:TI:=⟨5,40,[.v (.int .i64 0),.v (.int .i64 0),.v (.int .i64 0),.v (.int .i64 0),.v (.int .i64 0)],.st [(0,3),(1,3),(2,3),(3,3),(4,3)]⟩
theorem tok264:cj Tryz.prog 264 ti264:=⟨by kernel_rfl,by simp[ti264,aJ,Value.oneCell'],⟨_,Tryz.underlying264,rfl⟩⟩
def ti272:TI:=⟨1,8,[.v (.int .u64 0)],.sc (.int .u64)⟩
theorem tok272:cj Tryz.prog 272 ti272:=⟨by kernel_rfl,by simp[ti272,aJ,Value.oneCell'],⟨Tryz.underlying272,trivial⟩⟩
def ti308:TI:=⟨1,8,[.v (.int .i64 0)],.sc (.int .i64)⟩
theorem tok308:cj Tryz.prog 308 ti308:=⟨by kernel_rfl,by simp[ti308,aJ,Value.oneCell'],⟨Tryz.underlying308,trivial⟩⟩
def ti315:TI:=⟨1,4,[.v (.int .u32 0)],.sc (.int .u32)⟩
theorem tok315:cj Tryz.prog 315 ti315:=⟨by kernel_rfl,by simp[ti315,aJ,Value.oneCell'],⟨Tryz.underlying315,trivial⟩⟩
def ti317:TI:=⟨1,8,[.v (.int .u64 0)],.sc (.int .u64)⟩
theorem tok317:cj Tryz.prog 317 ti317:=⟨by kernel_rfl,by simp[ti317,aJ,Value.oneCell'],⟨Tryz.underlying317,trivial⟩⟩
def ti329:TI:=⟨2,32,[.v (.int .i64 0),.z],.st [(0,3),(1,33)]⟩
theorem tok329:cj Tryz.prog 329 ti329:=⟨by kernel_rfl,by simp[ti329,aJ,Value.oneCell'],⟨_,Tryz.underlying329,rfl⟩⟩
def ti330:TI:=⟨2,32,[.v (.int .i64 0),.z],.st [(0,3),(1,33)]⟩
theorem tok330:cj Tryz.prog 330 ti330:=⟨by kernel_rfl,by simp[ti330,aJ,Value.oneCell'],⟨_,Tryz.underlying330,rfl⟩⟩
def ti337:TI:=⟨1,8,[.v (.int .u64 0)],.sc (.int .u64)⟩
theorem tok337:cj Tryz.prog 337 ti337:=⟨by kernel_rfl,by simp[ti337,aJ,Value.oneCell'],⟨Tryz.underlying337,trivial⟩⟩
def ti363:TI:=⟨0,0,[],.st [(0,362)]⟩
theorem tok363:cj Tryz.prog 363 ti363:=⟨by kernel_rfl,by simp[ti363,aJ,Value.oneCell'],⟨_,Tryz.underlying363,rfl⟩⟩
def ti364:TI:=⟨0,0,[],.st [(0,362)]⟩
theorem tok364:cj Tryz.prog 364 ti364:=⟨by kernel_rfl,by simp[ti364,aJ,Value.oneCell'],⟨_,Tryz.underlying364,rfl⟩⟩
def ti366:TI:=⟨1,1,[.v (.int .u8 0)],.sc (.int .u8)⟩
theorem tok366:cj Tryz.prog 366 ti366:=⟨by kernel_rfl,by simp[ti366,aJ,Value.oneCell'],⟨Tryz.underlying366,trivial⟩⟩
def ti367:TI:=⟨1,1,[.v (.int .u8 0)],.sc (.int .u8)⟩
theorem tok367:cj Tryz.prog 367 ti367:=⟨by kernel_rfl,by simp[ti367,aJ,Value.oneCell'],⟨Tryz.underlying367,trivial⟩⟩
def ti370:TI:=⟨1,4,[.v (.int .i32 0)],.sc (.int .i32)⟩
theorem tok370:cj Tryz.prog 370 ti370:=⟨by kernel_rfl,by simp[ti370,aJ,Value.oneCell'],⟨Tryz.underlying370,trivial⟩⟩
def ti371:TI:=⟨1,4,[.v (.int .i32 0)],.sc (.int .i32)⟩
theorem tok371:cj Tryz.prog 371 ti371:=⟨by kernel_rfl,by simp[ti371,aJ,Value.oneCell'],⟨Tryz.underlying371,trivial⟩⟩
def tab:List (Nat × TI):=[(3,ti3),(4,ti4),(2,ti2),(5,ti5),(6,ti6),(7,ti7),(8,ti8),(9,ti9),(10,ti10),(11,ti11),(12,ti12),(13,ti13),(14,ti14),(21,ti21),(22,ti22),(24,ti24),(25,ti25),(26,ti26),(27,ti27),(28,ti28),(29,ti29),(30,ti30),(31,ti31),(32,ti32),(33,ti33),(34,ti34),(35,ti35),(36,ti36),(37,ti37),(38,ti38),(39,ti39),(40,ti40),(41,ti41),(42,ti42),(43,ti43),(44,ti44),(45,ti45),(46,ti46),(47,ti47),(48,ti48),(49,ti49),(50,ti50),(51,ti51),(52,ti52),(53,ti53),(54,ti54),(55,ti55),(56,ti56),(57,ti57),(65,ti65),(66,ti66),(70,ti70),(71,ti71),(74,ti74),(75,ti75),(104,ti104),(105,ti105),(120,ti120),(121,ti121),(130,ti130),(131,ti131),(133,ti133),(134,ti134),(144,ti144),(149,ti149),(150,ti150),(172,ti172),(173,ti173),(180,ti180),(181,ti181),(184,ti184),(185,ti185),(196,ti196),(197,ti197),(199,ti199),(201,ti201),(202,ti202),(209,ti209),(212,ti212),(215,ti215),(263,ti263),(264,ti264),(272,ti272),(308,ti308),(315,ti315),(317,ti317),(329,ti329),(330,ti330),(337,ti337),(363,ti363),(364,ti364),(366,ti366),(367,ti367),(370,ti370),(371,ti371)]
theorem Qk:Qi Tryz.prog tab:=⟨tok3,tok4,tok2,tok5,tok6,tok7,tok8,tok9,tok10,tok11,tok12,tok13,tok14,tok21,tok22,tok24,tok25,tok26,tok27,tok28,tok29,tok30,tok31,tok32,tok33,tok34,tok35,tok36,tok37,tok38,tok39,tok40,tok41,tok42,tok43,tok44,tok45,tok46,tok47,tok48,tok49,tok50,tok51,tok52,tok53,tok54,tok55,tok56,tok57,tok65,tok66,tok70,tok71,tok74,tok75,tok104,tok105,tok120,tok121,tok130,tok131,tok133,tok134,tok144,tok149,tok150,tok172,tok173,tok180,tok181,tok184,tok185,tok196,tok197,tok199,tok201,tok202,tok209,tok212,tok215,tok263,tok264,tok272,tok308,tok315,tok317,tok329,tok330,tok337,tok363,tok364,tok366,tok367,tok370,tok371,trivial⟩
def TE:Nat->Option TI:=GF tab
theorem rS:∀t i,TE t=some i->cj Tryz.prog t i:=E3 Qk
end Go.Proofs.YtembpgjjnioagaaGreat.Ab
