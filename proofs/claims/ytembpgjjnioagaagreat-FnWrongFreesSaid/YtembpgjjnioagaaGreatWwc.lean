/- A slot-only operation looks at its operands alone (the rest), and: a region that draws its order may be run in the text's. No condition. -/
import Derived.Test.YtembpgjjnioagaaGreatWwb
import Derived.Orders
import Derived.Test.YtembpgjjnioagaaGreatWwa
import Derived.KernelRfl
import Derived.Test.YtembpgjjnioagaaGreatProg
set_option linter.unusedVariables false
set_option linter.unusedSimpArgs false
set_option linter.constructorNameAsVariable false
namespace Go.Proofs.YtembpgjjnioagaaGreat.Ab
open Go.RowKit
section
variable{F:Nat->AV}{K:AV->Prop}{TE:Nat->Option TI}{P:Program}
theorem Je{g:BinOp}{x y:Value}{K K':Value->Prop}(h:A9 g x y K)(i:∀v,K v->K' v):A9 g x y K':=by
 cases x<;>cases y<;>try exact h.elim
 rename_i k a j b;have c:∀{X Y:Prop},(bif fF k j then X else False)->(X->Y)->(bif fF k j then Y else False):=fun {X Y} h e=>by
  cases o:fF k j with
  | true=>rw[o]at h;exact e h
  | false=>rw[o]at h;exact h.elim
 have d:∀{k:IntKind}{x:Int},Wr k x (λz=>K (.int k z))->Wr k x (λz=>K' (.int k z)):=λh=>by
  obtain⟨z,l,n⟩:=h.out;exact CI l (i _ n)
 have q:∀{k:IntKind}{x:Int},Ev x (λz=>K (.int k z))->Ev x (λz=>K' (.int k z)):=λh=>by
  obtain⟨z,l,n⟩:=h.out;exact CO l (i _ n)
 have f:∀{p X Y:Prop},Cd p X->(X->Y)->Cd p Y:=λh e=>CK h.out.1 (e h.out.2)
 cases g<;>simp only[A9]at h |-
 case add=>exact c h d
 case sub=>exact c h d
 case mul=>exact c h d
 case quo=>exact c h λh=>f h d
 case rem=>exact c h λh=>f h q
 case and=>exact c h d
 case or=>exact c h d
 case xor=>exact c h d
 case andNot=>exact c h d
 case shl=>exact f h d
 case shr=>exact f h q
 all_goals exact c h (i _)
theorem Kn{f:BinOp}{x y:Value}{K:Value->Prop}(h:A9 f x y K):∃v,K v/\A9 f x y (· = v):=by
 cases x<;>cases y<;>try exact h.elim
 rename_i k a g b;have e:∀{X:Prop},(bif fF k g then X else False)->X/\∀Y:Prop,Y->(bif fF k g then Y else False):=fun {X} h=>by
  cases i:fF k g with
  | true=>rw[i]at h;exact⟨h,λY j=>j⟩
  | false=>rw[i]at h;exact h.elim
 cases f<;>simp only[A9]at h |-
 case add=>obtain⟨h,b⟩:=e h;obtain⟨z,c,d⟩:=h.out;exact⟨_,d,b _ (CI c rfl)⟩
 case sub=>obtain⟨h,b⟩:=e h;obtain⟨z,c,d⟩:=h.out;exact⟨_,d,b _ (CI c rfl)⟩
 case mul=>obtain⟨h,b⟩:=e h;obtain⟨z,c,d⟩:=h.out;exact⟨_,d,b _ (CI c rfl)⟩
 case quo=>obtain⟨h,b⟩:=e h;obtain⟨z,c,d⟩:=h.out.2.out;exact⟨_,d,b _ (CK h.out.1 (CI c rfl))⟩
 case rem=>obtain⟨h,b⟩:=e h;obtain⟨z,c,d⟩:=h.out.2.out;exact⟨_,d,b _ (CK h.out.1 (CO c rfl))⟩
 case and=>obtain⟨h,b⟩:=e h;obtain⟨z,c,d⟩:=h.out;exact⟨_,d,b _ (CI c rfl)⟩
 case or=>obtain⟨h,b⟩:=e h;obtain⟨z,c,d⟩:=h.out;exact⟨_,d,b _ (CI c rfl)⟩
 case xor=>obtain⟨h,b⟩:=e h;obtain⟨z,c,d⟩:=h.out;exact⟨_,d,b _ (CI c rfl)⟩
 case andNot=>obtain⟨h,b⟩:=e h;obtain⟨z,c,d⟩:=h.out;exact⟨_,d,b _ (CI c rfl)⟩
 case shl=>obtain⟨z,c,d⟩:=h.out.2.out;exact⟨_,d,CK h.out.1 (CI c rfl)⟩
 case shr=>obtain⟨z,c,d⟩:=h.out.2.out;exact⟨_,d,CK h.out.1 (CO c rfl)⟩
 all_goals(obtain⟨h,b⟩:=e h;exact⟨_,h,b _ rfl⟩)
theorem JW{b:BinOp}{T:Nat}{x y:Value}{K:Value->Prop}(h:BZ TE b T x y K):∃v,K v/\∀K':Value->Prop,K' v->BZ TE b T x y K':=by
 unfold BZ at h;split at h
 ·split at h
  case h_2=>exact h.elim
  rename_i f;cases b<;>simp only at h<;>try exact h.elim
  all_goals exact⟨_,h,λK' a=>by unfold BZ;simp only[f];exact a⟩
 ·cases b<;>simp only at h<;>try exact h.elim
  case add=>obtain⟨c,d⟩:=h.out;obtain⟨z,g,i⟩:=d.out;exact⟨_,i,λK' a=>CK c (Es.mk g a)⟩
  all_goals exact⟨_,h,λK' a=>a⟩
 ·rename_i c d
  obtain⟨v,j,k⟩:=Kn h;refine⟨v,j,λK' a=>?_⟩;have:=Je (K':=K') k λl e=>by rw[e];exact a
  unfold BZ;split
  ·exact(c _ _ rfl rfl).elim
  ·exact(d _ _ rfl rfl).elim
  ·exact this
theorem Kh{a:UnOp}{x:Value}{K K':Value->Prop}(h:Ma a x K)(b:∀v,K v->K' v):Ma a x K':=by
 unfold Ma at h |-;split at h
 ·exact b _ h
 ·obtain⟨z,c,d⟩:=Wr.out h;exact CI c (b _ d)
 ·exact h.elim
theorem Mx{a:UnOp}{x:Value}{K:Value->Prop}(h:Ma a x K):∃v,K v/\Ma a x (· = v):=by
 unfold Ma at h;split at h
 ·exact⟨_,h,rfl⟩
 ·obtain⟨z,b,c⟩:=Wr.out h;exact⟨_,c,CI b rfl⟩
 ·exact h.elim
theorem JQ{c x y:Operand}(h:GA F c x y K):mX (λF K=>GA F c x y K) F (tm c++tm x++tm y) K:=by
 obtain⟨z,f,r⟩:=iw h;cases z with
 | bool b=>
  cases b with
  | true=>
   obtain⟨g,i,j,k⟩:=iX (Bf.out f);refine⟨g,i,λd l=>(j d l).imp (λh=>by simp[h]) (λ⟨t,n,o⟩=>⟨t,by simp[n],o⟩),λa e p q=>r a (e.mono (by simp +contextual)) _ (Bf.in_ (k a (e.mono (by simp +contextual)) p q))⟩
  | false=>
   obtain⟨g,i,j,k⟩:=iX (Bf.out f);refine⟨g,i,λd l=>(j d l).imp (λh=>by simp[h]) (λ⟨t,n,o⟩=>⟨t,by simp[n],o⟩),λa e p q=>r a (e.mono (by simp +contextual)) _ (Bf.in_ (k a (e.mono (by simp +contextual)) p q))⟩
 | _=>exact f.elim
theorem Ng{x:Operand}(h:Nl F x K):mX (λF K=>Nl F x K) F (tm x) K:=by
 obtain⟨i,c,a,d⟩:=cq h;cases b:aV c with
 | false=>rw[b]at a;exact a.elim
 | true=>rw[b]at a;exact⟨_,a,CP _ _ _ _,λe f j g=>d e f _ (by rw[b];exact g)⟩
theorem DE{x:Operand}{i:Nat}(h:ja F x i K):mX (λF K=>ja F x i K) F (tm x) K:=by
 cases x with
 | tmp t=>
  have e:t∈tm (.tmp t):=by simp[tm]
  simp only[ja]at h;cases a:F t with
  | hold k l=>
   rw[a]at h;cases k with
   | tup n=>
    simp only at h;cases b:Ak n i with
    | none=>rw[b]at h;exact h.elim
    | some p=>
     rw[b]at h;simp only at h;cases c:aV (bv l p.1 (p.2.getD 1)) with
     | true=>rw[c]at h;exact⟨_,h,CP _ _ _ _,λo f q g=>by simp only[ja,(f t e).1,a,b,c,cond_true];exact g⟩
     | false=>rw[c]at h;exact⟨_,h,λd j=>.inl (by simp[AV.uses]at j;subst j;exact e),λo f q g=>by simp only[ja,(f t e).1,a,b,c,cond_false];exact g⟩
   | _=>exact h.elim
  | _=>rw[a]at h;exact h.elim
 | _=>exact h.elim
theorem M9{T:Nat}{x:Operand}(h:E7 TE F T x K):mX (λF K=>E7 TE F T x K) F (tm x) K:=by
 unfold E7 at h;unfold mX E7;split at h
 ·obtain⟨g,i,a,e⟩:=cq h
  match g,i,a with
  | none,[.s o rows],a=>exact⟨_,Ln.out a,CP _ _ _ _,λb c f d=>e b c _ (Ln.mk rfl d)⟩
  | none,[.z],a=>exact⟨_,a,CP _ _ _ _,λb c f d=>e b c _ d⟩
 ·obtain⟨z,a,e⟩:=iw h
  cases z with
  | string s=>exact⟨_,Ln.out a,CP _ _ _ _,λb c f d=>e b c _ (Ln.mk rfl d)⟩
  | _=>exact a.elim
 ·exact h.elim
theorem ME{T:Nat}{x:Operand}(h:EQ TE F T x K):mX (λF K=>EQ TE F T x K) F (tm x) K:=by
 unfold EQ at h;unfold mX EQ;split at h
 ·obtain⟨b,c,a,d⟩:=cq h
  match b,c,a with
  | none,[.s o rows],a=>exact⟨_,a.out.2,CP _ _ _ _,λe f i g=>d e f _ (Nn.mk a.out.1 g)⟩
 ·exact h.elim
theorem Mh{f:BinOp}{T:Nat}{x y:Operand}(h:EY P F f T x y K):mX (λF K=>EY P F f T x y K) F (tm x++tm y) K:=by
 unfold EY at h;unfold mX EY;obtain⟨j,C,k,l⟩:=cq h;obtain⟨ag2,ds,a,b⟩:=cq k
 match j,ag2,a with
 | some n,some m,c=>
  obtain⟨o,p,q⟩:=np c;obtain⟨t,u,w⟩:=np p;obtain⟨r,A,B⟩:=u.out;exact⟨_,B,CP _ _ _ _,λg i D d=>l g (i.mono λ_ e=>List.mem_append_left _ e) _ (b g (i.mono λ_ e=>List.mem_append_right _ e) _ (by rw[q,w];exact Fi o (Fi t (H0.mk A d))))⟩
theorem y2{x:Operand}{F':Nat->AV}(a:iA F F' (tm x)):isAgg F' x=isAgg F x:=by
 cases x with
 | tmp t=>unfold isAgg;simp only;rw[(a t (by simp[tm])).1]
 | _=>rfl
def tms(xs:List Operand):List Nat:=xs.flatMap tm
theorem L8{x:Operand}{k:Bool->RA->Prop}(h:argV F x k):∃b A,k b A/\∀F':Nat->AV,iA F F' (tm x)->∀i:Bool->RA->Prop,i b A->argV F' x i:=by
 have key:∀F':Nat->AV,iA F F' (tm x)->lO F' x=lO F x:=λF' j=>j.ev
 have w:∀n,lO F x=n->gQ F n (tW k)->(∀F' i,lO F' x=n->(argV F' x i=gQ F' n (tW i)))->∃b A,k b A/\∀F':Nat->AV,iA F F' (tm x)->∀i:Bool->RA->Prop,i b A->argV F' x i:=λn a D B=>by
  obtain⟨E,q,o,C⟩:=cq (x:=x) (by rw[a];exact D);unfold tW at o;cases u:aV q with
  | true=>
   rw[u]at o;refine⟨true,_,o,λF' j i d=>?_⟩;have p:=key F' j;rw[B F' i (p.trans a),<-a,<-p];exact C F' j _ (by unfold tW;rw[u];exact d)
  | false=>
   rw[u]at o;refine⟨false,_,o,λF' j i d=>?_⟩;have p:=key F' j;rw[B F' i (p.trans a),<-a,<-p];exact C F' j _ (by unfold tW;rw[u];exact d)
 have c:=h;unfold argV at c;cases a:lO F x with
 | hold G q=>
  rw[a]at c;cases G with
  | box=>exact⟨false,_,c,λF' j i d=>by unfold argV;rw[key F' j,a];exact d⟩
  | one=>exact w _ a c λF' i e=>by unfold argV;rw[e];rfl
  | agg=>exact w _ a c λF' i e=>by unfold argV;rw[e];rfl
  | tup K=>exact c.elim
 | bor t l H E=>rw[a]at c;exact w _ a c λF' i e=>by unfold argV;rw[e]
 | ref t l H=>
  rw[a]at c;simp only at c;split at c
  ·rename_i q J
   refine⟨false,_,c,λF' j i d=>?_⟩;unfold argV;rw[key F' j,a];have:F' t=.hold .box q:=by
    cases x with
    | tmp s=>exact(j s (by simp[tm])).2 t (by show AV.uses t (F s)=true;rw[show F s=_ from a];simp[AV.uses]) _ _ J
    | const v=>simp only[lO]at a;have:=kD v t;rw[a]at this;simp[AV.uses]at this
    | global g=>cases a
    | func f=>cases a
   simp only[this];exact d
  ·exact c.elim
 | iref r l=>
  rw[a]at c;simp only at c;cases y:Nat.beq l 0 with
  | false=>rw[y]at c;exact c.elim
  | true=>rw[y]at c;exact⟨true,_,c,λF' j i d=>by unfold argV;rw[key F' j,a];simp only[y];exact d⟩
 | fv Ok=>rw[a]at c;exact⟨true,_,c,λF' j i d=>by unfold argV;rw[key F' j,a];exact d⟩
 | fn f caps=>rw[a]at c;exact c.elim
 | dead=>rw[a]at c;exact c.elim
theorem na:∀{cs:List Nat}{k:List RA->Prop},l7 F cs k->∃D,k D/\∀F':Nat->AV,(∀t,t∈cs->∀j xs,F t=.hold j xs->F' t=.hold j xs)->∀d:List RA->Prop,d D->l7 F' cs d
 | [],k,h=>⟨[],h,λ_ _ _ h=>h⟩
 | c::cs,k,h=>by
  simp only[l7]at h;split at h
  ·rename_i xs e
   obtain⟨D,f,g⟩:=na h;exact⟨_,f,λF' b d a=>by simp only[l7,b c (O1 ..) _ _ e];exact g F' (λt i=>b t (Q4 _ i)) _ a⟩
  ·rename_i xs e
   obtain⟨D,f,g⟩:=na h;exact⟨_,f,λF' b d a=>by simp only[l7,b c (O1 ..) _ _ e];exact g F' (λt i=>b t (Q4 _ i)) _ a⟩
  ·rename_i xs e
   obtain⟨D,f,g⟩:=na h;exact⟨_,f,λF' b d a=>by simp only[l7,b c (O1 ..) _ _ e];exact g F' (λt i=>b t (Q4 _ i)) _ a⟩
  ·exact h.elim
theorem GB{F':Nat->AV}{t:Nat}{ts:List Nat}{f:FuncId}{caps:List Nat}(b:iA F F' ts)(d:t∈ts)(e:F t=.fn f caps):∀c,c∈caps->∀a xs,F c=.hold a xs->F' c=.hold a xs:=λc g a xs h=>
 (b t d).2 c (by rw[e];simp only[AV.uses,I3];exact⟨c,g,Nat.beq_refl c⟩) a xs h
theorem Ko{x:Operand}{k:Bool->RA->Prop}(h:argA P F x k):∃b A,k b A/\∀F':Nat->AV,iA F F' (tm x)->∀e:Bool->RA->Prop,e b A->argA P F' x e:=by
 have j:=h;unfold argA at j;split at j
 ·rename_i f caps a
  obtain⟨D,l,n⟩:=na j;obtain⟨Q,q,r,u⟩:=l;refine⟨false,_,u,λF' i e d=>?_⟩;unfold argA;rw[i.ev,a];refine n F' ?_ _ ⟨Q,q,r,d⟩;cases x with
  | tmp s=>exact GB i (t:=s) (by simp[tm]) a
  | const v=>
   intro c o;simp only[lO]at a;have:=kD v c;rw[a]at this;simp only[AV.uses]at this;have w:caps.any (Nat.beq · c)=true:=I3.2 ⟨c,o,Nat.beq_refl c⟩;rw[w]at this;cases this
  | global g=>cases a
  | func f=>cases a;intro c o;cases o
 ·rename_i p
  obtain⟨b,A,l,n⟩:=L8 j;refine⟨b,A,l,λF' i e d=>?_⟩;have:=n F' i e d;unfold argA;rw[i.ev];split
  ·rename_i f caps a;exact absurd a (p f caps)
  ·exact this
theorem w9:∀{xs:List Operand}{k:Bool->List RA->Prop},y4 P F xs k->∃b A,k b A/\∀F':Nat->AV,iA F F' (tms xs)->∀c:Bool->List RA->Prop,c b A->y4 P F' xs c
 | [],k,h=>⟨true,[],h,λ_ _ _ h=>h⟩
 | x::xs,k,h=>by
  obtain⟨n,A,d,g⟩:=Ko h;obtain⟨b,As,d,e⟩:=w9 d;have i:∀{F':Nat->AV},iA F F' (tms (x::xs))->iA F F' (tm x):=λa=>a.mono (by simp +contextual [tms])
  have j:∀{F':Nat->AV},iA F F' (tms (x::xs))->iA F F' (tms xs):=λa=>a.mono (λt l=>by simp only[tms,I5,Q2];exact .inr l)
  exact⟨_,_,d,λF' a c f=>g F' (i a) _ (e F' (j a) _ f)⟩
theorem yX:∀{xs:List Operand}{k:List (Option Nat × List C)->Prop},argsV F xs k->∃L,k L/\∀F':Nat->AV,iA F F' (tms xs)->∀b:List (Option Nat × List C)->Prop,b L->argsV F' xs b
 | [],k,h=>⟨[],h,λ_ _ _ h=>h⟩
 | x::xs,k,h=>by
  obtain⟨l,n,c,f⟩:=cq h;obtain⟨L,c,d⟩:=yX c;have g:∀{F':Nat->AV},iA F F' (tms (x::xs))->iA F F' (tm x):=λa=>a.mono (by simp +contextual [tms])
  have i:∀{F':Nat->AV},iA F F' (tms (x::xs))->iA F F' (tms xs):=λa=>a.mono (λt j=>by simp only[tms,I5,Q2];exact .inr j)
  exact⟨_,c,λF' a b e=>f F' (g a) _ (d F' (i a) _ e)⟩
theorem Kw{f:Nat}{xs:List Operand}(h:Gj P F f xs K):mX (λF K=>Gj P F f xs K) F (tms xs) K:=by
 obtain⟨b,A,a,c⟩:=w9 h;obtain⟨d,k,rcs,e,g,i⟩:=a.out;exact⟨_,i,CP _ _ _ _,λj l o n=>c j l _ (.mk_ ⟨d,k,rcs,e,g,n⟩)⟩
theorem HQ{t:Nat}{xs:List Operand}(h:kU P F t xs K):mX (λF K=>kU P F t xs K) F (t::tms xs) K:=by
 have d:=h;unfold kU at d;split at d
 ·rename_i f caps g
  obtain⟨b,A,e,i⟩:=w9 d;obtain⟨D,e,j⟩:=na e;obtain⟨u,k,rcs,l,n,o⟩:=e.out;refine⟨_,o,CP _ _ _ _,λa c p q=>?_⟩;show kU P a t xs p;unfold kU;rw[(c t (O1 ..)).1,g];exact i a (c.mono λt r=>Q4 _ r) _ (j a (GB c (O1 ..) g) _ (.mk_ ⟨u,k,rcs,l,n,q⟩))
 ·rename_i Ok g
  obtain⟨L,e,i⟩:=yX d;obtain⟨Q,k,rcs,l,n,o⟩:=e;refine⟨_,o,CP _ _ _ _,λa c p q=>?_⟩;show kU P a t xs p;unfold kU;rw[(c t (O1 ..)).1,g];exact i a (c.mono λt r=>Q4 _ r) _ ⟨Q,k,rcs,l,n,q⟩
 ·exact d.elim
theorem iP{T:Nat}{k:Nat->TI->Prop}(h:FV TE T k):∃e a,k e a/\∀b:Nat->TI->Prop,b e a->FV TE T b:=by
 unfold FV at h;split at h
 case h_2=>exact h.elim
 rename_i e d;split at h
 case h_2=>exact h.elim
 rename_i a f;cases c:(Nat.beq a.zero.length a.size&&Nat.ble 1 a.size) with
 | false=>rw[c]at h;exact h.elim
 | true=>rw[c]at h;exact⟨e,a,h,λb g=>by unfold FV;simp only[d,f,c,cond_true];exact g⟩
theorem qj{x:Operand}{k:Int->Prop}(h:Ea F x k):∃n,k n/\∀F':Nat->AV,iA F F' (tm x)->∀a:Int->Prop,a n->Ea F' x a:=by
 obtain⟨z,b,c⟩:=iw h;cases z with
 | int f n=>exact⟨n,b,λF' d a e=>c F' d _ e⟩
 | _=>exact b.elim
def otm(x:Option Operand):List Nat:=x.toList.flatMap tm
theorem FX{x:Option Operand}{k:Option Int->Prop}(h:Lb F x k):∃n,k n/\∀F':Nat->AV,iA F F' (otm x)->∀a:Option Int->Prop,a n->Lb F' x a:=by
 cases x with
 | none=>exact⟨none,h,λ_ _ _ b=>b⟩
 | some x=>
  obtain⟨n,c,d⟩:=qj h;exact⟨some n,c,λF' e a b=>d F' (e.mono (by simp +contextual [otm])) _ b⟩
theorem sS{i:Nat->Option (Nat × Nat)} : ∀{parts:List (Nat × Operand)}{cs:List C}{k:List C->Prop},fillP F i parts cs k->∃a,k a/\∀F':Nat->AV,iA F F' (tms (parts.map (·.2)))->∀c:List C->Prop,c a->fillP F' i parts cs c
 | [],cs,k,h=>⟨cs,h,λ_ _ _ h=>h⟩
 | p::rest,cs,k,h=>by
  simp only[fillP]at h;split at h
  case h_2=>exact h.elim
  rename_i q l;obtain⟨r,xs,b,n⟩:=cq h;cases d:(aV xs&&Nat.beq xs.length q.2&&Nat.ble (q.1+q.2) cs.length) with
  | false=>rw[d]at b;exact b.elim
  | true=>
   rw[d]at b;simp only[cond_true,dr]at b;obtain⟨a,e,f⟩:=sS b;refine⟨a,e,λF' j c g=>?_⟩;simp only[fillP,l];refine n F' (j.mono (by simp +contextual [tms])) _ ?_;rw[d];simp only[cond_true,dr];exact f F' (j.mono (λt o=>by simp only[tms,X4,I5,Q2];exact .inr o)) _ g
theorem Hg{T:Nat}{parts:List (Nat × Operand)}(h:pN TE F T parts K):mX (λF K=>pN TE F T parts K) F (tms (parts.map (·.2))) K:=by
 unfold pN at h;unfold mX pN;split at h
 case h_2=>exact h.elim
 rename_i size bytes zero flds i;cases a:wo TE flds with
 | false=>rw[a]at h;exact h.elim
 | true=>
  rw[a]at h;obtain⟨b,c,d⟩:=sS h;exact⟨_,c,CP _ _ _ _,λe f j g=>by simp only[cond_true];exact d e f _ g⟩
theorem Fo{T n:Nat}{parts:List (Nat × Operand)}(h:u5 TE F T n parts K):mX (λF K=>u5 TE F T n parts K) F (tms (parts.map (·.2))) K:=by
 obtain⟨e,j,a,f⟩:=iP h;cases c:Nat.ble (n*j.size) 16777216 with
 | false=>rw[c]at a;exact a.elim
 | true=>
  rw[c]at a;simp only[cond_true]at a;split at a
  ·exact⟨_,a,CP _ _ _ _,λg i k d=>f _ (by rw[c];exact d)⟩
  ·rw[dr]at a
   obtain⟨l,b,o⟩:=sS a;rw[nY]at b;exact⟨_,b,CP _ _ _ _,λg i k d=>f _ (by rw[c];simp only[cond_true,dr];exact o g i _ (by rw[nY];exact d))⟩
  ·exact a.elim
theorem JM{T:Nat}{x y:Operand}(h:Gw TE F T x y K):mX (λF K=>Gw TE F T x y K) F (tm x++tm y) K:=by
 obtain⟨e,r,a,g⟩:=iP h;obtain⟨j,k,a,i⟩:=cq a
 match j,k,a with
 | none,[.z],a=>
  obtain⟨ag2,cs2,a,b⟩:=cq a
  match ag2,cs2,a with
  | none,[.s o rows],a=>
   obtain⟨l,n,p,a⟩:=a.out;exact⟨_,a,CP _ _ _ _,λc d q f=>g _ (i c (d.mono (by simp +contextual)) _ (b c (d.mono (by simp +contextual)) _ (Fl.mk l n p f)))⟩
  | none,[.z],a=>
   exact⟨_,a,CP _ _ _ _,λc d q f=>g _ (i c (d.mono (by simp +contextual)) _ (b c (d.mono (by simp +contextual)) _ f))⟩
theorem K6{T:Nat}{x y:Operand}(h:Gp TE F T x y K):mX (λF K=>Gp TE F T x y K) F (tm x++tm y) K:=by
 obtain⟨e,r,a,g⟩:=iP h;obtain⟨l,a,i⟩:=qj a;obtain⟨c,a,b⟩:=qj a;obtain⟨n,j,k,o,p,a⟩:=a.out;exact⟨_,a,CP _ _ _ _,λd f t q=>g _ (i d (f.mono (by simp +contextual)) _ (b d (f.mono (by simp +contextual)) _ (Mk.mk n j k o p rfl q)))⟩
theorem Lo{T:Nat}{x y:Operand}{ok:Bool}(h:uX TE F T x y ok K):mX (λF K=>uX TE F T x y ok K) F (tm x++tm y) K:=by
 unfold uX at h;split at h
 case h_2=>exact h.elim
 rename_i i;cases ok with
 | true=>exact h.elim
 | false=>
  simp only[cond_false]at h;obtain⟨j,k,b,c⟩:=cq h
  match j,k,b,c with
  | none,[.m es],b,c=>
   obtain⟨v,d,a⟩:=iw b
   match v,d,a with
   | .int .i64 z,d,a=>
    refine⟨_,d.out,CP _ _ _ _,λf g l e=>?_⟩;simp only[uX,i,cond_false];exact c f (g.mono (by simp +contextual)) _ (a f (g.mono (by simp +contextual)) _ (Ml.mk rfl e))
theorem HZ{T:Nat}{x:Operand}{lo j:Option Operand}(h:AX TE F T x lo j K):mX (λF K=>AX TE F T x lo j K) F (tm x++otm lo++otm j) K:=by
 obtain⟨e,q,b,t⟩:=iP h;obtain⟨l,b,u⟩:=FX b;obtain⟨r,b,g⟩:=FX b;obtain⟨w,A,b,i⟩:=cq b;have back:∀(c:List (List C))(k:List (List C)->Prop),Sl c q.size l r k->∃a,k a/\∀n:List (List C)->Prop,n a->Sl c q.size l r n:=λc k h=>by
  obtain⟨x,y,B,D,E,G,H,J⟩:=h.out;exact⟨_,J,λn b=>by refine .mk_ ?_;exact⟨x,y,B,D,E,G,H,_,rfl,b⟩⟩
 match w,A,b with
 | none,[.s .imm c],b=>
  obtain⟨a,b,o⟩:=back _ _ b;exact⟨_,b,CP _ _ _ _,λd f L p=>t _ (u d (f.mono (by simp +contextual)) _ (g d (f.mono (by simp +contextual)) _ (i d (f.mono (by simp +contextual)) _ (o _ p))))⟩
 | none,[.z],b=>
  obtain⟨a,b,o⟩:=back _ _ b;exact⟨_,b,CP _ _ _ _,λd f L p=>t _ (u d (f.mono (by simp +contextual)) _ (g d (f.mono (by simp +contextual)) _ (i d (f.mono (by simp +contextual)) _ (o _ p))))⟩
theorem EC{T:Nat}{x c d:Operand}(h:M7 TE F T x c d K):mX (λF K=>M7 TE F T x c d K) F (tm x) K:=by
 obtain⟨e,q,a,j⟩:=iP h;cases b:N1 c&&N1 d with
 | false=>rw[b]at a;exact a.elim
 | true=>
  rw[b]at a;obtain⟨l,n,a,k⟩:=cq a
  match l,n,a with
  | none,[.s o rows],a=>exact⟨_,a,CP _ _ _ _,λf g p i=>j _ (by rw[b];exact k f g _ i)⟩
  | none,[.z],a=>exact⟨_,a,CP _ _ _ _,λf g p i=>j _ (by rw[b];exact k f g _ i)⟩
theorem Hz{T f:Nat}{x:Operand}(h:pZ TE F T x f K):mX (λF K=>pZ TE F T x f K) F (tm x) K:=by
 unfold pZ at h;split at h
 case h_2=>exact h.elim
 rename_i flds e;split at h
 case h_2=>exact h.elim
 rename_i p g;split at h
 case h_2=>exact h.elim
 rename_i i j;obtain⟨k,d,a,l⟩:=cq h;cases b:(k.isSome&&(i.agg || Nat.beq i.size 1)&&Nat.ble (p.1+i.size) d.length) with
 | false=>rw[b]at a;exact a.elim
 | true=>
  rw[b]at a;simp only[cond_true]at a;cases c:aV (bv d p.1 i.size) with
  | false=>rw[c]at a;exact a.elim
  | true=>
   rw[c]at a;simp only[cond_true,dr]at a;exact⟨_,a,CP _ _ _ _,λn o r q=>by unfold pZ;simp only[e,g,j];exact l n o _ (by rw[b,c];simp only[cond_true,dr];exact q)⟩
theorem LD{b c:Nat}{x:Operand}(h:wD TE F b c x K):mX (λF K=>wD TE F b c x K) F (tm x) K:=by
 unfold wD at h;split at h
 ·rename_i d e
  obtain⟨n,a,f⟩:=qj h;obtain⟨z,g,a⟩:=a.out;exact⟨_,a,CP _ _ _ _,λi j l k=>by unfold wD;simp only[d,e];exact f i j _ (CI g k)⟩
 ·exact h.elim
theorem L1{c:Bool}{x y:Operand}(h:PG c F x y K):mX (λF K=>PG c F x y K) F (tm x++tm y) K:=by
 obtain⟨z,d,g⟩:=iw h;cases z with
 | int k n=>
  obtain⟨m,a,b⟩:=qj d;obtain⟨z,i,a⟩:=a.out;exact⟨_,a,CP _ _ _ _,λe f l j=>g e (f.mono (by simp +contextual)) _ (b e (f.mono (by simp +contextual)) _ (CO i j))⟩
 | _=>exact d.elim
theorem dH.mono{ts ts':List Nat}{av:AV}(h:dH F ts av)(a:∀t,t∈ts->t∈ts'):dH F ts' av:=λd b=>(h d b).imp (a d) (λ⟨t,c,e⟩=>⟨t,a t c,e⟩)
theorem mX.mono{p:(Nat->AV)->(AV->Prop)->Prop}{ts ts':List Nat}(h:mX p F ts K)(a:∀t,t∈ts->t∈ts'):mX p F ts' K:=by
 obtain⟨b,c,d,e⟩:=h;exact⟨b,c,d.mono a,λf g i j=>e f (g.mono a) i j⟩
def cR(o:Op):List Nat:=o.operands.toList.flatMap tm
theorem lL{o:Op}(h:dh P TE F o K):mX (λF K=>dh P TE F o K) F (cR o) K:=by
 cases o with
 | move x=>exact(iX h).mono (by simp[cR,Op.operands])
 | assign x=>exact(iX h).mono (by simp[cR,Op.operands])
 | nilCheck x=>
  cases x with
  | tmp t=>
   have A:t∈tm (.tmp t):=by simp[tm]
   have key:∀a:Nat->AV,a t=F t->∀b,dh P TE a (.nilCheck (.tmp t)) b=(match F t with|.ref ..=>bq a (.tmp t) b|.iref ..=>bq a (.tmp t) b|.hold .box _=>bq a (.tmp t) b|_=>False):=λa e b=>by
    unfold dh;simp only
    first
     |(rw[e];done)
     |(rw[e]
       cases F t with
       | hold k O=>cases k<;>rfl
       | _=>rfl)
   rw[key F rfl]at h;have fin:bq F (.tmp t) K->(∀b (a:Nat->AV),a t=F t->bq a (.tmp t) b->dh P TE a (.nilCheck (.tmp t)) b)->mX (λF K=>dh P TE F (.nilCheck (.tmp t)) K) F (cR (.nilCheck (.tmp t))) K:=λp Q=>by
    obtain⟨B,C,D,E⟩:=iX p;exact⟨B,C,D.mono (by simp[cR,Op.operands]),λa j b g=>Q _ a (j t (by simp[cR,Op.operands,tm])).1 (E a (j.mono (by simp[cR,Op.operands])) b g)⟩
   cases G:F t with
   | hold k O=>
    rw[G]at h;cases k with
    | box=>exact fin h λb a e p=>by rw[key a e,G];exact p
    | _=>exact h.elim
   | ref=>rw[G]at h;exact fin h λb a e p=>by rw[key a e,G];exact p
   | iref=>rw[G]at h;exact fin h λb a e p=>by rw[key a e,G];exact p
   | _=>rw[G]at h;exact h.elim
  | _=>exact h.elim
 | load T x=>exact(K7 h).mono (by simp[cR,Op.operands])
 | fieldAddr T x f=>exact(xI h).mono (by simp[cR,Op.operands])
 | indexAddr T x y=>exact(xV h).mono (by simp[cR,Op.operands])
 | binOp R T x y yT=>
  simp only[dh]at h;cases q:wU R y with
  | true=>
   rw[q]at h;obtain⟨B,C,D,E⟩:=ME h;exact⟨B,C,D.mono (by simp +contextual [cR,Op.operands]),λa j b g=>by simp only[dh,q,cond_true];exact E a (j.mono (by simp +contextual [cR,Op.operands])) b g⟩
  | false=>
   rw[q]at h;have u:∀t,t∈tm x->t∈cR (.binOp R T x y yT):=λt A=>by simp[cR,Op.operands,A]
   cases M:isAgg F x with
   | true=>
    rw[M]at h;obtain⟨B,C,D,E⟩:=Mh h;exact⟨B,C,D.mono (by simp +contextual [cR,Op.operands]),λa j b g=>by
      simp only[dh,q,cond_false];rw[y2 (j.mono u),M];exact E a (j.mono (by simp +contextual [cR,Op.operands])) b g⟩
   | false=>
   rw[M]at h;obtain⟨z,S,J⟩:=iw h;obtain⟨z2,U,V⟩:=iw S;obtain⟨v,W,X⟩:=JW U;refine⟨_,W,CP _ _ _ _,λa j b g=>by simp only[dh,q,cond_false];rw[y2 (j.mono u),M];exact J a (j.mono (by simp +contextual [cR,Op.operands])) _ (V a (j.mono (by simp +contextual [cR,Op.operands])) _ (X _ g))⟩
 | unOp R T x=>
  obtain⟨z,S,J⟩:=iw h;obtain⟨v,W,X⟩:=Mx S;exact⟨_,W,CP _ _ _ _,λa j b g=>J a (j.mono (by simp[cR,Op.operands])) _ (Kh X λv' e=>by rw[e];exact g)⟩
 | pick c x y=>exact(JQ h).mono (by simp[cR,Op.operands])
 | alloc T=>
  simp only[dh]at h;unfold vH at h;split at h
  ·rename_i i L
   exact⟨_,h,CP _ _ _ _,λa _ b g=>by simp only[dh,vH,L];exact g⟩
  ·exact h.elim
 | box T x=>exact(Ng h).mono (by simp[cR,Op.operands])
 | extract x i=>exact(DE h).mono (by simp[cR,Op.operands])
 | build T ps=>exact(Hg h).mono (by simp +contextual [cR,Op.operands,tms])
 | buildSlice T n ps=>exact(Fo h).mono (by simp +contextual [cR,Op.operands,tms])
 | makeSlice T x y=>exact(K6 h).mono (by simp[cR,Op.operands])
 | makeMap T r=>
  simp only[dh,qT]at h |-;split at h
  case h_2=>exact h.elim
  exact⟨_,h,CP _ _ _ _,λa _ b g=>g⟩
 | lookup T x y ok=>exact(Lo h).mono (by simp[cR,Op.operands])
 | slice T x lo hi mx=>
  cases mx with
  | none=>exact(HZ h).mono (by cases lo<;>cases hi<;>simp[cR,Op.operands,otm])
  | some m=>
   cases lo with
   | some _=>exact h.elim
   | none=>
    cases hi with
    | none=>exact h.elim
    | some y=>exact(EC h).mono (by simp +contextual [cR,Op.operands])
 | field T x f=>exact(Hz h).mono (by simp[cR,Op.operands])
 | convert T1 N x=>exact(LD h).mono (by simp[cR,Op.operands])
 | makeFunc fn fs O=>
  simp only[dh]at h;split at h
  ·rename_i f Y
   obtain⟨l,g,J⟩:=pA h;refine⟨_,g,λd hd=>.inl ?_,λa _ b Z=>?_⟩
   ·simp only[AV.uses,I3]at hd
    obtain⟨c,Q,he⟩:=hd;have:=R1 he;subst this;simp only[cR,Op.operands,List.mem_flatMap];refine⟨.tmp c,?_,by simp[tm]⟩;have p:Operand.tmp c∈O.toList:=by rw[J];exact U3.2 ⟨c,Q,rfl⟩
    simpa using .inr (by simpa using p)
   ·simp only[dh,Y]
    rw[J];exact BR l Z
  ·exact h.elim
 | call c=>
  obtain⟨callee,args,ts⟩:=c;simp only[dh]at h;split at h
  ·rename_i f
   exact(Kw h).mono (by simp +contextual [cR,Op.operands,Call.operands,tms])
  ·exact(HQ h).mono (λt A=>by
     rcases List.mem_cons.1 A with rfl|A
     · simp[cR,Op.operands,Call.operands,tm]
     · simp only[tms,List.mem_flatMap]at A
       obtain⟨x,w,hx2⟩:=A;simp only[cR,Op.operands,Call.operands,List.mem_flatMap];exact⟨x,by simp_all,hx2⟩)
  ·split at h
   ·rename_i x T w L
    have H:args = #[x]:=by apply Array.ext';simpa using w
    have e2:ts = #[T]:=by apply Array.ext';simpa using L
    subst H e2;exact(M9 h).mono (by simp[cR,Op.operands,Call.operands])
   ·exact h.elim
  ·split at h
   ·rename_i x y T N w L
    have H:args = #[x,y]:=by apply Array.ext';simpa using w
    have e2:ts = #[T,N]:=by apply Array.ext';simpa using L
    subst H e2;cases q:Nat.beq T N with
    | false=>rw[q]at h;exact h.elim
    | true=>
     rw[q]at h;obtain⟨B,C,D,E⟩:=(JM h).mono (ts':=cR (.call ⟨.builtin .append,#[x,y],#[T,N]⟩)) (by simp[cR,Op.operands,Call.operands]);exact⟨B,C,D,λa j b g=>by simp only[dh,q,cond_true];exact E a j b g⟩
   ·exact h.elim
  ·split at h
   ·rename_i x y w
    have H:args = #[x,y]:=by apply Array.ext';simpa using w
    subst H;exact(L1 h).mono (by simp[cR,Op.operands,Call.operands])
   ·exact h.elim
  ·split at h
   ·rename_i x y w
    have H:args = #[x,y]:=by apply Array.ext';simpa using w
    subst H;exact(L1 h).mono (by simp[cR,Op.operands,Call.operands])
   ·exact h.elim
  ·exact h.elim
 | _=>exact h.elim
end
def cM(o:Oper)(i:Nat):Bool:=o.after.toList.any λe=>Region.binds .any e&&Nat.beq e.on i
def cJ(ops:Array Oper)(i:Nat):Oper:=ops.getD i default
def below(n:Nat)(p:Nat->Bool):Bool:=(List.range n).all p
def sT(ops:Array Oper)(i j:Nat):Bool:=match(cJ ops i).dst with|some d=>((cJ ops j).looksAt ops).any (Nat.beq d)|none=>false
def Er:List Nat->Nat
 | []=>0
 | k::a=>2 ^ k ||| Er a
def ons(o:Oper):List Nat:=(o.after.toList.filter λe=>Region.binds .any e).map (·.on)
def frc{α:Type}(n:Nat)(K:Nat->α):α:=match n with|0=>K 0|n+1=>K (n+1)
theorem J5{α:Type}(n:Nat)(K:Nat->α):frc n K=K n:=by cases n<;>rfl
def clo(ops:Array Oper):Nat->Nat->Nat
 | 0,S=>S
 | k+1,S=>bif S.testBit k then frc (S ||| Er (ons (cJ ops k))) (clo ops k) else clo ops k S
def zp(ops:Array Oper)(m:Nat):Bool:=
 below ops.size λj=>((cJ ops j).after.toList.all λe=>!Region.binds .any e || Nat.blt e.on j) &&
  (bif Nat.blt j m then below m (λi=>Nat.beq i j || ((cM (cJ ops j) i || cM (cJ ops i) j || (cJ ops i).apart ops (cJ ops j))&&(!sT ops i j || cM (cJ ops j) i))) else frc (clo ops j (Er (ons (cJ ops j)))) λS=>below j λi=>S.testBit i)
def uP:List (Nat × Nat × List Nat)->Nat->Option (Nat × List Nat)
 | [],_=>none
 | p::l,id=>bif Nat.beq id p.1 then some p.2 else uP l id
def fW(P:Program)(TE:Nat->Option TI)(N:eU)(ops:Array Oper)(o:Oper)(K:(Nat->AV)->Prop)(F:Nat->AV):Prop:=
 fm F ops o.guard (λF=>match o.dst with|some d=>dh P TE F o.op λa=>bP N F d a K|none=>False)
  (λF=>match o.dst with|some d=>bP N F d (.hold (.tup []) []) K|none=>False)
def lS:Op->Option (Option Nat × Nat)
 | .buildSlice T 1 ps=>(match ps.toList with|[(0,.tmp s)]=>some (some T,s)|_=>none)
 | .move (.tmp s)=>some (none,s)
 | _=>none
def own1(T:Option Nat)(k:Kd)(cs:List C):Bool:=match T with
 | some _=>(match k with
   | .one=>(match cs with|[c]=>dC c|_=>false)
   | .agg=>(match cs with|[c]=>dC c|_=>false)
   | _=>false)
 | none=>(match k with|.tup _=>!aV cs|_=>false)
def Pt(TE:Nat->Option TI)(N:eU)(F:Nat->AV)(d:Nat)(T:Option Nat)(s:Nat)(K:(Nat->AV)->Prop):Prop:=match T with
 | some T=>fx TE N F d T 1 [(0,.tmp s)] K
 | none=>i9 N F d (.tmp s) K
def EG(F:Nat->AV)(o:Oper):Option (Option Nat × Nat):=
 match o.guard with
 | some _=>none
 | none=>match lS o.op with
  | none=>none
  | some p=>match F p.2 with
   | .hold k cs=>bif own1 p.1 k cs then some p else none
   | .dead=>none
   | .ref ..=>none
   | .bor ..=>none
   | .iref ..=>none
   | .fn ..=>none
   | .fv _=>none
def iE(ops:Array Oper)(o:Oper)(s:Nat):Bool:=
 ((List.range ops.size).any λk=>cM o k&&(match(cJ ops k).dst with|some a=>Nat.beq a s|none=>false))&&Nat.ble (ops.toList.filter λk=>(k.looksAt ops).any (Nat.beq s)).length 1
def mY(ds:List Nat)(o:Oper):Bool:=match o.dst with|some d=>ds.any (Nat.beq d)|none=>false
def twk:List Nat->List Nat
 | []=>[]
 | e::l=>bif Nat.ble 1000 e then(e - 1000)::twk l else []
def dec:List Nat->List (Nat × List Nat)
 | []=>[]
 | e::l=>bif Nat.ble 1000 e then dec l else(e,twk l)::dec l
def NL:Op->Bool
 | .move (.tmp _)=>true
 | .assign _=>true
 | .extract ..=>true
 | .build ..=>true
 | .buildSlice ..=>true
 | .store ..=>true
 | .load ..=>true
 | .fieldAddr ..=>true
 | .field ..=>true
 | .binOp ..=>true
 | .unOp ..=>true
 | .call c=>(qu c).isSome
 | _=>false
def Ga:Op->Bool
 | .call c=>(match c.callee with|.value (.func _)=>true|_=>false)
 | _=>false
def oR(l:List (Nat × List Nat))(i:Nat):Bool:=l.any λp=>Nat.beq p.1 i
def tL(ops:Array Oper)(j i:Nat):Bool:=(clo ops j (Er (ons (cJ ops j)))).testBit i
def P5(o:Oper):Bool:=match o.guard with|none=>true|some _=>false
def PS(sch:List (Nat × List Nat))(i:Nat):Bool:=sch.any λp=>Nat.beq p.1 i&&!p.2.isEmpty
def PH(ops:Array Oper)(b a:Oper)(nm:Bool):Bool:=match a.dst with
 | none=>false
 | some c=>P5 b&&NL b.op&&!(match b.dst with|some d=>Nat.beq d c|none=>false)&&!(b.looksAt ops).any (Nat.beq c)&&P5 a&&!(a.looksAt ops).any (Nat.beq c)&&(nm || match lS a.op with|none=>true|some p=>!iE ops a p.2)
def zi(ops:Array Oper)(ds:List Nat)(nm:Nat->Bool)(i j:Nat):Bool:=
 bif mY ds (cJ ops j) then(bif mY ds (cJ ops i) then(cM (cJ ops j) i || cM (cJ ops i) j || (cJ ops i).apart ops (cJ ops j))&&(!sT ops i j || cM (cJ ops j) i)&&!(match(cJ ops i).dst with|some d=>(match(cJ ops j).dst with|some e=>Nat.beq d e|none=>false)|none=>false) else true)
 else(bif mY ds (cJ ops i) then(tL ops j i || tL ops i j || PH ops (cJ ops j) (cJ ops i) (nm i))&&(!sT ops i j || cM (cJ ops j) i) else true)
def BQ(ops:Array Oper)(ds:List Nat):List (Nat × List Nat)->Bool
 | []=>true
 | k::l=>Nat.blt k.1 ops.size&&!oR l k.1&&((cJ ops k.1).after.toList.all λe=>!Region.binds .any e || !(Nat.beq k.1 e.on || oR l e.on)) &&
  (mY ds (cJ ops k.1) || ((l.all λj=>tL ops j.1 k.1)&&(below ops.size λp=>!mY ds (cJ ops p) || oR l p || tL ops k.1 p || k.2.any (Nat.beq p))&&(!(l.any λj=>mY ds (cJ ops j.1)) || (P5 (cJ ops k.1)&&(NL (cJ ops k.1).op || Ga (cJ ops k.1).op)))))&&BQ ops ds l
def AJ(ops:Array Oper)(ds:List Nat)(sch:List (Nat × List Nat)):Bool:=
 (below ops.size λj=>((cJ ops j).after.toList.all λe=>!Region.binds .any e || Nat.blt e.on j)&&oR sch j&&(!mY ds (cJ ops j) || (match lS (cJ ops j).op with|none=>true|some p=>!iE ops (cJ ops j) p.2 || ds.any (Nat.beq p.2)))&&below ops.size λi=>Nat.beq i j || zi ops ds (PS sch) i j)&&Nat.beq sch.length ops.size&&BQ ops ds sch
def ma(tb:List (Nat × Nat × List Nat))(id:Nat)(ops:Array Oper):Bool:=
 match uP tb id with
 | some (m,ds)=>bif Nat.ble 65536 m then true else bif Nat.ble 256 m then AJ ops (ds.take (m - 256)) (dec (ds.drop (m - 256))) else(Nat.ble m ops.size&&below m λj=>match(cJ ops j).dst with|some d=>ds.any (Nat.beq d)|none=>true)&&zp ops m
 | none=>false
def jX(P:Program)(TE:Nat->Option TI)(N:eU)(ops:Array Oper)(o:Oper)(K:(Nat->AV)->Prop)(F:Nat->AV):Prop:=
 match EG F o with
 | some p=>(match o.dst with|some d=>bif iE ops o p.2 then Pt TE N F d p.1 p.2 K else False|none=>False)
 | none=>fW P TE N ops o K F
def KJ(P:Program)(TE:Nat->Option TI)(N:eU)(ops:Array Oper):Nat->List Oper->((Nat->AV)->Prop)->(Nat->AV)->Prop
 | 0,l,K,F=>GZ P TE N ops l K F
 | _+1,[],K,F=>K F
 | m+1,o::l,K,F=>jX P TE N ops o (KJ P TE N ops m l K) F
def Mn(ds:List Nat)(t:Nat):Bool:=ds.any (Nat.beq t)
def PV(ds:List Nat):AV->AV
 | .ref t off st=>bif Mn ds t then .dead else .ref t off st
 | .bor t off st ag=>bif Mn ds t then .dead else .bor t off st ag
 | .fn f caps=>bif caps.any (Mn ds) then .dead else .fn f caps
 | .hold k cs=>.hold k cs
 | .iref r off=>.iref r off
 | .fv Ok=>.fv Ok
 | .dead=>.dead
def clr(ds:List Nat)(F:Nat->AV):Nat->AV:=λt=>PV ds (F t)
theorem A7(ds:List Nat)(F:Nat->AV)(t:Nat):clr ds F t=bif ds.any (λd=>(F t).uses d) then .dead else F t:=by
 unfold clr;cases F t with
 | dead=>cases ds.any λd=>AV.uses d .dead<;>rfl
 | hold k i=>
  have:ds.any (λd=>(AV.hold k i).uses d)=false:=by
   rw[<-R4,I3]
   rintro⟨d,_,h⟩
   cases h
  rw[this];rfl
 | iref r a=>
  have:ds.any (λd=>(AV.iref r a).uses d)=false:=by
   rw[<-R4,I3]
   rintro⟨d,_,h⟩
   cases h
  rw[this];rfl
 | fv Ok=>
  have:ds.any (λd=>(AV.fv Ok).uses d)=false:=by
   rw[<-R4,I3]
   rintro⟨d,_,h⟩
   cases h
  rw[this];rfl
 | ref j a l=>rfl
 | bor j a l n=>rfl
 | fn f caps=>
  have:ds.any (λd=>(AV.fn f caps).uses d)=caps.any (Mn ds):=by
   rw[Z3,I3,I3];constructor
   ·rintro⟨d,b,h⟩
    simp only[AV.uses,I3]at h;obtain⟨c,e,g⟩:=h;exact⟨c,e,I3.2 ⟨d,b,g⟩⟩
   ·rintro⟨c,e,h⟩
    obtain⟨d,b,g⟩:=I3.1 h;exact⟨d,b,by simp only[AV.uses,I3];exact⟨c,e,g⟩⟩
  rw[this];rfl
inductive Sm(a b:AV)(K:Prop):Prop
 |mk_ (h:a=b/\K)
theorem Sm.rf{a:AV}{K:Prop}(h:K):Sm a a K:=.mk_ ⟨rfl,h⟩
theorem C9:type_of% @Sm.rf:=@Sm.rf
theorem Sm.out{a b:AV}{K:Prop}(h:Sm a b K):a=b/\K:=h.1
def Py(P:Program)(TE:Nat->Option TI)(ops:Array Oper)(p:Nat)(K:Prop)(F:Nat->AV):Prop:=
 match(cJ ops p).dst with
 | none=>False
 | some d=>(match EG F (cJ ops p) with
   | some _=>False
   | none=>dh P TE F (cJ ops p).op λa=>Sm a (F d) K)
def L9(P:Program)(TE:Nat->Option TI)(ops:Array Oper):List Nat->Prop->(Nat->AV)->Prop
 | [],K,_=>K
 | p::l,K,F=>Py P TE ops p (L9 P TE ops l K F) F
def Lj(P:Program)(TE:Nat->Option TI)(N:eU)(ops:Array Oper)(nm:Bool)(o:Oper)(K:(Nat->AV)->Prop)(F:Nat->AV):Prop:=
 match nm with
 | false=>jX P TE N ops o K F
 | true=>(match EG F o with
   | some _=>False
   | none=>fW P TE N ops o K F)
def H9(P:Program)(TE:Nat->Option TI)(N:eU)(ops:Array Oper)(ds:List Nat)(nm:Nat->Bool):List (Nat × List Nat)->((Nat->AV)->Prop)->(Nat->AV)->Prop
 | [],K,F=>K F
 | k::l,K,F=>bif mY ds (cJ ops k.1) then Lj P TE N ops (nm k.1) (cJ ops k.1) (H9 P TE N ops ds nm l K) F else jv P TE N ops (cJ ops k.1) (λa=>L9 P TE ops k.2 (H9 P TE N ops ds nm l K a) a) F
def MC:List Nat->(List Nat->Prop)->Prop
 | [],K=>K []
 | a::l,K=>MC l λb=>K (a::b)
theorem Gs:∀(l:List Nat)(K:List Nat->Prop),MC l K=K l
 | [],_=>rfl
 | a::l,K=>by rw[MC,Gs l]
def AL(l:List Nat)(j:Nat):Bool:=l.any (Nat.beq j)
def J1(ops:Array Oper)(done:List Nat):List Nat:=(List.range ops.size).filter λj=>!AL done j&&((cJ ops j).after.toList.all λe=>!Region.binds .any e || AL done e.on)
def PU(p:Nat->Prop):Nat->List Nat->Prop
 | i,[]=>p i
 | i,j::l=>p i/\PU p j l
def PZ(l:List Nat)(K:Prop)(p:Nat->Prop):Prop:=match l with
 | []=>K
 | i::l=>PU p i l
def Pk(P:Program)(TE:Nat->Option TI)(N:eU)(ops:Array Oper)(K:(Nat->AV)->Prop):Nat->List Nat->(Nat->AV)->Prop
 | 0,done,F=>PZ (J1 ops done) (K F) λ_=>False
 | n+1,done,F=>PZ (J1 ops done) (K F) λi=>jv P TE N ops (cJ ops i) (Pk P TE N ops K n (i::done)) F
def DD(P:Program)(TE:Nat->Option TI)(N:eU)(tb:List (Nat × Nat × List Nat))(id:Nat)(ops:Array Oper)(K:(Nat->AV)->Prop)(F:Nat->AV):Prop:=
 match uP tb id with
 | some (m,ds)=>bif Nat.ble 65536 m then Pk P TE N ops K ops.size [] F else bif Nat.ble 256 m then MC (ds.take (m - 256)) λa=>H9 P TE N ops a (PS (dec (ds.drop (m - 256)))) (dec (ds.drop (m - 256))) K (clr a F) else KJ P TE N ops m ops.toList K (clr ds F)
 | none=>False
theorem fQ{n:Nat}{p:Nat->Bool}(h:below n p=true){i:Nat}(a:i<n):p i=true:=O3.1 h i (List.mem_range.2 a)
theorem bY{o:Oper}{i:Nat} : cM o i=true↔∃e,e∈o.after/\Region.binds .any e=true/\e.on=i:=by
 unfold cM;rw[I3];constructor
 ·rintro⟨e,b,a⟩
  simp only[I0]at a;exact⟨e,by simpa using b,a.1,R1 a.2⟩
 ·rintro⟨e,b,a,rfl⟩
  exact⟨e,by simpa using b,by rw[a,Nat.beq_refl];rfl⟩
theorem aW{ops:Array Oper}{i:Nat}{o:Oper}(h:ops[i]? = some o):cJ ops i=o:=by simp[cJ,C5,h]
section
variable{P:Program}{w0 w w1:World}{M S0 S:ac}{N:eU}{φ:Nat->ac}{F:Nat->AV}{a:Act}{TE:Nat->Option TI}{ops:Array Oper}
theorem sJ{d:Nat}{b:Bool}(a:F d=.hold .one [.v (.bool b)]):Dc F d b=F:=by
 funext t
 unfold Dc;cases c:Nat.beq t d with
 | true=>have:=R1 c;subst this;rw[a];rfl
 | false=>rfl
theorem fS(o:Oper)(t:Nat)(h:t∈cR o.op):t∈o.looksAt ops:=by
 unfold Oper.looksAt;refine List.mem_append_left _ ?_;unfold cR at h;obtain⟨x,b,a⟩:=List.mem_flatMap.1 h;refine List.mem_filterMap.2 ⟨x,b,?_⟩;cases x with
 | tmp c=>simp[tm]at a;subst a;rfl
 | _=>simp[tm]at a
structure Qr(P:Program)(TE:Nat->Option TI)(N:eU)(ops:Array Oper)(o:Oper)(F:Nat->AV)(d:Nat)(av:AV):Prop where
 dst:o.dst=some d
 lt:N.free d=true
 self:av.uses d=false
 from_:dH F (o.looksAt ops) av
 at_:∀F':Nat->AV,iA F F' (o.looksAt ops)->∀K':(Nat->AV)->Prop,K' (put F' d av)->fW P TE N ops o K' F'
theorem iA.refl(F:Nat->AV)(ts:List Nat):iA F F ts:=λ_ _=>⟨rfl,λ_ _ _ _ h=>h⟩
theorem wS{o:Oper}{K:(Nat->AV)->Prop}(h:fW P TE N ops o K F):∃d av,Qr P TE N ops o F d av/\K (put F d av):=by
 cases i:o.dst with
 | none=>
  exfalso;unfold fW at h;rw[i]at h;unfold fm at h;cases q:o.guard with
  | none=>rw[q]at h;exact h
  | some p=>
   obtain⟨j,want⟩:=p;rw[q]at h;simp only at h;cases A:(ops[j]?).bind (·.dst) with
   | none=>rw[A]at h;exact h
   | some D=>
    rw[A]at h;simp only at h;split at h
    ·rename_i b _
     replace h:=Bf.out h;cases b<;>cases want<;>exact h
    ·exact h
    ·exact h
 | some d=>
  have put1:∀{a:Nat->AV}{av:AV}{c:(Nat->AV)->Prop},N.free d=true->av.uses d=false->c (put a d av)->bP N a d av c:=λB C H=>by unfold bP;rw[B,C];exact H
  have put2:∀{a:Nat->AV}{av:AV}{c:(Nat->AV)->Prop},bP N a d av c->N.free d=true/\av.uses d=false/\c (put a d av):=fun {a av c} n=>by
   unfold bP at n;cases E:(N.free d&&!av.uses d) with
   | false=>rw[E]at n;exact n.elim
   | true=>
    rw[E]at n;simp only[I0,Bool.not_eq_true']at E;exact⟨E.1,E.2,n⟩
  have pure1:dh P TE F o.op (λav=>bP N F d av K)->∃av,N.free d=true/\av.uses d=false/\K (put F d av)/\dH F (o.looksAt ops) av/\∀a:Nat->AV,iA F a (o.looksAt ops)->∀c:(Nat->AV)->Prop,c (put a d av)->dh P TE a o.op (λav=>bP N a d av c):=λn=>by
   obtain⟨av,B,C,H⟩:=lL n;obtain⟨k,l,r⟩:=put2 B;refine⟨av,k,l,r,C.mono λt J=>fS o t J,λa f c u=>?_⟩;exact H a (f.mono λt J=>fS o t J) _ (put1 k l u)
  unfold fW at h;rw[i]at h;unfold fm at h;cases q:o.guard with
  | none=>
   rw[q]at h;obtain⟨av,k,l,r,L,M⟩:=pure1 h;exact⟨d,av,⟨i,k,l,L,λa f c u=>by unfold fW fm;rw[q,i];exact M a f c u⟩,r⟩
  | some p=>
   obtain⟨j,want⟩:=p;rw[q]at h;simp only at h;cases A:(ops[j]?).bind (·.dst) with
   | none=>rw[A]at h;exact h.elim
   | some D=>
    rw[A]at h;simp only at h;have G:D∈o.looksAt ops:=by
     unfold Oper.looksAt;rw[q];simp only[A,Option.toList_some];simp
    split at h
    case h_3=>exact h.elim
    case h_2=>
     rename_i Q R w;obtain⟨k,l,r⟩:=put2 h;refine⟨d,.hold (.tup []) [],⟨i,k,l,(λd i=>by cases i),λa f c u=>?_⟩,r⟩;unfold fW fm;rw[q,i];simp only;rw[A];simp only;rw[(f D G).1.trans w];exact put1 k l u
    rename_i b w;have same:∀{a:Nat->AV},iA F a (o.looksAt ops)->a D=.hold .one [.v (.bool b)]:=λf=>(f D G).1.trans w
    have back:∀{a:Nat->AV}{c:(Nat->AV)->Prop},iA F a (o.looksAt ops)->(b=want->dh P TE a o.op (λav=>bP N a d av c))->(b = !want->bP N a d (.hold (.tup []) []) c)->fW P TE N ops o c a:=fun {a c} f B C=>by
     unfold fW fm;rw[q,i];simp only;rw[A];simp only;rw[same f];simp only;refine Bf.P (λO=>?_) (λO=>?_)
     ·subst O
      rw[sJ (same f)];cases want with
      | true=>exact B rfl
      | false=>exact C rfl
     ·subst O
      rw[sJ (same f)];cases want with
      | true=>exact C rfl
      | false=>exact B rfl
    have g:=sJ w;replace h:=Bf.out h;by_cases y:b=want
    ·have n:dh P TE F o.op (λav=>bP N F d av K):=by
      subst y;cases b with
      | true=>have:=h;rw[g]at this;exact this
      | false=>have:=h;rw[g]at this;exact this
     obtain⟨av,k,l,r,L,M⟩:=pure1 n;exact⟨d,av,⟨i,k,l,L,λa f c u=>back f (λ_=>M a f c u) (λe=>by subst y;cases b<;>cases e)⟩,r⟩
    ·have n:bP N F d (.hold (.tup []) []) K:=by
      cases b<;>cases want<;>first|exact absurd rfl y|skip
      ·have:=h;rw[g]at this;exact this
      ·have:=h;rw[g]at this;exact this
     obtain⟨k,l,r⟩:=put2 n;exact⟨d,.hold (.tup []) [],⟨i,k,l,(λd i=>by cases i),λa f c u=>back f (λe=>absurd e y) (λ_=>put1 k l u)⟩,r⟩
def aft:AV->AV
 | .hold k a=>.hold k (splice a 0 (List.replicate a.length .x))
 | _=>.hold .one [.x]
theorem Kt(v:AV)(e:Nat):(aft v).uses e=false:=by unfold aft;split<;>rfl
def eff(a:Option Nat)(d:Nat)(av:AV)(F:Nat->AV):Nat->AV:=λt=>if t=d then av else if a=some t then aft (F t) else F t
theorem zW{d:Nat}(av:AV)(a:∀t,(F t).uses d=false):put F d av=eff none d av F:=by
 funext t
 unfold eff;by_cases h:t=d
 ·subst h;rw[lI,C8 rfl]
 ·rw[gk _ _ h,C7 h,C7 (λe=>by cases e),yw,a t];rfl
theorem NV{s:Nat}{v:AV}(h:v.uses s=false):qQ s v=v:=by
 cases v with
 | bor t a b c=>simp only[AV.uses]at h;simp[qQ,h]
 | ref t a b=>simp only[AV.uses]at h;cases b<;>simp[qQ,h]
 | _=>rfl
theorem Lg{d s:Nat}{k:Kd}{cs:List C}(av:AV)(b:F s=.hold k cs)(c:∀t,(F t).uses d=false)(f:∀t,(F t).uses s=false):put (updH F s k (splice cs 0 (List.replicate cs.length .x))) d av=eff (some s) d av F:=by
 funext t
 unfold eff;by_cases h:t=d
 ·subst h;rw[lI,C8 rfl]
 ·rw[gk _ _ h,C7 h]
  by_cases a:t=s
  ·subst a;rw[ge,C8 rfl,b];rfl
  ·rw[C7 (λe=>a (by simpa using e.symm))]
   unfold updH;rw[show Nat.beq t s=false by rw[<-R4,Nat.beq_eq];exact a];simp only[cond_false];rw[NV (f t),yw,c t];rfl
theorem Ew{d T s:Nat}{k:Kd}{c:C}{K:(Nat->AV)->Prop}(n:k=.one\/k=.agg)(o:F s=.hold k [c])(p:dC c=true)(h:fx TE N F d T 1 [(0,.tmp s)] K) :
  ∃av,N.free d=true/\(∀e,av.uses e=false)/\K (put (updH F s k [.x]) d av)/\∀(F':Nat->AV)(K':(Nat->AV)->Prop),F' s=.hold k [c]->K' (put (updH F' s k [.x]) d av)->fx TE N F' d T 1 [(0,.tmp s)] K':=by
 have key:∀F':Nat->AV,F' s=.hold k [c]->∀K':(Nat->AV)->Prop,fx TE N F' d T 1 [(0,.tmp s)] K'=FV TE T λ_ a=>bif Nat.ble (1*a.size) 16777216 then(bif Nat.beq 1 a.size&&Nat.ble (0*a.size+a.size) (rep a.zero 1).length then bP N (updH F' s k [.x]) d (.hold .one [.s .own (chunk a.size 1 (splice (rep a.zero 1) (0*a.size) [c]))]) K' else False) else False:=by
  intro F' g K';unfold fx
  congr 1
  funext e a
  rcases n with rfl|rfl<;>simp only[dr,fillW,Qg,tK,lO,g,gQ,aV,p,cond_true,cond_false,gm,nY,List.length_singleton,List.replicate]
  all_goals rfl
 rw[key F o]at h;obtain⟨e,a,b,l⟩:=iP h;cases f:Nat.ble (1*a.size) 16777216 with
 | false=>rw[f]at b;exact b.elim
 | true=>
  cases i:(Nat.beq 1 a.size&&Nat.ble (0*a.size+a.size) (rep a.zero 1).length) with
  | false=>rw[f,i]at b;exact b.elim
  | true=>
   rw[f,i]at b;simp only[cond_true]at b;unfold bP at b;cases j:N.free d with
   | false=>rw[j]at b;exact b.elim
   | true=>
    rw[j]at b;refine⟨_,rfl,λ_=>rfl,b,λF' K' g q=>?_⟩;rw[key F' g];refine l _ ?_;simp only[f,i,cond_true];unfold bP;rw[j];exact q
theorem Pb{d s:Nat}{T:Option Nat}{k:Kd}{cs:List C}{K:(Nat->AV)->Prop}(j:F s=.hold k cs)(a:own1 T k cs=true)(h:Pt TE N F d T s K) :
  ∃av,N.free d=true/\(∀e,av.uses e=false)/\K (put (updH F s k (splice cs 0 (List.replicate cs.length .x))) d av)/\∀(F':Nat->AV)(K':(Nat->AV)->Prop),F' s=.hold k cs->K' (put (updH F' s k (splice cs 0 (List.replicate cs.length .x))) d av)->Pt TE N F' d T s K':=by
 cases T with
 | some T=>
  have i:(k=.one\/k=.agg)/\∃c,cs=[c]/\dC c=true:=by
   unfold own1 at a;cases k with
   | one=>match cs,a with|[c],a=>exact⟨.inl rfl,c,rfl,a⟩
   | agg=>match cs,a with|[c],a=>exact⟨.inr rfl,c,rfl,a⟩
   | _=>cases a
  obtain⟨l,c,rfl,n⟩:=i;exact Ew l j n h
 | none=>
  have i:∃b,k=.tup b/\aV cs=false:=by
   unfold own1 at a;cases k with
   | tup b=>exact⟨b,rfl,by simpa using a⟩
   | _=>cases a
  obtain⟨b,rfl,o⟩:=i;have key:∀F':Nat->AV,F' s=.hold (.tup b) cs->∀K',Pt TE N F' d none s K'=bP N (updH F' s (.tup b) (splice cs 0 (List.replicate cs.length .x))) d (.hold (.tup b) cs) K':=λF' f K'=>by
   simp only[Pt,i9,f,o,cond_false]
  rw[key F j]at h;unfold bP at h;cases g:N.free d with
  | false=>rw[g]at h;exact h.elim
  | true=>
   rw[g]at h;refine⟨_,rfl,λ_=>rfl,h,λF' K' f p=>?_⟩;rw[key F' f];unfold bP;rw[g];exact p
structure Yl(P:Program)(TE:Nat->Option TI)(N:eU)(ops:Array Oper)(o:Oper)(F:Nat->AV)(mv:Option Nat)(d:Nat)(av:AV):Prop where
 dst:o.dst=some d
 lt:N.free d=true
 self:av.uses d=false
 from_:dH F (o.looksAt ops) av
 mvl:∀s,mv=some s->o.guard=none/\(∃T,lS o.op=some (T,s))/\iE ops o s=true
 at_:∀F':Nat->AV,iA F F' (o.looksAt ops)->(∀t,(F' t).uses d=false)->(∀s,mv=some s->∀t,(F' t).uses s=false)->∀K':(Nat->AV)->Prop,K' (eff mv d av F')->jX P TE N ops o K' F'
theorem Gi{o:Op}{T:Option Nat}{s:Nat}(h:lS o=some (T,s)):(∃a ps,T=some a/\o=.buildSlice a 1 ps/\ps.toList=[(0,.tmp s)])\/(T=none/\o=.move (.tmp s)):=by
 unfold lS at h;split at h
 ·split at h
  ·rename_i a ps c b
   simp only[U0,Prod.mk.injEq]at h;obtain⟨rfl,rfl⟩:=h;exact .inl ⟨_,_,rfl,rfl,b⟩
  ·cases h
 ·simp only[U0,Prod.mk.injEq]at h
  obtain⟨rfl,rfl⟩:=h;exact .inr ⟨rfl,rfl⟩
 ·cases h
theorem cK{o:Oper}{T:Option Nat}{s:Nat}(h:lS o.op=some (T,s)):s∈o.looksAt ops:=by
 refine fS o s ?_;unfold cR;refine List.mem_flatMap.2 ⟨.tmp s,?_,by simp[tm]⟩;rcases Gi h with⟨d,b,-,a,c⟩|⟨-,a⟩
 ·rw[a]
  simp only[Op.operands];have:b = #[(0,.tmp s)]:=Array.ext' (by rw[c]);subst this;simp
 ·rw[a];simp[Op.operands]
theorem B8{o:Oper}{p:Option Nat × Nat}(h:EG F o=some p):o.guard=none/\lS o.op=some p/\∃k cs,F p.2=.hold k cs/\own1 p.1 k cs=true:=by
 unfold EG at h;split at h
 ·cases h
 rename_i b;split at h
 ·cases h
 rename_i c d;split at h
 case h_1=>
  rename_i k cs e;cases a:own1 c.1 k cs with
  | false=>rw[a]at h;cases h
  | true=>
   rw[a]at h;simp only[cond_true,U0]at h;subst h;exact⟨b,d,_,_,e,a⟩
 all_goals cases h
theorem um{F':Nat->AV}{o:Oper}(a:iA F F' (o.looksAt ops)):EG F' o=EG F o:=by
 unfold EG;cases c:o.guard with
 | some _=>rfl
 | none=>
  cases b:lS o.op with
  | none=>rfl
  | some p=>simp only;rw[(a p.2 (cK b)).1]
theorem qF{o:Oper}{K:(Nat->AV)->Prop}(e:EG F o=none)(h:fW P TE N ops o K F)(f:∀d,o.dst=some d->∀t,(F t).uses d=false):∃d av,Yl P TE N ops o F none d av/\K (eff none d av F):=by
 obtain⟨d,av,a,g⟩:=wS h;refine⟨d,av,⟨a.dst,a.lt,a.self,a.from_,λs i=>(by cases i),λj c k _ l b=>?_⟩,by rw[<-zW av (f d a.dst)];exact g⟩;unfold jX;rw[um c,e];exact a.at_ j c l (by rw[zW av k];exact b)
theorem oA{o:Oper}{K:(Nat->AV)->Prop}(h:jX P TE N ops o K F)(w:∀d,o.dst=some d->∀t,(F t).uses d=false)(i:∀T s,o.guard=none->lS o.op=some (T,s)->iE ops o s=true->∀t,(F t).uses s=false) :
  ∃y d av,Yl P TE N ops o F y d av/\K (eff y d av F):=by
 unfold jX at h;cases c:EG F o with
 | none=>
  rw[c]at h;obtain⟨d,av,l⟩:=qF c h w;exact⟨none,d,av,l⟩
 | some p=>
  rw[c]at h;obtain⟨A,b,k,J,j,f⟩:=B8 c;simp only at h;cases g:o.dst with
  | none=>rw[g]at h;exact h.elim
  | some d=>
   rw[g]at h;simp only at h;cases a:iE ops o p.2 with
   | false=>rw[a]at h;exact h.elim
   | true=>
    rw[a]at h;simp only[cond_true]at h;obtain⟨av,l,B,D,E⟩:=Pb j f h;refine⟨some p.2,d,av,⟨g,l,B d,λe C=>(by rw[B e]at C;cases C),λs i=>?_,λG n q r H u=>?_⟩,?_⟩
    ·simp only[U0]at i
     subst i;exact⟨A,⟨p.1,b⟩,a⟩
    ·unfold jX
     rw[um n,c];simp only;rw[g];simp only;rw[a];refine E G H ((n p.2 (cK b)).1.trans j) ?_;rw[Lg av ((n p.2 (cK b)).1.trans j) q (r p.2 rfl)];exact u
    ·rw[<-Lg av j (w d g) (i p.1 p.2 A b a)]
     exact D
theorem Hy{nm:Bool}{o:Oper}{K:(Nat->AV)->Prop}(h:Lj P TE N ops nm o K F)(g:∀d,o.dst=some d->∀t,(F t).uses d=false)(i:∀T s,o.guard=none->lS o.op=some (T,s)->iE ops o s=true->∀t,(F t).uses s=false) :
  ∃a d av,Yl P TE N ops o F a d av/\K (eff a d av F)/\(nm=true->a=none):=by
 unfold Lj at h;cases nm with
 | false=>
  obtain⟨a,d,av,b,c⟩:=oA h g i;exact⟨a,d,av,b,c,λe=>(by cases e)⟩
 | true=>
  cases f:EG F o with
  | some p=>simp only[f]at h
  | none=>
   simp only[f]at h;obtain⟨d,av,b,c⟩:=qF f h g;exact⟨none,d,av,b,c,λ_=>rfl⟩
end
section
variable{P:Program}{w0 w w1:World}{M S0 S:ac}{N:eU}{φ:Nat->ac}{F:Nat->AV}{a:Act}{TE:Nat->Option TI}{ops:Array Oper}
def wq(P:Program)(TE:Nat->Option TI)(N:eU)(ops:Array Oper)(m i:Nat)(K:(Nat->AV)->Prop)(F:Nat->AV):Prop:=
 match ops[i]? with
 | none=>K F
 | some o=>if i<m then jX P TE N ops o K F else jv P TE N ops o K F
def E4(P:Program)(TE:Nat->Option TI)(N:eU)(ops:Array Oper)(m:Nat)(K:(Nat->AV)->Prop):Nat->Array Bool->(Nat->AV)->Prop
 | 0,listed,F=>Region.ready .any ops listed=[]/\K F
 | fuel+1,listed,F=>(Region.ready .any ops listed=[]->K F)/\∀i,i∈Region.ready .any ops listed->wq P TE N ops m i (E4 P TE N ops m K fuel (listed.setIfInBounds i true)) F
theorem bh.oneP0(h:bh w0 M S0 N S φ F a w)(g:∀t i,TE t=some i->cb P t i){o:Oper}{K:(Nat->AV)->Prop}(b:fW P TE N ops o K F){Kc:Act->World->Prop}{Q:Exit->Act->World->Prop}(n:∀F' p f,K F'->St w0 M S0 N F' p f->Kc p f) :
  if Region.wanted o (yielded ops a.tmps) then o.wp P a w Kc Q else Kc (a.put o.dst undef) w:=by
 unfold fW at b;rcases vh h b with⟨j,b⟩|⟨j,b⟩
 ·rw[j,C8 rfl]
  cases e:o.dst with
  | none=>rw[e]at b;exact b.elim
  | some d=>
   rw[e]at b;obtain⟨av,k,q⟩:=h.pure_ g b;refine q Kc Q λv f r=>?_
   obtain⟨F',l,c⟩:=h.putD_new r k;rw[e];exact n F' _ f l c
 ·rw[j,C7 (by simp)]
  cases e:o.dst with
  | none=>rw[e]at b;exact b.elim
  | some d=>
   rw[e]at b;obtain⟨F',k,c⟩:=h.putD_new (v:=undef) (kT.same (av:=.hold (.tup []) []) KZ) b;exact n F' _ w k c
theorem Js{o:Oper}{p:Option Nat × Nat}{d:Nat}{K:(Nat->AV)->Prop}(f:EG F o=some p)(c:o.dst=some d)(h:Pt TE N F d p.1 p.2 K):jv P TE N ops o K F:=by
 obtain⟨e,a,-⟩:=B8 f;obtain⟨T,s⟩:=p;rcases Gi a with⟨i,j,rfl,b,g⟩|⟨rfl,b⟩
 ·unfold jv fm
  rw[e];simp only;rw[b];simp only[Hc];rw[c];simp only[nv,g];exact h
 ·unfold jv fm
  rw[e];simp only;rw[b];simp only[Hc];rw[c];simp only[nv];exact h
theorem bh.oneP(h:bh w0 M S0 N S φ F a w)(c:∀t i,TE t=some i->cb P t i){o:Oper}{K:(Nat->AV)->Prop}(b:jX P TE N ops o K F){Kc:Act->World->Prop}{Q:Exit->Act->World->Prop}(j:∀F' k l,K F'->St w0 M S0 N F' k l->Kc k l) :
  if Region.wanted o (yielded ops a.tmps) then o.wp P a w Kc Q else Kc (a.put o.dst undef) w:=by
 unfold jX at b;cases g:EG F o with
 | none=>rw[g]at b;exact h.oneP0 c b j
 | some p=>
  rw[g]at b;simp only at b;cases f:o.dst with
  | none=>rw[f]at b;exact b.elim
  | some d=>
   rw[f]at b;simp only at b;cases e:iE ops o p.2 with
   | false=>rw[e]at b;exact b.elim
   | true=>
    rw[e]at b;have:=h.one c (Js (P:=P) (ops:=ops) g f b) (Q:=Q) j;rw[f]at this;exact this
theorem Fu(c:∀t i,TE t=some i->cb P t i){m i:Nat}{K:(Nat->AV)->Prop}(b:wq P TE N ops m i K F)(f:St w0 M S0 N F a w){Kc:Act->World->Prop}{Q:Exit->Act->World->Prop}(d:∀F' g j,K F'->St w0 M S0 N F' g j->Kc g j):wpOp P ops Q i Kc a w:=by
 unfold wq at b;unfold wpOp;cases k:ops[i]? with
 | none=>rw[k]at b;exact d F a w b f
 | some o=>
  rw[k]at b;simp only at b |-;obtain⟨S,φ,h⟩:=f;have:if Region.wanted o (yielded ops a.tmps) then o.wp P a w Kc Q else Kc (a.put o.dst undef) w:=by
   split at b
   ·exact h.oneP c b d
   ·exact h.one c b d
  split
  ·rename_i e;rw[C8 e]at this;exact .inl this
  ·rename_i e;rw[C7 e]at this;exact this
theorem yr(b:∀t i,TE t=some i->cb P t i){m:Nat}{K:(Nat->AV)->Prop}{Q:Exit->Act->World->Prop}(g:∀F' d e,K F'->St w0 M S0 N F' d e->Q .normal d e) :
  ∀(fuel:Nat)(listed:Array Bool)(F:Nat->AV)(a:Act)(w:World),E4 P TE N ops m K fuel listed F->St w0 M S0 N F a w->wpAny P .any ops Q fuel listed a w
 | 0,_,F,a,w,c,f=>⟨c.1,g F a w c.2 f⟩
 | fuel+1,_,F,a,w,c,f=>⟨λj=>g F a w (c.1 j) f,λi k=>Fu b (c.2 i k) f λF' d e l h=>yr b g fuel _ F' d e l h⟩
structure yx(ops:Array Oper)(m:Nat)(F:Nat->AV)(listed:Array Bool):Prop where
 dst:∀j o d,j<m->ops[j]? = some o->listed.getD j true=false->o.dst=some d->∀t,(F t).uses d=false
 mv:∀j o T s,j<m->ops[j]? = some o->listed.getD j true=false->o.guard=none->lS o.op=some (T,s)->iE ops o s=true->∀t,(F t).uses s=false
def DC(ops:Array Oper)(listed:Array Bool):Prop:=∀j a,ops[j]? = some a->listed.getD j false=true->∀k,cM a k=true->listed.getD k false=true
theorem LY{d e:Nat}{v:AV}(h:(kl d v).uses e=true):v.uses e=true/\v.uses d=false:=by
 rw[yw]at h;cases a:v.uses d with
 | true=>rw[a]at h;cases h
 | false=>rw[a]at h;exact⟨h,rfl⟩
theorem uJ{α:Type}{p:α->Bool} : ∀{l:List α}{i j:Nat}{x y:α},(l.filter p).length<=1->l[i]? = some x->l[j]? = some y->p x=true->p y=true->i=j
 | [],_,_,_,_,_,h,_,_,_=>by simp at h
 | a::l,0,0,_,_,_,_,_,_,_=>rfl
 | a::l,i+1,j+1,x,y,h,b,c,d,e=>by
  rw[uJ (l:=l) (t4 (List.Sublist.length_le ((List.sublist_cons_self a l).filter p)) h) b c d e]
 | a::l,0,j+1,x,y,h,b,c,d,e=>by
  simp only[List.getElem?_cons_zero,U0]at b;subst b;rw[List.filter_cons_of_pos d]at h;have:y∈l.filter p:=V3.2 ⟨Q1 c,e⟩;have:=List.length_pos_of_mem this;rw[List.length_cons]at h;omega
 | a::l,i+1,0,x,y,h,b,c,d,e=>by
  simp only[List.getElem?_cons_zero,U0]at c;subst c;rw[List.filter_cons_of_pos e]at h;have:x∈l.filter p:=V3.2 ⟨Q1 b,d⟩;have:=List.length_pos_of_mem this;rw[List.length_cons]at h;omega
theorem gW{listed:Array Bool}{j a:Nat}(c:(listed.setIfInBounds j true).getD a true=false):a≠j:=λe=>by
 subst e;have b:a<listed.size:=by
  rcases Nat.lt_or_ge a listed.size with h|h
  ·exact h
  ·simp[C5,Array.getElem?_eq_none (show(listed.setIfInBounds a true).size<=a by simpa using h)]at c
 simp[C5,b]at c
theorem iU{b:Option Nat}{d e t:Nat}{av:AV}(a:av.uses e=false)(c:(F t).uses e=false):(eff b d av F t).uses e=false:=by
 unfold eff;split
 ·exact a
 ·split
  ·exact Kt _ _
  ·exact c
theorem yx.put{m j d:Nat}{r:Option Nat}{listed:Array Bool}{av:AV}(h:yx ops m F listed)(o:∀a b g,a<m->a≠j->ops[a]? = some b->listed.getD a true=false->b.dst=some g->av.uses g=false)(p:∀a b T s,a<m->a≠j->ops[a]? = some b->listed.getD a true=false->b.guard=none->lS b.op=some (T,s)->iE ops b s=true->av.uses s=false) :
  yx ops m (eff r d av F) (listed.setIfInBounds j true):=by
 refine⟨λa b g i c f k t=>?_,λa b T s i c f q l n t=>?_⟩
 ·have e:=gW f
  rw[getD_set_ne true (Ne.symm e)]at f;exact iU (o a b g i e c f k) (h.dst a b g i c f k t)
 ·have e:=gW f
  rw[getD_set_ne true (Ne.symm e)]at f;exact iU (p a b T s i e c f q l n) (h.mv a b T s i c f q l n t)
inductive mL(ops:Array Oper):Nat->Nat->Prop
 |one {j i:Nat} (h:cM (cJ ops j) i=true):mL ops j i
 |step {j k i:Nat} (h:cM (cJ ops j) k=true) (h2:mL ops k i):mL ops j i
theorem mL.trans{i j k:Nat}(h:mL ops j k)(a:mL ops k i):mL ops j i:=by
 induction h with
 | one h=>exact .step h a
 | step h _ b=>exact .step h (b a)
theorem DA{i:Nat} : ∀{a:List Nat},(Er a).testBit i=true->i∈a
 | [],h=>by simp[Er]at h
 | k::a,h=>by
  rw[Er,Nat.testBit_or,t5]at h;rcases h with h|h
  ·rw[Nat.testBit_two_pow]at h
   rw[C0]at h;rw[h];exact O1
  ·exact Q4 _ (DA h)
theorem uR{o:Oper}{i:Nat}(h:(Er (ons o)).testBit i=true):cM o i=true:=by
 have:=DA h;unfold ons at this;obtain⟨e,a,rfl⟩:=U3.1 this;rw[V3]at a;exact bY.2 ⟨e,by simpa using a.1,a.2,rfl⟩
theorem re{j:Nat} : ∀(k S:Nat),(∀i,S.testBit i=true->mL ops j i)->∀i,(clo ops k S).testBit i=true->mL ops j i
 | 0,_,h,i,a=>h i a
 | k+1,S,h,i,a=>by
  rw[clo,J5]at a;cases c:S.testBit k with
  | false=>rw[c]at a;exact re k S h i a
  | true=>
   rw[c]at a;refine re k _ (λe b=>?_) i a;rw[Nat.testBit_or,t5]at b;rcases b with d|d
   ·exact h e d
   ·exact(h k c).trans (.one (uR d))
theorem lP{listed:Array Bool}(d:DC ops listed)(b:∀j o,ops[j]? = some o->∀e∈o.after,Region.binds .any e=true->e.on<j){j i:Nat}(p:mL ops j i):j<ops.size->(∀k,cM (cJ ops j) k=true->listed.getD k false=true)->listed.getD i false=true:=by
 induction p with
 | one h=>exact λ_ f=>f _ h
 | @step j k i h h2 ih=>
  intro g f;have r:k<j:=by
   have c:=(show ops[j]? = some ops[j] from v5 g)
   rw[aW c]at h;obtain⟨e,l,n,rfl⟩:=bY.1 h;exact b j _ c e l n
  have a:k<ops.size:=ω
  have c:=(show ops[k]? = some ops[k] from v5 a)
  exact ih a λq a=>d k _ c (f k h) q (by rw[aW c]at a;exact a)
theorem DC.put{listed:Array Bool}(h:DC ops listed){j:Nat}(n:j∈Region.ready .any ops listed):DC ops (listed.setIfInBounds j true):=by
 obtain⟨p,q,d,a⟩:=mem_ready.1 n;intro k ok c i e l;by_cases b:k=j
 ·subst b
  rw[d]at c;simp only[U0]at c;subst c;obtain⟨o,f,g,rfl⟩:=bY.1 l;exact getD_set_true (a o f g)
 ·rw[getD_set_ne false (Ne.symm b)]at i
  exact getD_set_true (h k ok c i e l)
theorem fy{o:Oper}{s:Nat}(h:iE ops o s=true):(∃k ok,cM o k=true/\ops[k]? = some ok/\ok.dst=some s)/\∀(i j:Nat)(b c:Oper),ops[i]? = some b->ops[j]? = some c->s∈b.looksAt ops->s∈c.looksAt ops->i=j:=by
 unfold iE at h;rw[I0]at h;obtain⟨w,y⟩:=h;constructor
 ·obtain⟨k,A,g⟩:=I3.1 w
  have n:=List.mem_range.1 A;have t:=(show ops[k]? = some ops[k] from v5 n)
  rw[I0,aW t]at g;refine⟨k,_,g.1,t,?_⟩;have:=g.2;cases u:ops[k].dst with
  | none=>rw[u]at this;cases this
  | some a=>rw[u]at this;simp only at this;rw[R1 this]
 ·intro i j b c B C q r
  have d:=X0 y;have e:ops.toList[i]? = some b:=by simpa using B
  have f:ops.toList[j]? = some c:=by simpa using C
  have D:(b.looksAt ops).any (Nat.beq s)=true:=I3.2 ⟨s,q,Nat.beq_refl s⟩;have E:(c.looksAt ops).any (Nat.beq s)=true:=I3.2 ⟨s,r,Nat.beq_refl s⟩;generalize ops.toList=l at d e f;exact uJ (p:=λk:Oper=>(k.looksAt ops).any (Nat.beq s)) d e f D E
structure Qe(ops:Array Oper)(m:Nat):Prop where
 back:∀j oj,ops[j]? = some oj->∀e∈oj.after,Region.binds .any e=true->e.on<j
 tail:∀j,m<=j->j<ops.size->∀i,i<j->mL ops j i
 apart:∀i j oi oj,i<m->j<m->i≠j->ops[i]? = some oi->ops[j]? = some oj->cM oj i=true\/cM oi j=true\/oi.apart ops oj=true
 look:∀i j oi oj d,i<m->j<m->i≠j->ops[i]? = some oi->ops[j]? = some oj->oi.dst=some d->d∈oj.looksAt ops->cM oj i=true
theorem BJ{m:Nat}(h:zp ops m=true):Qe ops m:=by
 have n:∀j b,ops[j]? = some b->_:=λj b a=>fQ h (Z2.1 a).1
 refine⟨λj b a e t p=>?_,λj A a i l=>?_,λi j u b l a f o k=>?_,λi j u b d l a f o k w y=>?_⟩
 ·have:=n j b a
  rw[aW a]at this;simp only[I0]at this;have:=O3.1 this.1 e (by simpa using t);rw[p]at this;simpa[Nat.blt_eq] using this
 ·have q:=(show ops[j]? = some ops[j] from v5 a)
  have:=n j _ q;simp only[I0]at this;have c:=this.2;rw[show Nat.blt j m=false by rw[<-R4,Nat.blt_eq];omega]at c;simp only[cond_false,J5]at c;exact re j _ (λB r=>.one (uR r)) i (fQ c l)
 ·have:=n j b k
  rw[aW k]at this;simp only[I0]at this;have c:=this.2;rw[show Nat.blt j m=true by simpa[Nat.blt_eq] using a]at c;have g:=fQ c l;rw[aW o,show Nat.beq i j=false by rw[<-R4,Nat.beq_eq];exact f]at g;simp only[Bool.false_or,I0,t5]at g;rcases g.1 with(h|h)|h
  ·exact .inl h
  ·exact .inr (.inl h)
  ·exact .inr (.inr h)
 ·have:=n j b k
  rw[aW k]at this;simp only[I0]at this;have c:=this.2;rw[show Nat.blt j m=true by simpa[Nat.blt_eq] using a]at c;have g:=fQ c l;rw[aW o,show Nat.beq i j=false by rw[<-R4,Nat.beq_eq];exact f]at g;simp only[Bool.false_or,I0,t5]at g;rcases g.2 with h|h
  ·exfalso
   unfold sT at h;rw[aW o,w]at h;simp only at h;rw[aW k]at h;have:(b.looksAt ops).any (Nat.beq d)=true:=I3.2 ⟨d,y,Nat.beq_refl d⟩;rw[this]at h;cases h
  ·exact h
theorem Hq{m:Nat}(W:Qe ops m){i d:Nat}{o:Oper}{y:Option Nat}{av:AV}{K:(Nat->AV)->Prop}(G:ops[i]? = some o)(r:i<m) :
  ∀(fuel:Nat)(listed:Array Bool)(F:Nat->AV),i∈Region.ready .any ops listed->yx ops m F listed->DC ops listed->Yl P TE N ops o F y d av->E4 P TE N ops m K fuel (listed.setIfInBounds i true) (eff y d av F)->E4 P TE N ops m K (fuel+1) listed F:=by
 have self:∀(listed:Array Bool)(F:Nat->AV),i∈Region.ready .any ops listed->yx ops m F listed->Yl P TE N ops o F y d av->∀K':(Nat->AV)->Prop,K' (eff y d av F)->jX P TE N ops o K' F:=λlisted F D a p K' hK=>by
  have b:=(mem_ready.1 D).1;refine p.at_ F (iA.refl _ _) (a.dst i o d r G b p.dst) (λs hs=>?_) K' hK;obtain⟨A,⟨T,V⟩,h3⟩:=p.mvl s hs;exact a.mv i o T s r G b A V h3
 intro fuel
 induction fuel with
 | zero=>
  intro listed F D a hdc p H;refine⟨λh=>(by rw[h]at D;cases D),λj hj=>?_⟩;by_cases l:j=i
  ·subst l
   unfold wq;rw[G];simp only[C8 r];exact self listed F D a p _ H
  ·have:=ready_mono hj l
   rw[H.1]at this;cases this
 | succ fuel ih=>
  intro listed F D a hdc p H;refine⟨λh=>(by rw[h]at D;cases D),λj hj=>?_⟩;by_cases l:j=i
  ·subst l
   unfold wq;rw[G];simp only[C8 r];exact self listed F D a p _ H
  ·have A:=H.2 j (ready_mono hj l)
   obtain⟨J,n,c,hall⟩:=mem_ready.1 hj;have b:=(mem_ready.1 D).1;have unl:∀k,listed.getD k true=false->listed.getD k false=true->False:=λk A V=>by
    rcases Nat.lt_or_ge k listed.size with h'|h'
    ·simp[h']at A V;rw[A]at V;cases V
    ·simp[Array.getElem?_eq_none h']at V
   have noedge:∀k ok,ops[k]? = some ok->listed.getD k true=false->cM n k=false:=λk ok hk L=>by
    rw[<-R4];intro he;obtain⟨e,M,O,he3⟩:=bY.1 he;exact unl k L (he3 ▸ hall e M O)
   have noedge':∀k ok,ops[k]? = some ok->listed.getD k true=false->cM o k=false:=λk ok hk L=>by
    rw[<-R4];intro he;obtain⟨e,M,O,he3⟩:=bY.1 he;obtain⟨-,oi',Q,hall'⟩:=mem_ready.1 D;rw[G]at Q;simp only[U0]at Q;subst Q;exact unl k L (he3 ▸ hall' e M O)
   have R:j<m:=by
    rcases Nat.lt_or_ge j m with h|h
    ·exact h
    ·have hjlt:=(Z2.1 c).1
     refine(unl i b (lP hdc W.back (W.tail j h hjlt i ω) hjlt λk hk=>?_)).elim;rw[aW c]at hk;obtain⟨e,M,O,rfl⟩:=bY.1 hk;exact hall e M O
   have hap:o.apart ops n=true:=by
    rcases W.apart i j o n r R (Ne.symm l) G c with h|h|h
    ·rw[noedge i o G b]at h;cases h
    ·rw[noedge' j n c J]at h;cases h
    ·exact h
   obtain⟨ap1,ap2,ap3⟩:=Oper.apart_spec hap;unfold wq at A |-;rw[c]at A |-;simp only[C8 R]at A |-;have hdl:d∉n.looksAt ops:=ap1 d p.dst;have cd:∀t,(F t).uses d=false:=a.dst i o d r G b p.dst
   have cdj':∀f,n.dst=some f->∀t,(F t).uses f=false:=λf S=>a.dst j n f R c J S
   have cmv:∀s,y=some s->(∀t,(F t).uses s=false)/\s∉n.looksAt ops/\s∈o.looksAt ops:=λs hs=>by
    obtain⟨U,⟨T,q⟩,E⟩:=p.mvl s hs;exact⟨a.mv i o T s r G b U q E,λhl=>l ((fy E).2 i j o n G c (cK q) hl).symm,cK q⟩
   have cmvj:∀T s,n.guard=none->lS n.op=some (T,s)->iE ops n s=true->(∀t,(F t).uses s=false)/\s∉o.looksAt ops/\s∈n.looksAt ops:=λT s U q E=>
    ⟨a.mv j n T s R c J U q E,λhl=>l ((fy E).2 i j o n G c hl (cK q)).symm,cK q⟩
   have avno:∀e,e∉o.looksAt ops->(∀t,(F t).uses e=false)->av.uses e=false:=λe A V=>by
    cases w:av.uses e with
    | false=>rfl
    | true=>
     rcases p.from_ e w with h|⟨t,_,h⟩
     ·exact absurd h A
     ·rw[V t]at h;cases h
   obtain⟨mvj,f,avj,B,hKj⟩:=oA A (λf S t=>iU (avno f (ap3 f S) (cdj' f S)) (cdj' f S t)) (λT s U q E t=>by
     obtain⟨c1,c2,-⟩:=cmvj T s U q E;exact iU (avno s c2 c1) (c1 t))
   have hdne:d≠f:=λe=>ap2 d p.dst (by rw[B.dst,e])
   have hdjl:f∉o.looksAt ops:=ap3 f B.dst;have cdj:∀t,(F t).uses f=false:=cdj' f B.dst
   have cmj:∀s,mvj=some s->(∀t,(F t).uses s=false)/\s∉o.looksAt ops/\s∈n.looksAt ops:=λs hs=>by
    obtain⟨U,⟨T,q⟩,E⟩:=B.mvl s hs;exact cmvj T s U q E
   have lookj:∀t,t∈n.looksAt ops->eff y d av F t=F t:=λt u=>by
    unfold eff;have X:t≠d:=λe=>hdl (e ▸ u)
    have e2:y≠some t:=λe=>(cmv t e).2.1 u
    rw[C7 X,C7 e2]
   have looki:∀t,t∈o.looksAt ops->eff mvj f avj F t=F t:=λt u=>by
    unfold eff;have X:t≠f:=λe=>hdjl (e ▸ u)
    have e2:mvj≠some t:=λe=>(cmj t e).2.1 u
    rw[C7 X,C7 e2]
   have avjno:∀e,e∉n.looksAt ops->(∀t,(F t).uses e=false)->avj.uses e=false:=λe A V=>by
    cases w:avj.uses e with
    | false=>rfl
    | true=>
     rcases B.from_ e w with h|⟨t,u,h⟩
     ·exact absurd h A
     ·rw[lookj t u,V t]at h;cases h
   have agrj:iA (eff y d av F) F (n.looksAt ops):=λt u=>by
    rw[lookj t u];refine⟨rfl,λt' w k cs hh=>?_⟩;have g:t'≠d:=λe=>by rw[e,cd t]at w;cases w
    have hnm:y≠some t':=λe=>by rw[(cmv t' e).1 t]at w;cases w
    unfold eff at hh;rw[C7 g,C7 hnm]at hh;exact hh
   refine B.at_ F agrj cdj (λs hs=>(cmj s hs).1) _ (ih (listed.setIfInBounds j true) (eff mvj f avj F) (ready_mono D (Ne.symm l)) (a.put (λj' o' d' Y g C Z hd'=>?_) (λj' o' T s Y g C Z U q E=>?_)) (hdc.put hj) ?_ ?_)
   ·refine avjno d' (λh=>?_) (a.dst j' o' d' Y C Z hd')
    have:=W.look j' j o' n d' Y R g C c hd' h;rw[noedge j' o' C Z]at this;cases this
   ·exact avjno s (λh=>g ((fy E).2 j' j o' n C c (cK q) h)) (a.mv j' o' T s Y C Z U q E)
   ·refine⟨p.dst,p.lt,p.self,λe he=>?_,p.mvl,λF' hA hd' hs' K' hK=>p.at_ F' (λt u=>?_) hd' hs' K' hK⟩
    ·rcases p.from_ e he with h|⟨t,u,h⟩
     ·exact .inl h
     ·exact .inr ⟨t,u,by rw[looki t u];exact h⟩
    ·obtain⟨a1,a2⟩:=hA t u
     rw[looki t u]at a1 a2;refine⟨a1,λt' w k cs hh=>a2 t' w k cs ?_⟩;have g:t'≠f:=λe=>by rw[e,cdj t]at w;cases w
     have hnm:mvj≠some t':=λe=>by rw[(cmj t' e).1 t]at w;cases w
     unfold eff;rw[C7 g,C7 hnm];exact hh
   ·rw[Array.setIfInBounds_comm _ _ l]
    have:eff y d av (eff mvj f avj F)=eff mvj f avj (eff y d av F):=by
     funext t
     unfold eff;by_cases X:t=d
     ·have U:t≠f:=λe=>hdne (X.symm.trans e)
      have q:mvj≠some t:=λe=>hdl (X ▸ (cmj t e).2.2)
      simp only[C8 X,C7 U,C7 q]
     ·rw[C7 X]
      by_cases e2:t=f
      ·have q:y≠some t:=λe=>hdjl (e2 ▸ (cmv t e).2.2)
       simp only[C8 e2,C7 q]
      ·simp only[C7 e2,C7 X]
       by_cases e3:y=some t
       ·by_cases e4:mvj=some t
        ·simp only[C8 e3,C8 e4]
        ·simp only[C8 e3,C7 e4]
       ·by_cases e4:mvj=some t
        ·simp only[C7 e3,C8 e4]
        ·simp only[C7 e3,C7 e4]
    rw[this];exact hKj
theorem rT{o:Op}{K K':AV->Prop}(h:dh P TE F o K)(a:∀av,K av->K' av):dh P TE F o K':=by
 obtain⟨av,b,-,c⟩:=lL h;exact c F (iA.refl _ _) K' (a av b)
theorem bE{d:Nat}{av:AV}{K K':(Nat->AV)->Prop}(h:bP N F d av K)(b:∀F',K F'->K' F'):bP N F d av K':=by
 unfold bP at h |-;cases a:(N.free d&&!av.uses d) with
 | false=>rw[a]at h;exact h.elim
 | true=>rw[a]at h;exact b _ h
theorem f8{y:Operand}{K K':(Nat->AV)->Option Nat->List C->Prop}(h:gm F y K)(b:∀F' ag cs,K F' ag cs->K' F' ag cs):gm F y K':=by
 cases y with
 | tmp t=>
  simp only[gm]at h |-;cases c:F t with
  | hold k cs=>
   rw[c]at h;cases k with
   | one=>exact b _ _ _ h
   | agg=>exact b _ _ _ h
   | _=>exact h.elim
  | bor e d f ag=>
   rw[c]at h;cases f with
   | cons s f=>
    simp only at h |-;cases a:F e with
    | hold k cs=>
     rw[a]at h;obtain⟨r,j,i,l,n,o⟩:=Lq.out h;exact .mk_ ⟨r,j,_,_,i,l,n,rfl,rfl,b _ _ _ o⟩
    | _=>rw[a]at h;exact h.elim
   | nil=>
    simp only at h |-;cases a:F e with
    | hold k cs=>
     rw[a]at h;simp only at h |-;cases g:Nat.ble (d+ag.getD 1) cs.length with
     | false=>rw[g]at h;exact h.elim
     | true=>rw[g]at h;exact b _ _ _ h
    | _=>rw[a]at h;exact h.elim
  | _=>rw[c]at h;exact h.elim
 | _=>exact h.elim
theorem yt{x:Operand}{K K':AV->Prop}(h:bq F x K)(a:∀av,K av->K' av):bq F x K':=by
 obtain⟨av,b,-,c⟩:=iX h;exact c F (iA.refl _ _) K' (a av b)
theorem BY{d:Nat}{x:Operand}{K K':(Nat->AV)->Prop}(h:jx N F d x K)(n:∀F',K F'->K' F'):jx N F d x K':=by
 have a:∀y,bq F y (λj=>bP N F d j K)->bq F y (λj=>bP N F d j K'):=λy h=>yt h λj h=>bE h n
 have l:∀y,gm F y (λF' i c=>bP N F' d (.hold (kv i) c) K)->gm F y (λF' i c=>bP N F' d (.hold (kv i) c) K'):=λy h=>f8 h λF' i c h=>bE h n
 cases x with
 | tmp t=>
  unfold jx at h |-;simp only at h |-;cases e:F t with
  | hold k c=>
   rw[e]at h;cases k with
   | one=>
    simp only at h |-;cases b:aV c with
    | true=>rw[b]at h;exact a (.tmp t) h
    | false=>rw[b]at h;exact l (.tmp t) h
   | agg=>
    simp only at h |-;cases b:aV c with
    | true=>rw[b]at h;exact a (.tmp t) h
    | false=>rw[b]at h;exact l (.tmp t) h
   | tup p=>exact a _ h
   | box=>exact a _ h
  | bor q o r i=>
   rw[e]at h;simp only at h |-;cases b:N.al d with
   | true=>rw[b]at h;exact a (.tmp t) h
   | false=>rw[b]at h;exact l (.tmp t) h
  | dead=>rw[e]at h;exact a _ h
  | ref=>rw[e]at h;exact a _ h
  | iref=>rw[e]at h;exact a _ h
  | fn=>rw[e]at h;exact a _ h
  | fv=>rw[e]at h;exact a _ h
 | const v=>exact a (.const v) h
 | global g=>exact a (.global g) h
 | func f=>exact a (.func f) h
theorem KU{d:Nat}{x:Operand}{K K':(Nat->AV)->Prop}(h:Ay N F d x K)(a:∀F',K F'->K' F'):Ay N F d x K':=by
 unfold Ay at h |-;cases b:A4 N F d x with
 | none=>rw[b]at h;exact BY h a
 | some p=>rw[b]at h;exact bE h a
theorem rQ{x:Operand}{cs:List C}{K K':(Nat->AV)->Prop}(h:pc F x cs K)(d:∀F',K F'->K' F'):pc F x cs K':=by
 cases x with
 | tmp t=>
  simp only[pc]at h |-;cases e:F t with
  | hold k c=>
   rw[e]at h;cases k with
   | box=>
    simp only at h |-;cases b:Nat.ble cs.length c.length with
    | false=>rw[b]at h;exact h.elim
    | true=>rw[b]at h;simp only[cond_true,dr]at h |-;exact d _ h
   | _=>exact h.elim
  | ref g f i=>
   rw[e]at h;cases i with
   | cons s i=>
    simp only at h |-;cases a:F g with
    | hold k c=>
     rw[a]at h;obtain⟨r,j,l,n,o,p⟩:=Pu.out h;exact Pu.mk l n o rfl (d _ p)
    | _=>rw[a]at h;exact h.elim
   | nil=>
    simp only at h |-;cases a:F g with
    | hold k c=>
     rw[a]at h;cases k with
     | box=>
      simp only at h |-;cases b:Nat.ble (f+cs.length) c.length with
      | false=>rw[b]at h;exact h.elim
      | true=>rw[b]at h;simp only[cond_true,dr]at h |-;exact d _ h
     | _=>exact h.elim
    | _=>rw[a]at h;exact h.elim
  | _=>rw[e]at h;exact h.elim
 | _=>exact h.elim
theorem Fr{T:Nat}{x y:Operand}{K K':(Nat->AV)->Prop}(h:lX TE F T x y K)(d:∀F',K F'->K' F'):lX TE F T x y K':=by
 unfold lX at h |-;split at h
 ·rename_i i l
  obtain⟨n,e,a,j⟩:=cq h;refine j F (iA.refl _ _) _ ?_;cases f:Nat.beq e.length i.size with
  | false=>rw[f]at a;exact a.elim
  | true=>
   rw[f]at a;simp only[cond_true]at a |-;cases g:aV e with
   | true=>rw[g]at a;exact rQ a d
   | false=>
    rw[g]at a;simp only[cond_false]at a |-;refine f8 a λF' k c h=>?_
    cases b:Nat.beq c.length i.size with
    | false=>rw[b]at h;exact h.elim
    | true=>rw[b]at h;exact rQ h d
 ·exact h.elim
theorem F8{g:Option (Nat × Bool)}{a c K1' K0':(Nat->AV)->Prop}(h:fm F ops g a c)(h1:∀F,a F->K1' F)(e:∀F,c F->K0' F):fm F ops g K1' K0':=by
 unfold fm at h |-;split at h
 ·exact h1 _ h
 ·rename_i j want
  split at h
  ·rename_i d f
   split at h
   ·rename_i b i
    replace h:=Bf.out h;cases b<;>cases want<;>first|exact .in_ (h1 _ h)|exact .in_ (e _ h)
   ·exact e _ h
   ·exact h.elim
  ·exact h.elim
theorem rP{x:Operand}{K K':(Nat->AV)->Option Nat->List C->Prop}(h:tK F x K)(b:∀F' ag cs,K F' ag cs->K' F' ag cs):tK F x K':=by
 obtain⟨ag,cs,a,d⟩:=cq h;refine d F (iA.refl _ _) _ ?_;cases c:aV cs with
 | true=>rw[c]at a;exact b _ _ _ a
 | false=>rw[c]at a;exact f8 a b
theorem iI{b:Nat->Option (Nat × Nat)} : ∀{parts:List (Nat × Operand)}{cs:List C}{K K':(Nat->AV)->List C->Prop}{F:Nat->AV},fillW b parts cs K F->(∀F' cs,K F' cs->K' F' cs)->fillW b parts cs K' F
 | [],cs,K,K',F,h,a=>a _ _ h
 | p::rest,cs,K,K',F,h,a=>by
  simp only[fillW]at h |-;split at h
  case h_2=>exact h.elim
  rename_i q d;refine rP h λF' e xs h=>?_
  cases c:(Nat.beq xs.length q.2&&Nat.ble (q.1+q.2) cs.length) with
  | false=>rw[c]at h;exact h.elim
  | true=>
   rw[c]at h;simp only[cond_true,dr]at h |-;exact iI h a
theorem BK{d T:Nat}{parts:List (Nat × Operand)}{K K':(Nat->AV)->Prop}(h:j8 TE N F d T parts K)(b:∀F',K F'->K' F'):j8 TE N F d T parts K':=by
 unfold j8 at h |-;split at h
 case h_2=>exact h.elim
 rename_i size bytes zero flds c;cases a:wo TE flds with
 | false=>rw[a]at h;exact h.elim
 | true=>rw[a]at h;exact iI h λF' e h=>bE h b
theorem AE{d T n:Nat}{parts:List (Nat × Operand)}{K K':(Nat->AV)->Prop}(h:fx TE N F d T n parts K)(a:∀F',K F'->K' F'):fx TE N F d T n parts K':=by
 obtain⟨e,c,h,f⟩:=iP h;refine f _ ?_;cases b:Nat.ble (n*c.size) 16777216 with
 | false=>rw[b]at h;exact h.elim
 | true=>
  rw[b]at h;simp only[cond_true]at h |-;split at h
  ·exact bE h a
  ·rw[dr]at h |-
   refine iI h λF' g h=>?_
   rw[nY]at h |-;exact bE h a
  ·exact h.elim
theorem Dq{y:Operand}{K K':Bool->(Nat->AV)->List (List C)->Prop}(h:AB F y K)(a:∀b F' xr,K b F' xr->K' b F' xr):AB F y K':=by
 unfold AB at h |-;split at h
 ·refine f8 h λF' c d h=>?_
  match c,d,h with
  | none,[.s .own rows],h=>exact a _ _ _ h
 ·obtain⟨c,d,e,f⟩:=cq h
  refine f F (iA.refl _ _) _ ?_
  match c,d,e with
  | none,[.s o rows],h=>exact a _ _ _ h
  | none,[.z],h=>exact a _ _ _ h
theorem yC{x:Operand}{K K':(Nat->AV)->List (List C)->Prop}(h:yV F x K)(c:∀F' xr,K F' xr->K' F' xr):yV F x K':=by
 obtain⟨a,b,d,e⟩:=cq h;refine e F (iA.refl _ _) _ ?_
 match a,b,d with
 | none,[.z],h=>exact c _ _ h
 | none,[.s .own _],h=>
  refine f8 h λF' a b h=>?_
  match a,b,h with
  | none,[.s .own rows],h=>exact c _ _ h
theorem Jc{d T:Nat}{x y:Operand}{K K':(Nat->AV)->Prop}(h:yp TE N F d T x y K)(c:∀F',K F'->K' F'):yp TE N F d T x y K':=by
 obtain⟨e,o,h,f⟩:=iP h;refine f _ (Dq h λb F' p h=>yC h λF'' a h=>?_);obtain⟨g,i,j,k,l,n⟩:=h.out;exact CQ g i j k l rfl (bE n c)
theorem Bo{d T:Nat}{x:Operand}{K K':(Nat->AV)->Prop}(h:oH TE N F d T x K)(a:∀F',K F'->K' F'):oH TE N F d T x K':=by
 unfold oH at h |-;split at h
 case h_2=>exact h.elim
 refine f8 h λF' b c h=>?_
 split at h
 ·exact bE h a
 ·exact h.elim
theorem Fb{d:Nat}{x:Operand}{K K':(Nat->AV)->Prop}(h:i9 N F d x K)(b:∀F',K F'->K' F'):i9 N F d x K':=by
 have std:∀{y:Operand},bq F y (λa=>bP N F d a K)->bq F y (λa=>bP N F d a K'):=λh=>yt h λa h=>bE h b
 cases x with
 | tmp t=>
  simp only[i9]at h |-;split at h
  ·rename_i i e j
   cases c:aV e with
   | true=>rw[c]at h;exact bE h b
   | false=>rw[c]at h;exact bE h b
  all_goals exact std h
 | const v=>simp only[i9]at h |-;exact std h
 | global g=>simp only[i9]at h |-;exact std h
 | func f=>simp only[i9]at h |-;exact std h
theorem FF{d:Nat}{x:Operand}{K K':(Nat->AV)->Prop}(h:sK N F d x K)(a:∀F',K F'->K' F'):sK N F d x K':=by
 unfold sK at h |-;split at h
 case h_2=>exact h.elim
 split at h
 case h_2=>exact h.elim
 obtain⟨b,c⟩:=h.out;exact Nt.mk (λe=>bE (b e) a) λf k g e=>bE (c f k g e) a
theorem D3{d:Nat}{x:Operand}{K K':(Nat->AV)->Prop}(h:o6 N F d x K)(a:∀F',K F'->K' F'):o6 N F d x K':=by
 unfold o6 at h |-;split at h
 case h_2=>exact h.elim
 split at h
 case h_2=>exact h.elim
 exact bE h a
theorem Lc{d:Nat}{b:Op}{K K':(Nat->AV)->Prop}(h:nv P TE N d b K F)(a:∀F',K F'->K' F'):nv P TE N d b K' F:=by
 cases b with
 | assign x=>exact KU h a
 | box T x=>simp only[nv,L0]at h |-;exact rP h λF' i j h=>bE h a
 | build T f=>exact BK h a
 | buildSlice T n f=>exact AE h a
 | range T x=>exact Bo h a
 | move x=>exact Fb h a
 | next x str=>
  cases str with
  | true=>exact h.elim
  | false=>exact FF h a
 | entry x=>exact D3 h a
 | call c=>
  simp only[nv]at h |-;cases e:qu c with
  | none=>rw[e]at h;exact rT h λg h=>bE h a
  | some p=>rw[e]at h;exact Jc h a
 | _=>simp only[nv]at h |-;exact rT h λg h=>bE h a
theorem gZ{t off n:Nat}{st:co}{K K':(Nat->AV)->List C->Prop}(h:lendAt F t off st n K)(a:∀F' cs,K F' cs->K' F' cs):lendAt F t off st n K':=by
 unfold lendAt at h |-;split at h
 case h_2=>exact h.elim
 split at h
 ·rename_i k c _ _
  cases b:Nat.ble (off+n) c.length with
  | false=>rw[b]at h;exact h.elim
  | true=>
   rw[b]at h;simp only[cond_true,dr]at h |-;exact a _ _ h
 ·obtain⟨r,j,d,e,f,g⟩:=Lq.out h
  refine .mk_ ?_;exact⟨r,j,_,_,d,e,f,rfl,rfl,a _ _ g⟩
theorem dz:∀{xs:List (Operand × Nat)}{K K':(Nat->AV)->List (MA × xm)->Prop}{F:Nat->AV},lendP xs K F->(∀F' l,K F' l->K' F' l)->lendP xs K' F
 | [],K,K',F,h,a=>a _ _ h
 | (x,0)::xs,K,K',F,h,a=>dz (xs:=xs) h λF' l h=>a _ _ h
 | (x,1)::xs,K,K',F,h,a=>by
  simp only[lendP]at h |-;split at h
  case h_2=>exact h.elim
  split at h
  ·exact gZ h λF' b h=>dz h λF'' l h=>a _ _ h
  ·exact gZ h λF' b h=>dz h λF'' l h=>a _ _ h
  ·exact gZ h λF' b h=>dz h λF'' l h=>a _ _ h
  ·exact h.elim
 | (x,n+2)::xs,K,K',F,h,a=>by
  simp only[lendP]at h |-;split at h
  case h_2=>exact h.elim
  split at h
  ·split at h
   ·exact dz h λF'' l h=>a _ _ h
   ·exact h.elim
  ·exact dz h λF'' l h=>a _ _ h
  ·exact h.elim
theorem kh:∀{l:List (MA × xm)}{xs:List Operand}{K K':Bool->List MA->Prop},valsP F l xs K->(∀b A,K b A->K' b A)->valsP F l xs K'
 | [],[],K,K',h,a=>a _ _ h
 | (m,.no)::l,x::xs,K,K',h,a=>by
  obtain⟨g,d,e,f⟩:=cq h;refine f F (iA.refl _ _) _ (kh e λb A h=>?_);cases c:aV d with
  | true=>rw[c]at h;exact a _ _ h
  | false=>rw[c]at h;exact a _ _ h
 | (m,.at_ t off st)::l,x::xs,K,K',h,a=>kh (l:=l) (xs:=xs) h λb A h=>a _ _ h
 | (m,.box t)::l,x::xs,K,K',h,a=>kh (l:=l) (xs:=xs) h λb A h=>a _ _ h
 | [],_::_,K,K',h,a=>h.elim
 | (m,.no)::l,[],K,K',h,a=>h.elim
 | (m,.at_ t off st)::l,[],K,K',h,a=>h.elim
 | (m,.box t)::l,[],K,K',h,a=>h.elim
theorem dO{K K':(Nat->AV)->Prop}(a:∀F',K F'->K' F'):∀{l:List (MA × xm)}{B:List MA}{F:Nat->AV},iC l B K F->iC l B K' F
 | [],[],F,h=>a _ h
 | [],_::_,F,h=>h.elim
 | (m,.no)::l,[],F,h=>h.elim
 | (m,.at_ t off st)::l,[],F,h=>h.elim
 | (m,.box t)::l,[],F,h=>h.elim
 | (m,.no)::l,.val _ _::B,F,h=>dO a (l:=l) (B:=B) h
 | (m,.no)::l,.mut _ _::B,F,h=>dO a (l:=l) (B:=B) h
 | (m,.no)::l,.ptr _::B,F,h=>dO a (l:=l) (B:=B) h
 | (m,.at_ t off st)::l,.val _ _::B,F,h=>h.elim
 | (m,.at_ t off st)::l,.ptr _::B,F,h=>h.elim
 | (m,.box t)::l,.val _ _::B,F,h=>h.elim
 | (m,.box t)::l,.mut _ _::B,F,h=>h.elim
 | (m,.at_ t off st)::l,.mut ag out::B,F,h=>by
  simp only[iC]at h |-;split at h
  case h_2=>exact h.elim
  split at h
  ·rename_i k c _ _
   cases b:Nat.ble (off+out.length) c.length with
   | false=>rw[b]at h;exact h.elim
   | true=>
    rw[b]at h;simp only[cond_true,dr]at h |-;exact dO a h
  ·obtain⟨r,j,d,e,f,g⟩:=Pu.out h
   exact Pu.mk d e f rfl (dO a g)
 | (m,.box t)::l,.ptr out::B,F,h=>by
  simp only[iC]at h |-;split at h
  ·exact dO a h
  ·exact h.elim
theorem Ex{d:Option Nat}{f:Nat}{args:List Operand}{modes:List Nat}{K K':(Nat->AV)->Prop}(h:nN P N F d f args modes K)(a:∀F',K F'->K' F'):nN P N F d f args modes K':=by
 unfold nN at h |-;refine dz h λF' l h=>?_
 cases c:(xb l&&Nat.beq args.length modes.length) with
 | false=>rw[c]at h;exact h.elim
 | true=>
  rw[c]at h;refine kh h λb A h=>?_
  obtain⟨j,B,k,rcs,e,g,i⟩:=bU.out h;refine CG e g (dO (λF'' h=>?_) i);cases d with
  | none=>exact a _ h
  | some d=>exact bE h a
theorem oy{F:Nat->AV}{x:Operand}{K K':Nat->Nat->Prop}(h:FM F x K)(a:∀t o,K t o->K' t o):FM F x K':=by
 obtain⟨s,t,b,rfl,c,d⟩:=vN h;simp only[FM,c];exact a _ _ d
theorem HG{d:Option Nat}{t:Nat}{cs:List C}{c a e b:Nat}{K K':(Nat->AV)->Prop}{k:Kd}{rcs:List C}{B:List MA}(h:DQ N F d t cs c a e b K k rcs B)(f:∀F',K F'->K' F'):DQ N F d t cs c a e b K' k rcs B:=by
 unfold DQ at h |-;split at h
 case h_2=>exact h.elim
 rename_i i j;cases g:(Nat.beq i.length a&&Nat.beq j.length b) with
 | false=>rw[g]at h;exact h.elim
 | true=>
  rw[g]at h;simp only[cond_true,dr]at h |-;cases d with
  | none=>exact f _ h
  | some d=>exact bE h f
theorem E8{d:Option Nat}{f:Nat}{args:List Operand}{a b:Nat}{K K':(Nat->AV)->Prop}(h:mi P N F d f args a b K)(g:∀F',K F'->K' F'):mi P N F d f args a b K':=by
 unfold mi at h |-;split at h
 case h_2=>exact h.elim
 refine oy h λt i h=>oy h λj c h=>?_
 split at h
 case h_2=>exact h.elim
 rename_i l q;cases e:(Nat.beq j t&&Nat.ble (i+a) c&&Nat.ble (c+b) l.length) with
 | false=>rw[e]at h;exact h.elim
 | true=>
  rw[e]at h;simp only[cond_true,dr]at h |-;obtain⟨r,B,k,rcs,n,o,p⟩:=bU.out h;exact CG n o (HG p g)
theorem Fc{d:Option Nat}{f:Nat}{args:List Operand}{modes:List Nat}{K K':(Nat->AV)->Prop}(h:mG P N F d f args modes K)(b:∀F',K F'->K' F'):mG P N F d f args modes K':=by
 unfold mG at h |-;split
 ·rename_i p a;rw[a]at h;exact E8 h b
 ·rename_i a;rw[a]at h;exact Ex h b
theorem tB{t off:Nat}{z:Int}{v:Value}{K K':(Nat->AV)->Prop}(h:putMap F t off z v K)(d:∀F',K F'->K' F'):putMap F t off z v K':=by
 unfold putMap at h |-;cases a:F t with
 | hold k e=>
  rw[a]at h;simp only at h |-;cases b:e[off]? with
  | none=>rw[b]at h;exact h.elim
  | some c=>
   rw[b]at h;cases c with
   | m f=>
    simp only at h |-;have:=h.out;refine Mu.mk rfl ?_;simp only[dr]at this |-;exact d _ this
   | _=>exact h.elim
 | _=>rw[a]at h;exact h.elim
theorem BL{T:Nat}{x y v:Operand}{K K':(Nat->AV)->Prop}(h:oM TE F T x y v K)(b:∀F',K F'->K' F'):oM TE F T x y v K':=by
 unfold oM at h |-;split at h
 case h_2=>exact h.elim
 obtain⟨z,c,d⟩:=iw h;refine d F (iA.refl F _) _ ?_;obtain⟨f,a,e⟩:=iw c;refine e F (iA.refl F _) _ ?_;split at a
 case h_2=>exact a.elim
 split at a
 case h_2=>exact a.elim
 split at a
 ·exact tB a b
 ·exact tB a b
 ·exact a.elim
theorem jT{o:Oper}{K K':(Nat->AV)->Prop}(h:jv P TE N ops o K F)(a:∀F',K F'->K' F'):jv P TE N ops o K' F:=by
 unfold jv at h |-;refine F8 h (λF h=>?_) (λF h=>?_)
 ·split at h
  ·exact Fc h a
  ·split at h
   ·split at h
    ·exact Fr h a
    ·exact BL h a
    ·exact h.elim
   ·exact Lc h a
 ·split at h
  ·exact a _ h
  ·exact bE h a
theorem zq{m:Nat}(c:Qe ops m){K:(Nat->AV)->Prop}(hm:m<=ops.size):∀(l:List Oper)(k:Nat)(listed:Array Bool)(F:Nat->AV),(∀j,l[j]? = ops[k+j]?)->listed.size=ops.size->(∀j,j<ops.size->listed.getD j true=decide (j<k))->yx ops m F listed->DC ops listed->
  KJ P TE N ops (m - k) l K F->E4 P TE N ops m K l.length listed F
 | [],k,listed,F,W,X,a,_,_,n=>by
  have M:ops.size<=k:=by
   rcases Nat.lt_or_ge k ops.size with h|h
   ·have:=W 0;simp[h]at this
   ·exact h
  refine⟨?_,?_⟩
  ·apply List.eq_nil_iff_forall_not_mem.2
   intro j L;obtain⟨y,o,ho,-⟩:=mem_ready.1 L;have A:=(Z2.1 ho).1;rw[a j A]at y;simp at y;omega
  ·cases O:m - k with
   | zero=>rw[O]at n;exact n
   | succ x=>rw[O]at n;exact n
 | o::l,k,listed,F,W,X,a,g,B,n=>by
  have u:ops[k]? = some o:=by simpa using (W 0).symm
  have M:=(Z2.1 u).1;have hready:k∈Region.ready .any ops listed:=mem_ready.2 ⟨by rw[a k M];simp,o,u,λe he hb=>by
    have:=c.back k o u e he hb;have y:=a e.on ω;rw[show decide (e.on<k)=true by simpa using this]at y;have Y:e.on<listed.size:=ω
    simp[Y]at y |-;exact y⟩
  have Q:∀j,l[j]? = ops[k+1+j]?:=λj=>by have:=W (j+1);simpa[Nat.add_assoc,Nat.add_comm 1 j] using this
  have f:∀j,j<ops.size->(listed.setIfInBounds k true).getD j true=decide (j<k+1):=λj L=>by
   by_cases C:j=k
   ·subst C;simp[X,L]
   ·rw[getD_set_ne true (Ne.symm C),a j L]
    simp only[decide_eq_decide];omega
  show E4 P TE N ops m K (l.length+1) listed F;by_cases p:k<m
  ·have e1:m - k=(m - (k+1))+1:=ω
   rw[e1]at n;obtain⟨mv,d,av,hy,n⟩:=oA (show jX P TE N ops o (KJ P TE N ops (m - (k+1)) l K) F from n) (λd hd=>g.dst k o d p u (by rw[a k M];simp) hd) (λT s g1 Z g3=>g.mv k o T s p u (by rw[a k M];simp) g1 Z g3);refine Hq c u p l.length listed F hready g B hy (zq c hm l (k+1) _ _ Q (by simpa using X) f (g.put (λw D R i q b hl'' E=>?_) (λw D T s i q b hl'' g1 Z g3=>?_)) (B.put hready) n)
   ·cases hu:av.uses R with
    | false=>rfl
    | true=>
     rcases hy.from_ R hu with h|⟨t,_,h⟩
     ·have:=c.look w k D o R i p q b u E h
      obtain⟨e,G,H,he3⟩:=bY.1 this;have A:=c.back k o u e G H;have hj'lt:=(Z2.1 b).1;rw[a w hj'lt]at hl'';simp at hl'';omega
     ·rw[g.dst w D R i b hl'' E t]at h;cases h
   ·cases hu:av.uses s with
    | false=>rfl
    | true=>
     rcases hy.from_ s hu with h|⟨t,_,h⟩
     ·exact absurd ((fy g3).2 w k D o b u (cK Z) h) q
     ·rw[g.mv w D T s i b hl'' g1 Z g3 t]at h;cases h
  ·refine⟨λh=>(by rw[h]at hready;cases hready),λj L=>?_⟩
   have C:j=k:=by
    obtain⟨y,oj,S,U⟩:=mem_ready.1 L;have r:=(Z2.1 S).1;rw[a j r]at y;simp at y;rcases Nat.lt_or_ge k j with A|hge
    ·exfalso
     have Y:=lP B c.back (c.tail j ω r k A) r λk' V=>by
      rw[aW S]at V;obtain⟨e,G,H,rfl⟩:=bY.1 V;exact U e G H
     have h3:=a k M;have h4:k<listed.size:=ω
     simp[h4]at Y h3;rw[Y]at h3;cases h3
    ·omega
   subst C;unfold wq;rw[u];simp only[C7 p];have e0:m - j=0:=ω
   rw[e0]at n;have hp':jv P TE N ops o (GZ P TE N ops l K) F:=n;have J:∀F',GZ P TE N ops l K F'->E4 P TE N ops m K l.length (listed.setIfInBounds j true) F':=λF' hF'=>
    zq c hm l (j+1) _ F' Q (by simpa using X) f ⟨λw D R i b hl'' E=>by
      have hj'lt:=(Z2.1 b).1;rw[f w hj'lt]at hl'';simp at hl'';omega,λw D T s i b hl''=>by
      have hj'lt:=(Z2.1 b).1;rw[f w hj'lt]at hl'';simp at hl'';omega⟩ (B.put hready) (by rw[show m - (j+1)=0 by omega];cases l<;>exact hF')
   exact jT hp' J
theorem St.clr(h:St w0 M S0 N F a w)(ds:List Nat):St w0 M S0 N (Ab.clr ds F) a w:=by
 obtain⟨S,φ,h⟩:=h;refine⟨S,φ,λt=>?_,h.dis,h.disS,h.ex,h.sub,h.sup,h.old,h.size,h.defers,h.par⟩;rw[A7];cases e:ds.any (λd=>(F t).uses d) with
 | true=>trivial
 | false=>
  simp only[cond_false];refine(h.slot t).keep (φ:=φ) (λt _ _ _=>h.slot t) (λc _=>⟨λk f b=>?_,rfl,λ_ _ _=>⟨rfl,rfl⟩⟩) (λ_ _ _=>⟨rfl,rfl⟩) (λ_ _ _=>⟨rfl,rfl⟩) (λ_ _ h=>h) (λ_ _ h=>h);rw[A7];have:ds.any (λd=>(F c).uses d)=false:=by
   rw[b]
   induction ds with
   | nil=>rfl
   | cons d ds g=>simp[AV.uses]
  rw[this];exact b
theorem Ao(u:∀t i,TE t=some i->cb P t i)(W:P.follows .mixedOrders=true){id m:Nat}{ds:List Nat}(b:((Nat.ble m ops.size&&below m λj=>match(cJ ops j).dst with|some d=>ds.any (Nat.beq d)|none=>true)&&zp ops m)=true){K:(Nat->AV)->Prop}{Q:Exit->Act->World->Prop}(X:KJ P TE N ops m ops.toList K (Ab.clr ds F))(Y:St w0 M S0 N F a w)(Z:∀F' O R,K F'->St w0 M S0 N F' O R->Q .normal O R):(Code.region id ops true).wp P Q a w:=by
 simp only[I0]at b;obtain⟨⟨l,y⟩,b⟩:=b;have g:m<=ops.size:=X0 l;refine wp_region_any W ?_;have A:St w0 M S0 N (Ab.clr ds F) a {w with drawn:=w.drawn+1}:=by
  have r:=Y.clr ds;obtain⟨S,φ,h⟩:=r;exact⟨S,φ,h.more (w1:={w with drawn:=w.drawn+1}) (λ_ _ h=>h) (λ_ _ h=>.inl h) ⟨rfl,rfl,rfl,R2 _,λ_ _ _=>rfl,λ_ _ _ _=>rfl,λ_ _ _ _=>rfl⟩⟩
 refine yr u (m:=m) Z ops.size (Array.replicate ops.size false) _ a _ ?_ A;have n:∀d,ds.any (Nat.beq d)=true->∀t,(Ab.clr ds F t).uses d=false:=λd p t=>by
  rw[A7];cases U:ds.any (λd=>(F t).uses d) with
  | true=>rfl
  | false=>
   simp only[cond_false];cases hu:(F t).uses d with
   | false=>rfl
   | true=>
    obtain⟨d',B,he⟩:=I3.1 p;have C:=R1 he;subst C;have:ds.any (λd=>(F t).uses d)=true:=I3.2 ⟨_,B,hu⟩;rw[this]at U;cases U
 have c:∀j o d,j<m->ops[j]? = some o->o.dst=some d->ds.any (Nat.beq d)=true:=λj o d f q p=>by
  have r:=fQ y f;rw[aW q,p]at r;exact r
 have V:=BJ b;have:=zq (P:=P) (TE:=TE) (N:=N) V (K:=K) g ops.toList 0 (Array.replicate ops.size false) (Ab.clr ds F) (by simp) (by simp) (λj f=>by simp[f]) ⟨λj o d f q _ p t=>n d (c j o d f q p) t,λj o T s f q _ _ _ g3 t=>by
   obtain⟨k,ok,D,E,G⟩:=(fy g3).1;obtain⟨e,H,J,rfl⟩:=bY.1 D;have:=V.back j o q e H J;exact n s (c e.on ok s ω E G) t⟩ (λj oj f hl=>by
   have L:=(Z2.1 f).1;simp[L]at hl) X
 simpa using this
end
section
variable{P:Program}{w0 w w1:World}{M S0 S:ac}{N:eU}{φ:Nat->ac}{F:Nat->AV}{a:Act}{TE:Nat->Option TI}{ops:Array Oper}{ds:List Nat}{nm:Nat->Bool}
def Pa(P:Program)(TE:Nat->Option TI)(ops:Array Oper)(p:Nat)(F:Nat->AV):Prop:=∃d,(cJ ops p).dst=some d/\EG F (cJ ops p)=none/\dh P TE F (cJ ops p).op λa=>a=F d
def tJ(P:Program)(TE:Nat->Option TI)(N:eU)(ops:Array Oper)(ds:List Nat)(listed:Array Bool)(i:Nat)(K:(Nat->AV)->Prop)(F:Nat->AV):Prop:=
 match ops[i]? with
 | none=>K F
 | some o=>if mY ds o=true then jX P TE N ops o K F else jv P TE N ops o (λa=>(∀p,listed.getD p false=true->mY ds (cJ ops p)=true->tL ops i p=false->Pa P TE ops p a)/\K a) F
def D4(P:Program)(TE:Nat->Option TI)(N:eU)(ops:Array Oper)(ds:List Nat)(K:(Nat->AV)->Prop):Nat->Array Bool->(Nat->AV)->Prop
 | 0,listed,F=>Region.ready .any ops listed=[]/\K F
 | fuel+1,listed,F=>(Region.ready .any ops listed=[]->K F)/\∀i,i∈Region.ready .any ops listed->tJ P TE N ops ds listed i (D4 P TE N ops ds K fuel (listed.setIfInBounds i true)) F
theorem Br(c:∀t i,TE t=some i->cb P t i){listed:Array Bool}{i:Nat}{K:(Nat->AV)->Prop}(b:tJ P TE N ops ds listed i K F)(f:St w0 M S0 N F a w){Kc:Act->World->Prop}{Q:Exit->Act->World->Prop}(d:∀F' g j,K F'->St w0 M S0 N F' g j->Kc g j):wpOp P ops Q i Kc a w:=by
 unfold tJ at b;unfold wpOp;cases k:ops[i]? with
 | none=>rw[k]at b;exact d F a w b f
 | some o=>
  rw[k]at b;simp only at b |-;obtain⟨S,φ,h⟩:=f;have:if Region.wanted o (yielded ops a.tmps) then o.wp P a w Kc Q else Kc (a.put o.dst undef) w:=by
   split at b
   ·exact h.oneP c b d
   ·exact h.one c (jT b λF' h=>h.2) d
  split
  ·rename_i e;rw[C8 e]at this;exact .inl this
  ·rename_i e;rw[C7 e]at this;exact this
theorem pM(b:∀t i,TE t=some i->cb P t i){K:(Nat->AV)->Prop}{Q:Exit->Act->World->Prop}(g:∀F' d e,K F'->St w0 M S0 N F' d e->Q .normal d e) :
  ∀(fuel:Nat)(listed:Array Bool)(F:Nat->AV)(a:Act)(w:World),D4 P TE N ops ds K fuel listed F->St w0 M S0 N F a w->wpAny P .any ops Q fuel listed a w
 | 0,_,F,a,w,c,f=>⟨c.1,g F a w c.2 f⟩
 | fuel+1,_,F,a,w,c,f=>⟨λj=>g F a w (c.1 j) f,λi k=>Br b (c.2 i k) f λF' d e l h=>pM b g fuel _ F' d e l h⟩
def cQ(ts:List Nat)(F F1:Nat->AV):Prop:=∀t e,(F1 t).uses e=true->e∈ts\/∃a,(F a).uses e=true
theorem cQ.refl(ts:List Nat)(F:Nat->AV):cQ ts F F:=λt _ h=>.inr ⟨t,h⟩
theorem cQ.trans{ts:List Nat}{F F1 a:Nat->AV}(h1:cQ ts F F1)(b:cQ ts F1 a):cQ ts F a:=λt e h=>by
 rcases b t e h with h|⟨c,h⟩
 ·exact .inl h
 ·exact h1 c e h
theorem cQ.clean{ts:List Nat}{F1:Nat->AV}{d:Nat}(h:cQ ts F F1)(a:d∉ts)(b:∀t,(F t).uses d=false):∀t,(F1 t).uses d=false:=λt=>by
 cases c:(F1 t).uses d with
 | false=>rfl
 | true=>
  rcases h t d c with h|⟨e,h⟩
  ·exact absurd h a
  ·rw[b e]at h;cases h
theorem cQ.put{ts:List Nat}{b:Nat}{av:AV}(h:∀e,av.uses e=true->e∈ts\/∃d,(F d).uses e=true):cQ ts F (put F b av):=λt e a=>by
 by_cases c:t=b
 ·subst c;rw[lI]at a;exact h e a
 ·rw[gk _ _ c]at a;exact .inr ⟨t,(LY a).1⟩
theorem JA{t e:Nat}{v:AV}(h:(qQ t v).uses e=true):v.uses e=true:=by
 cases v with
 | bor a b d f=>simp only[qQ]at h;cases c:Nat.beq a t<;>rw[c]at h<;>first|exact h|cases h
 | ref a b d=>cases d<;>simp only[qQ]at h<;>first|exact h|(cases c:Nat.beq a t<;>rw[c]at h<;>first|exact h|cases h)
 | _=>exact h
theorem cQ.updH{ts:List Nat}{t:Nat}{k:Kd}{cs:List C} : cQ ts F (updH F t k cs):=λs e a=>by
 unfold Ab.updH at a;cases b:Nat.beq s t with
 | true=>rw[b]at a;cases a
 | false=>rw[b]at a;exact .inr ⟨s,JA a⟩
theorem Kg{t e:Nat}{v:AV}(h:(LR t v).uses e=true):v.uses e=true:=by
 cases v with
 | bor a b d f=>simp only[LR]at h;cases c:Nat.beq a t<;>rw[c]at h<;>first|exact h|cases h
 | ref a b d=>simp only[LR]at h;cases c:Nat.beq a t<;>rw[c]at h<;>first|exact h|cases h
 | _=>exact h
theorem cQ.kill{ts:List Nat}{t:Nat} : cQ ts F (kill F t):=λs e a=>by
 unfold Ab.kill at a;cases b:Nat.beq s t with
 | true=>rw[b]at a;cases a
 | false=>rw[b]at a;exact .inr ⟨s,Kg a⟩
theorem cV{d t:Nat}{av:AV}(h:t≠d):eff none d av F t=F t:=by unfold eff;rw[C7 h,C7 (λe=>by cases e)]
theorem lf{d:Nat}{a:Option Nat}{av:AV} : eff a d av F d=av:=by unfold eff;rw[C8 rfl]
theorem K9{d:Nat} : eff none d (F d) F=F:=by
 funext t
 by_cases h:t=d
 ·subst h;rw[lf]
 ·rw[cV h]
theorem nS{d:Nat}{av:AV}{ts:List Nat}(b:d∉ts)(c:∀t,(F t).uses d=false):iA (eff none d av F) F ts:=λt f=>by
 have g:t≠d:=λe=>b (e ▸ f)
 rw[cV g];refine⟨rfl,λh a k l i=>?_⟩;have j:h≠d:=λe=>by rw[e,c t]at a;cases a
 rwa [cV j]at i
theorem NT{d a:Nat}{v av:AV}(b:a≠d):put (eff none d v F) a av=eff none d (kl a v) (put F a av):=by
 funext t
 by_cases c:t=a
 ·subst c;rw[lI,cV b,lI]
 ·rw[gk _ _ c]
  by_cases e:t=d
  ·subst e;rw[lf,lf]
  ·rw[cV e,cV e,gk _ _ c]
theorem Ai{d t:Nat}{e:Kd}{v:AV}{a:List C}(b:t≠d):updH (eff none d v F) t e a=eff none d (qQ t v) (updH F t e a):=by
 funext s
 by_cases c:s=d
 ·subst c
  rw[lf];unfold updH;rw[show Nat.beq s t=false by rw[<-R4,Nat.beq_eq];exact Ne.symm b,lf];rfl
 ·rw[cV c]
  unfold updH;rw[cV c]
theorem wW{d t:Nat}{c:Kd}{a:List C}(b:t≠d):updH F t c a d=qQ t (F d):=by
 unfold updH;rw[show Nat.beq d t=false by rw[<-R4,Nat.beq_eq];exact Ne.symm b];rfl
theorem GN{d t:Nat}{e:Kd}{v:AV}{a:List C}(b:t≠d):updN (eff none d v F) t e a=eff none d (LQ t v) (updN F t e a):=by
 funext s
 by_cases c:s=d
 ·subst c
  rw[lf];unfold updN;rw[show Nat.beq s t=false by rw[<-R4,Nat.beq_eq];exact Ne.symm b,lf];rfl
 ·rw[cV c]
  unfold updN;rw[cV c]
theorem B2{d t:Nat}{c:Kd}{a:List C}(b:t≠d):updN F t c a d=LQ t (F d):=by
 unfold updN;rw[show Nat.beq d t=false by rw[<-R4,Nat.beq_eq];exact Ne.symm b];rfl
theorem JT{t e:Nat}{v:AV}(h:(LQ t v).uses e=true):v.uses e=true:=by
 cases v with
 | bor b c a f=>
  cases a with
  | nil=>exact h
  | cons s a=>simp only[LQ]at h;cases d:Nat.beq b t<;>rw[d]at h<;>first|exact h|cases h
 | ref b c a=>
  cases a with
  | nil=>exact h
  | cons s a=>simp only[LQ]at h;cases d:Nat.beq b t<;>rw[d]at h<;>first|exact h|cases h
 | _=>exact h
theorem cQ.updN{ts:List Nat}{t:Nat}{k:Kd}{cs:List C} : cQ ts F (updN F t k cs):=λs e a=>by
 unfold Ab.updN at a;cases b:Nat.beq s t with
 | true=>rw[b]at a;cases a
 | false=>rw[b]at a;exact .inr ⟨s,JT a⟩
def Fq(d:Nat)(ts:List Nat)(v:AV)(F:Nat->AV)(K:(Nat->AV)->Prop)(F1:Nat->AV):Prop:=∃a,(v=F d->a=F1 d)/\K (eff none d a F1)/\cQ ts F F1
def PT(d:Nat)(ts:List Nat)(v:AV)(F:Nat->AV)(K:(Nat->AV)->Option Nat->List C->Prop)(F1:Nat->AV)(ag:Option Nat)(cs:List C):Prop:=∃a,(v=F d->a=F1 d)/\K (eff none d a F1) ag cs/\cQ ts F F1
theorem Fq.trans{d:Nat}{ts:List Nat}{v a:AV}{F1 b:Nat->AV}{K:(Nat->AV)->Prop}(h1:v=F d->a=F1 d)(c:cQ ts F F1)(h:Fq d ts a F1 K b):Fq d ts v F K b:=by
 obtain⟨f,g,i,j⟩:=h;exact⟨f,λe=>g (h1 e),i,c.trans j⟩
theorem j9{d a:Nat}{ts:List Nat}{v av:AV}{K:(Nat->AV)->Prop}(h:bP N (eff none d v F) a av K)(b:a≠d)(c:∀e,av.uses e=true->e∈ts\/∃g,(F g).uses e=true):bP N F a av (Fq d ts v F K):=by
 unfold bP at h |-;cases f:(N.free a&&!av.uses a) with
 | false=>rw[f]at h;exact h.elim
 | true=>
  rw[f]at h;simp only[cond_true]at h |-;rw[NT b]at h;exact⟨kl a v,λe=>by rw[gk _ _ (Ne.symm b),e],h,cQ.put c⟩
theorem kB{ts:List Nat}{k:Kd}{cs:List C} : ∀e,(AV.hold k cs).uses e=true->e∈ts\/∃a,(F a).uses e=true:=λe h=>by cases h
theorem E0{p:(Nat->AV)->(AV->Prop)->Prop}{d b:Nat}{v:AV}{ts0 ts:List Nat}{K:(Nat->AV)->Prop}(h:mX p (eff none d v F) ts0 λav=>bP N (eff none d v F) b av K)(a:b≠d)(c:∀t,t∈ts0->t∈ts)(f:d∉ts)(g:∀t,(F t).uses d=false) :
  p F λav=>bP N F b av (Fq d ts v F K):=by
 obtain⟨av,i,j,k⟩:=h;refine k F (nS (λl=>f (c d l)) g) _ (j9 i a λe n=>?_);rcases j e n with h|⟨t,o,h⟩
 ·exact .inl (c e h)
 ·have a:t≠d:=λe=>f (e ▸ c t o)
  rw[cV a]at h;exact .inr ⟨t,h⟩
theorem qJ{d:Nat}{ts:List Nat}{v:AV}{y:Operand}{K:(Nat->AV)->Option Nat->List C->Prop}(h:gm (eff none d v F) y K)(w:d∉tm y)(A:∀t,(F t).uses d=false):gm F y (PT d ts v F K):=by
 have fin:∀{t:Nat}{k:Kd}{f:List C}{b:Option Nat}{xs:List C},t≠d->K (updH (eff none d v F) t k f) b xs->PT d ts v F K (updH F t k f) b xs:=fun {t k f b xs} c h=>by
  rw[Ai c]at h;exact⟨_,λe=>by rw[wW c,e],h,cQ.updH⟩
 have uj:∀{t:Nat}{k:Kd}{f:List C}{b:Option Nat}{xs:List C},t≠d->K (updN (eff none d v F) t k f) b xs->PT d ts v F K (updN F t k f) b xs:=fun {t k f b xs} c h=>by
  rw[GN c]at h;exact⟨_,λe=>by rw[B2 c,e],h,cQ.updN⟩
 cases y with
 | tmp t=>
  have c:t≠d:=λe=>w (by simp[tm,e])
  simp only[gm]at h |-;rw[cV c]at h;cases g:F t with
  | hold l n=>
   rw[g]at h;cases l with
   | one=>exact fin c h
   | agg=>exact fin c h
   | _=>exact h.elim
  | bor o p q b=>
   rw[g]at h;have i:o≠d:=λe=>by have:=A t;rw[g,e]at this;simp[AV.uses]at this
   cases q with
   | cons s q=>
    simp only at h |-;rw[cV i]at h;cases a:F o with
    | hold l n=>
     rw[a]at h;obtain⟨r,j,B,D,E,G⟩:=Lq.out h;exact .mk_ ⟨r,j,_,_,B,D,E,rfl,rfl,uj i G⟩
    | _=>rw[a]at h;exact h.elim
   | nil=>
    simp only at h |-;rw[cV i]at h;cases a:F o with
    | hold l n=>
     rw[a]at h;simp only at h |-;cases u:Nat.ble (p+b.getD 1) n.length with
     | false=>rw[u]at h;exact h.elim
     | true=>rw[u]at h;exact uj i h
    | _=>rw[a]at h;exact h.elim
  | _=>rw[g]at h;exact h.elim
 | _=>exact h.elim
theorem MF{d:Nat}{ts:List Nat}{v:AV}{y:Operand}{K:(Nat->AV)->Option Nat->List C->Prop}(h:tK (eff none d v F) y K)(b:d∉tm y)(c:∀t,(F t).uses d=false):tK F y (PT d ts v F K):=by
 obtain⟨i,xs,a,g⟩:=cq h;refine g F (nS b c) _ ?_;cases f:aV xs with
 | true=>rw[f]at a;exact⟨v,λe=>e,a,cQ.refl _ _⟩
 | false=>rw[f]at a;exact qJ a b c
def Qn(d:Nat)(ts:List Nat)(v:AV)(F:Nat->AV)(K:(Nat->AV)->List C->Prop)(F1:Nat->AV)(cs:List C):Prop:=∃a,(v=F d->a=F1 d)/\K (eff none d a F1) cs/\cQ ts F F1
theorem vw{d:Nat}{ts:List Nat}{f:Nat->Option (Nat × Nat)}(a:d∉ts):∀{parts:List (Nat × Operand)}{cs:List C}{K:(Nat->AV)->List C->Prop}{F:Nat->AV}{v:AV},fillW f parts cs K (eff none d v F)->(∀p,p∈parts->d∉tm p.2)->(∀t,(F t).uses d=false)->
  fillW f parts cs (Qn d ts v F K) F
 | [],cs,K,F,v,h,_,b=>⟨v,λe=>e,h,cQ.refl _ _⟩
 | p::rest,cs,K,F,v,h,g,b=>by
  simp only[fillW]at h |-;split at h
  case h_2=>exact h.elim
  rename_i q y;refine rP (MF (ts:=ts) h (g p O1) b) λA B xs h=>?_
  obtain⟨D,k,h,i⟩:=h;cases j:(Nat.beq xs.length q.2&&Nat.ble (q.1+q.2) cs.length) with
  | false=>rw[j]at h;exact h.elim
  | true=>
   rw[j]at h;simp only[cond_true,dr]at h |-;refine iI (vw a h (λl c=>g l (Q4 _ c)) (i.clean a b)) λE cs2 n=>?_
   obtain⟨o,r,u,w⟩:=n;exact⟨o,λe=>r (k e),u,i.trans w⟩
theorem GR{d a T:Nat}{ts:List Nat}{v:AV}{parts:List (Nat × Operand)}{K:(Nat->AV)->Prop}(h:j8 TE N (eff none d v F) a T parts K)(b:a≠d)(c:d∉ts)(f:∀p,p∈parts->d∉tm p.2)(g:∀t,(F t).uses d=false) :
  j8 TE N F a T parts (Fq d ts v F K):=by
 unfold j8 at h |-;split at h
 case h_2=>exact h.elim
 rename_i size bytes zero flds l;cases e:wo TE flds with
 | false=>rw[e]at h;exact h.elim
 | true=>
  rw[e]at h;refine iI (vw c h f g) λn o h=>?_
  obtain⟨q,i,h,j⟩:=h;exact bE (j9 (ts:=ts) h b kB) λr k=>Fq.trans i j k
theorem EH{d c T n:Nat}{ts:List Nat}{v:AV}{parts:List (Nat × Operand)}{K:(Nat->AV)->Prop}(h:fx TE N (eff none d v F) c T n parts K)(a:c≠d)(f:d∉ts)(i:∀p,p∈parts->d∉tm p.2)(j:∀t,(F t).uses d=false) :
  fx TE N F c T n parts (Fq d ts v F K):=by
 unfold fx at h |-;obtain⟨e,k,h,b⟩:=iP h;refine b _ ?_;cases g:Nat.ble (n*k.size) 16777216 with
 | false=>rw[g]at h;exact h.elim
 | true=>
  rw[g]at h;simp only[cond_true]at h |-;cases n with
  | zero=>
   cases parts with
   | nil=>exact j9 h a kB
   | cons=>exact h.elim
  | succ n=>
   simp only[dr]at h |-;refine iI (vw f h i j) λr u h=>?_
   obtain⟨w,l,h,o⟩:=h;rw[nY]at h |-;exact bE (j9 (ts:=ts) h a kB) λy q=>Fq.trans l o q
theorem Jz{d c t:Nat}{ts:List Nat}{v:AV}{K:(Nat->AV)->Prop}(h:i9 N (eff none d v F) c (.tmp t) K)(a:c≠d)(f:d∉ts)(i:t∈ts)(l:∀t,(F t).uses d=false):i9 N F c (.tmp t) (Fq d ts v F K):=by
 have b:t≠d:=λe=>f (e ▸ i)
 have std:bq (eff none d v F) (.tmp t) (λg=>bP N (eff none d v F) c g K)->bq F (.tmp t) (λg=>bP N F c g (Fq d ts v F K)):=λh=>
  E0 (p:=λF K=>bq F (.tmp t) K) (iX h) a (λq j=>by simp[tm]at j;exact j ▸ i) f l
 simp only[i9]at h |-;rw[cV b]at h;split at h
 ·rename_i n xs r
  cases k:aV xs with
  | true=>rw[k]at h;exact j9 h a kB
  | false=>
   rw[k]at h;simp only[cond_false]at h |-;rw[Ai b]at h;exact bE (j9 (ts:=ts) h a kB) λu o=>Fq.trans (F1:=updH F t (.tup n) _) (λe=>by rw[wW b,e]) cQ.updH o
 all_goals exact std h
theorem Jg{d i:Nat}{ts:List Nat}{v:AV}{x:Operand}{K:(Nat->AV)->Prop}(h:jx N (eff none d v F) i x K)(q:i≠d)(l:d∉ts)(a:∀t,t∈tm x->t∈ts)(D:∀t,(F t).uses d=false):jx N F i x (Fq d ts v F K):=by
 have b:∀y,(∀t,t∈tm y->t∈ts)->bq (eff none d v F) y (λw=>bP N (eff none d v F) i w K)->bq F y (λw=>bP N F i w (Fq d ts v F K)):=λy A h=>E0 (p:=λF K=>bq F y K) (iX h) q A l D
 have B:∀y,(∀t,t∈tm y->t∈ts)->gm (eff none d v F) y (λu r n=>bP N u i (.hold (kv r) n) K)->gm F y (λu r n=>bP N u i (.hold (kv r) n) (Fq d ts v F K)):=λy A h=>
  f8 (qJ (ts:=ts) h (λE=>l (A d E)) D) λu r n h=>by
   obtain⟨M,G,h,H⟩:=h;exact bE (j9 (ts:=ts) h q kB) λO J=>Fq.trans G H J
 cases x with
 | tmp t=>
  have C:t≠d:=λe=>l (e ▸ a t (by simp[tm]))
  unfold jx at h |-;simp only at h |-;rw[cV C]at h;cases o:F t with
  | hold k n=>
   rw[o]at h;cases k with
   | one=>
    simp only at h |-;cases j:aV n with
    | true=>rw[j]at h;exact b (.tmp t) a h
    | false=>rw[j]at h;exact B (.tmp t) a h
   | agg=>
    simp only at h |-;cases j:aV n with
    | true=>rw[j]at h;exact b (.tmp t) a h
    | false=>rw[j]at h;exact B (.tmp t) a h
   | tup P=>exact b _ a h
   | box=>exact b _ a h
  | bor Q L R r=>
   rw[o]at h;simp only at h |-;cases j:N.al i with
   | true=>rw[j]at h;exact b (.tmp t) a h
   | false=>rw[j]at h;exact B (.tmp t) a h
  | dead=>rw[o]at h;exact b _ a h
  | ref=>rw[o]at h;exact b _ a h
  | iref=>rw[o]at h;exact b _ a h
  | fn=>rw[o]at h;exact b _ a h
  | fv=>rw[o]at h;exact b _ a h
 | const c=>exact b (.const c) a h
 | global g=>exact b (.global g) a h
 | func f=>exact b (.func f) a h
theorem Mf{d t:Nat}{v:AV}(b:t≠d):kill (eff none d v F) t=eff none d (LR t v) (kill F t):=by
 funext s
 by_cases e:s=d
 ·subst e
  rw[lf,gK _ (Ne.symm b),lf]
 ·rw[cV e]
  by_cases a:s=t
  ·subst a;rw[lF,lF]
  ·rw[gK _ a,gK _ a,cV e]
theorem N5{d c:Nat}{ts:List Nat}{v:AV}{x:Operand}{K:(Nat->AV)->Prop}(h:Ay N (eff none d v F) c x K)(f:c≠d)(b:d∉ts)(g:∀t,t∈tm x->t∈ts)(k:∀t,(F t).uses d=false):Ay N F c x (Fq d ts v F K):=by
 have i:A4 N (eff none d v F) c x=A4 N F c x:=by
  cases x with
  | tmp t=>
   have a:t≠d:=λe=>b (e ▸ g t (by simp[tm]))
   have l:eff none d v F t=F t:=cV a;unfold A4;simp only;rw[l]
  | _=>rfl
 unfold Ay at h |-;rw[i]at h;cases j:A4 N F c x with
 | none=>rw[j]at h;exact Jg h f b g k
 | some p=>
  rw[j]at h;simp only at h |-;obtain⟨rfl,o⟩:=yR j;have a:p.1≠d:=λe=>b (e ▸ g p.1 (by simp[tm]))
  rw[Mf a]at h;exact bE (j9 (ts:=ts) h f kB) λq n=>Fq.trans (F1:=kill F p.1) (λe=>by rw[gK _ (Ne.symm a),e]) cQ.kill n
theorem Gh{d:Nat}{ts:List Nat}{v:AV}{x:Operand}{cs:List C}{K:(Nat->AV)->Prop}(h:pc (eff none d v F) x cs K)(p:d∉tm x)(q:∀t,(F t).uses d=false):pc F x cs (Fq d ts v F K):=by
 have fin:∀{t:Nat}{k:Kd}{cs:List C},t≠d->K (updH (eff none d v F) t k cs)->Fq d ts v F K (updH F t k cs):=fun {t k cs} a h=>by
  rw[Ai a]at h;exact⟨_,λe=>by rw[wW a,e],h,cQ.updH⟩
 have uj:∀{t:Nat}{k:Kd}{cs:List C},t≠d->K (updN (eff none d v F) t k cs)->Fq d ts v F K (updN F t k cs):=fun {t k cs} a h=>by
  rw[GN a]at h;exact⟨_,λe=>by rw[B2 a,e],h,cQ.updN⟩
 have finP:∀{t:Nat}{k:Kd}{cs:List C},t≠d->K (MO (eff none d v F) t k cs)->Fq d ts v F K (MO F t k cs):=fun {t k cs} a h=>by
  cases k with
  | box=>exact fin a h
  | _=>exact uj a h
 cases x with
 | tmp t=>
  have a:t≠d:=λe=>p (by simp[tm,e])
  simp only[pc]at h |-;rw[cV a]at h;cases f:F t with
  | hold k g=>
   rw[f]at h;cases k with
   | box=>
    simp only at h |-;cases c:Nat.ble cs.length g.length with
    | false=>rw[c]at h;exact h.elim
    | true=>rw[c]at h;simp only[cond_true,dr]at h |-;exact fin a h
   | _=>exact h.elim
  | ref l n o=>
   rw[f]at h;have i:l≠d:=λe=>by have:=q t;rw[f,e]at this;simp[AV.uses]at this
   cases o with
   | cons s o=>
    simp only at h |-;rw[cV i]at h;cases b:F l with
    | hold k g=>
     rw[b]at h;obtain⟨r,j,u,w,y,A⟩:=Pu.out h;exact Pu.mk u w y rfl (finP i A)
    | _=>rw[b]at h;exact h.elim
   | nil=>
    simp only at h |-;rw[cV i]at h;cases b:F l with
    | hold k g=>
     rw[b]at h;cases k with
     | box=>
      simp only at h |-;cases c:Nat.ble (n+cs.length) g.length with
      | false=>rw[c]at h;exact h.elim
      | true=>rw[c]at h;simp only[cond_true,dr]at h |-;exact fin i h
     | _=>exact h.elim
    | _=>rw[b]at h;exact h.elim
  | _=>rw[f]at h;exact h.elim
 | _=>exact h.elim
theorem Lw{d T:Nat}{ts:List Nat}{v:AV}{x y:Operand}{K:(Nat->AV)->Prop}(h:lX TE (eff none d v F) T x y K)(e:d∉ts)(j:d∉tm x)(k:d∉tm y)(c:∀t,(F t).uses d=false):lX TE F T x y (Fq d ts v F K):=by
 unfold lX at h |-;split at h
 ·rename_i i r
  obtain⟨u,l,a,f⟩:=cq h;refine f F (nS k c) _ ?_;cases n:Nat.beq l.length i.size with
  | false=>rw[n]at a;exact a.elim
  | true=>
   rw[n]at a;simp only[cond_true]at a |-;cases o:aV l with
   | true=>rw[o]at a;exact Gh a j c
   | false=>
    rw[o]at a;simp only[cond_false]at a |-;refine f8 (qJ (ts:=ts) a k c) λw q g h=>?_
    obtain⟨A,a,h,p⟩:=h;cases b:Nat.beq g.length i.size with
    | false=>rw[b]at h;exact h.elim
    | true=>rw[b]at h;exact rQ (Gh (ts:=ts) h j (p.clean e c)) λB f=>Fq.trans a p f
 ·exact h.elim
theorem Pj{d:Nat}{v:AV}{y:Operand}(a:d∉tm y):lO (eff none d v F) y=lO F y:=by
 cases y with
 | tmp t=>exact cV λe=>a (by simp[tm,e])
 | _=>rfl
theorem NG{d:Nat}{ts:List Nat}{v:AV}{y:Operand}{K:Bool->(Nat->AV)->List (List C)->Prop}(h:AB (eff none d v F) y K)(f:d∉tm y)(g:∀t,(F t).uses d=false):AB F y λi F1 rows=>∃c,(v=F d->c=F1 d)/\K i (eff none d c F1) rows/\cQ ts F F1:=by
 have b:=Pj (F:=F) (v:=v) f;unfold AB at h |-;rw[b]at h;split at h
 ·refine f8 (qJ (ts:=ts) h f g) λF1 j n h=>?_
  obtain⟨c,a,h,k⟩:=h;split at h
  ·exact⟨c,a,h,k⟩
  ·exact h.elim
 ·rw[<-b]at h
  obtain⟨j,xs,a,l⟩:=cq h;refine l F (nS f g) _ ?_;split at a
  ·exact⟨v,λe=>e,a,cQ.refl _ _⟩
  ·exact⟨v,λe=>e,a,cQ.refl _ _⟩
  ·exact a.elim
theorem MD{d:Nat}{ts:List Nat}{v:AV}{y:Operand}{K:(Nat->AV)->List (List C)->Prop}(h:yV (eff none d v F) y K)(c:d∉tm y)(f:∀t,(F t).uses d=false):yV F y λF1 rows=>∃b,(v=F d->b=F1 d)/\K (eff none d b F1) rows/\cQ ts F F1:=by
 obtain⟨g,xs,a,i⟩:=cq h;refine i F (nS c f) _ ?_;split at a
 ·exact⟨v,λe=>e,a,cQ.refl _ _⟩
 ·refine f8 (qJ (ts:=ts) a c f) λF1 g k h=>?_
  obtain⟨b,a,h,j⟩:=h;split at h
  ·exact⟨b,a,h,j⟩
  ·exact h.elim
 ·exact a.elim
theorem Nf{d b T:Nat}{ts:List Nat}{v:AV}{x y:Operand}{K:(Nat->AV)->Prop}(h:yp TE N (eff none d v F) b T x y K)(c:b≠d)(f:d∉ts)(k:d∉tm x)(l:d∉tm y)(g:∀t,(F t).uses d=false):yp TE N F b T x y (Fq d ts v F K):=by
 obtain⟨e,C,h,a⟩:=iP h;refine a _ (Dq (NG (ts:=ts) h l g) λD E G h=>?_);obtain⟨H,n,h,i⟩:=h;refine yC (MD (ts:=ts) h k (i.clean f g)) λJ j h=>?_
 obtain⟨L,o,h,p⟩:=h;obtain⟨q,r,u,w,A,h⟩:=Ap.out h;refine CQ q r u w A rfl (bE (j9 (ts:=ts) h c kB) λM B=>?_);exact Fq.trans n i (Fq.trans o p B)
theorem J4{f:Oper}{d:Nat}{v:AV}{K:(Nat->AV)->Prop}(E:f.guard=none)(u:NL f.op=true)(q:f.dst≠some d)(j:d∉f.looksAt ops)(r:∀t,(F t).uses d=false)(h:jv P TE N ops f K (eff none d v F)) :
  jv P TE N ops f (Fq d (f.looksAt ops) v F K) F:=by
 unfold jv fm at h |-;rw[E]at h |-;simp only at h |-;have l:∀t,t∈cR f.op->t∈f.looksAt ops:=λt w=>fS f t w
 have pur:∀b,b≠d->dh P TE (eff none d v F) f.op (λA=>bP N (eff none d v F) b A K)->dh P TE F f.op λA=>bP N F b A (Fq d (f.looksAt ops) v F K):=λb q h=>
  E0 (p:=λF K=>dh P TE F f.op K) (lL h) q l j r
 have dne:∀b,f.dst=some b->b≠d:=λb a e=>q (e ▸ a)
 have tmI:∀x,x∈f.op.operands.toList->∀t,t∈tm x->t∈f.looksAt ops:=λx G t w=>l t (List.mem_flatMap.2 ⟨x,G,w⟩)
 cases g:f.op with
 | store T x y=>
  rw[g]at h tmI;simp only[Hc]at h |-;cases a:f.dst with
  | some b=>rw[a]at h;simp only[nv]at h;exact h.elim
  | none=>
   rw[a]at h;simp only at h |-;exact Lw h j (λk=>j (tmI x (by simp[Op.operands]) d k)) (λk=>j (tmI y (by simp[Op.operands]) d k)) r
 | move x=>
  rw[g]at h tmI;cases a:f.dst with
  | none=>rw[a]at h;exact h.elim
  | some b=>
   rw[a]at h;cases x with
   | tmp t=>
    simp only[Hc,nv]at h |-;exact Jz h (dne b a) j (tmI (.tmp t) (by simp[Op.operands]) t (by simp[tm])) r
   | _=>rw[g]at u;cases u
 | assign x=>
  rw[g]at h tmI;cases a:f.dst with
  | none=>rw[a]at h;exact h.elim
  | some b=>
   rw[a]at h;simp only[Hc,nv]at h |-;exact N5 h (dne b a) j (tmI x (by simp[Op.operands])) r
 | build T H=>
  rw[g]at h tmI;cases a:f.dst with
  | none=>rw[a]at h;exact h.elim
  | some b=>
   rw[a]at h;simp only[Hc,nv]at h |-;refine GR h (dne b a) j (λp B k=>j (tmI p.2 ?_ d k)) r;simp only[Op.operands];simpa using ⟨p.1,by simpa using B⟩
 | buildSlice T n H=>
  rw[g]at h tmI;cases a:f.dst with
  | none=>rw[a]at h;exact h.elim
  | some b=>
   rw[a]at h;simp only[Hc,nv]at h |-;refine EH h (dne b a) j (λp B k=>j (tmI p.2 ?_ d k)) r;simp only[Op.operands];simpa using ⟨p.1,by simpa using B⟩
 | extract x i=>rw[g]at h pur;cases a:f.dst with|none=>rw[a]at h;exact h.elim|some b=>rw[a]at h;exact pur b (dne b a) h
 | load T x=>rw[g]at h pur;cases a:f.dst with|none=>rw[a]at h;exact h.elim|some b=>rw[a]at h;exact pur b (dne b a) h
 | fieldAddr T x i=>rw[g]at h pur;cases a:f.dst with|none=>rw[a]at h;exact h.elim|some b=>rw[a]at h;exact pur b (dne b a) h
 | field T x i=>rw[g]at h pur;cases a:f.dst with|none=>rw[a]at h;exact h.elim|some b=>rw[a]at h;exact pur b (dne b a) h
 | binOp o T x y J=>rw[g]at h pur;cases a:f.dst with|none=>rw[a]at h;exact h.elim|some b=>rw[a]at h;exact pur b (dne b a) h
 | unOp o T x=>rw[g]at h pur;cases a:f.dst with|none=>rw[a]at h;exact h.elim|some b=>rw[a]at h;exact pur b (dne b a) h
 | call c=>
  rw[g]at u h tmI;cases C:qu c with
  | none=>simp[NL,C]at u
  | some p=>
   have D:=vp C;subst D;cases a:f.dst with
   | none=>rw[a]at h;exact h.elim
   | some b=>
    rw[a]at h;simp only[Hc,nv,C]at h |-;exact Nf h (dne b a) j (λk=>j (tmI p.2.1 (by simp[Op.operands,Call.operands]) d k)) (λk=>j (tmI p.2.2 (by simp[Op.operands,Call.operands]) d k)) r
 | _=>rw[g]at u;cases u
theorem N7{a:Oper}{d:Nat}{K:(Nat->AV)->Prop}(f:a.guard=none)(g:NL a.op=true)(b:a.dst≠some d)(i:d∉a.looksAt ops)(j:∀t,(F t).uses d=false)(h:jv P TE N ops a K F) :
  jv P TE N ops a (λF1=>K F1/\cQ (a.looksAt ops) F F1) F:=by
 refine jT (J4 (d:=d) (v:=F d) f g b i j (by rw[K9];exact h)) λF1 k=>?_
 obtain⟨l,e,c,u⟩:=k;rw[e rfl,K9]at c;exact⟨c,u⟩
theorem cQ.setH{ts:List Nat}{t:Nat}{k:Kd}{cs:List C} : cQ ts F (setH F t (.hold k cs)):=λs e a=>by
 unfold Ab.setH at a;cases b:Nat.beq s t with
 | true=>rw[b]at a;cases a
 | false=>rw[b]at a;exact .inr ⟨s,a⟩
theorem G0{ts:List Nat}{d:Nat}{k:Kd}{rcs:List C}{K:(Nat->AV)->Prop}(h:bP N F d (.hold k rcs) K):bP N F d (.hold k rcs) λF1=>K F1/\cQ ts F F1:=by
 unfold bP at h |-;cases a:(N.free d&&!(AV.hold k rcs).uses d) with
 | false=>rw[a]at h;exact h.elim
 | true=>rw[a]at h;exact⟨h,cQ.put λe b=>by cases b⟩
theorem su{ts:List Nat}{t off n:Nat}{st:co}{K:(Nat->AV)->List C->Prop}(h:lendAt F t off st n K):lendAt F t off st n λF1 cs=>K F1 cs/\cQ ts F F1:=by
 unfold lendAt at h |-;split at h
 case h_2=>exact h.elim
 split at h
 ·rename_i k b _ _
  cases a:Nat.ble (off+n) b.length with
  | false=>rw[a]at h;exact h.elim
  | true=>
   rw[a]at h;simp only[cond_true,dr]at h |-;exact⟨h,cQ.updH⟩
 ·obtain⟨r,j,c,d,e,f⟩:=Lq.out h
  refine .mk_ ?_;exact⟨r,j,_,_,c,d,e,rfl,rfl,f,cQ.updH⟩
theorem jY{ts:List Nat} : ∀{xs:List (Operand × Nat)}{K:(Nat->AV)->List (MA × xm)->Prop}{F:Nat->AV},lendP xs K F->lendP xs (λF1 l=>K F1 l/\cQ ts F F1) F
 | [],K,F,h=>⟨h,cQ.refl _ _⟩
 | (x,0)::xs,K,F,h=>jY (xs:=xs) h
 | (x,1)::xs,K,F,h=>by
  simp only[lendP]at h |-;split at h
  case h_2=>exact h.elim
  split at h
  ·exact gZ (su (ts:=ts) h) λF1 c h=>dz (jY (ts:=ts) h.1) λb l a=>⟨a.1,h.2.trans a.2⟩
  ·exact gZ (su (ts:=ts) h) λF1 c h=>dz (jY (ts:=ts) h.1) λb l a=>⟨a.1,h.2.trans a.2⟩
  ·exact gZ (su (ts:=ts) h) λF1 c h=>dz (jY (ts:=ts) h.1) λb l a=>⟨a.1,h.2.trans a.2⟩
  ·exact h.elim
 | (x,n+2)::xs,K,F,h=>by
  simp only[lendP]at h |-;split at h
  case h_2=>exact h.elim
  split at h
  ·split at h
   ·exact dz (jY (ts:=ts) h) λb l a=>⟨a.1,cQ.kill.trans a.2⟩
   ·exact h.elim
  ·exact dz (jY (ts:=ts) h) λb l a=>⟨a.1,cQ.kill.trans a.2⟩
  ·exact h.elim
theorem kr{ts:List Nat}{K:(Nat->AV)->Prop} : ∀{l:List (MA × xm)}{B:List MA}{F:Nat->AV},iC l B K F->iC l B (λF1=>K F1/\cQ ts F F1) F
 | [],[],F,h=>⟨h,cQ.refl _ _⟩
 | [],_::_,F,h=>h.elim
 | (m,.no)::l,[],F,h=>h.elim
 | (m,.at_ t off st)::l,[],F,h=>h.elim
 | (m,.box t)::l,[],F,h=>h.elim
 | (m,.no)::l,.val _ _::B,F,h=>kr (l:=l) (B:=B) h
 | (m,.no)::l,.mut _ _::B,F,h=>kr (l:=l) (B:=B) h
 | (m,.no)::l,.ptr _::B,F,h=>kr (l:=l) (B:=B) h
 | (m,.at_ t off st)::l,.val _ _::B,F,h=>h.elim
 | (m,.at_ t off st)::l,.ptr _::B,F,h=>h.elim
 | (m,.box t)::l,.val _ _::B,F,h=>h.elim
 | (m,.box t)::l,.mut _ _::B,F,h=>h.elim
 | (m,.at_ t off st)::l,.mut ag out::B,F,h=>by
  simp only[iC]at h |-;split at h
  case h_2=>exact h.elim
  split at h
  ·rename_i k d _ _
   cases b:Nat.ble (off+out.length) d.length with
   | false=>rw[b]at h;exact h.elim
   | true=>
    rw[b]at h;simp only[cond_true,dr]at h |-;exact dO (λc a=>⟨a.1,cQ.updH.trans a.2⟩) (kr (ts:=ts) h)
  ·obtain⟨r,j,e,f,g,i⟩:=Pu.out h
   exact Pu.mk e f g rfl (dO (λc a=>⟨a.1,cQ.updH.trans a.2⟩) (kr (ts:=ts) i))
 | (m,.box t)::l,.ptr out::B,F,h=>by
  simp only[iC]at h |-;split at h
  ·exact dO (λc a=>⟨a.1,cQ.setH.trans a.2⟩) (kr (ts:=ts) h)
  ·exact h.elim
theorem Kr{ts:List Nat}{d:Option Nat}{f:Nat}{args:List Operand}{modes:List Nat}{K:(Nat->AV)->Prop}(h:nN P N F d f args modes K):nN P N F d f args modes λF1=>K F1/\cQ ts F F1:=by
 unfold nN at h |-;refine dz (jY (ts:=ts) h) λn l h=>?_
 obtain⟨h,c⟩:=h;cases e:(xb l&&Nat.beq args.length modes.length) with
 | false=>rw[e]at h;exact h.elim
 | true=>
  rw[e]at h;refine kh h λb A h=>?_
  obtain⟨o,B,k,rcs,i,a,j⟩:=bU.out h;refine CG i a (dO (λF'' h=>?_) (kr (ts:=ts) j));obtain⟨h,g⟩:=h;cases d with
  | none=>exact⟨h,c.trans g⟩
  | some d=>exact bE (G0 (ts:=ts) h) λp a=>⟨a.1,(c.trans g).trans a.2⟩
theorem MP{ts:List Nat}{d:Option Nat}{t:Nat}{cs:List C}{c a e b:Nat}{K:(Nat->AV)->Prop}{k:Kd}{rcs:List C}{B:List MA}(h:DQ N F d t cs c a e b K k rcs B):DQ N F d t cs c a e b (λF1=>K F1/\cQ ts F F1) k rcs B:=by
 unfold DQ at h |-;split at h
 case h_2=>exact h.elim
 rename_i i j;cases f:(Nat.beq i.length a&&Nat.beq j.length b) with
 | false=>rw[f]at h;exact h.elim
 | true=>
  rw[f]at h;simp only[cond_true,dr]at h |-;cases d with
  | none=>exact⟨h,cQ.kill.trans cQ.setH⟩
  | some d=>exact bE (G0 (ts:=ts) h) λl g=>⟨g.1,(cQ.kill.trans cQ.setH).trans g.2⟩
theorem JR{ts:List Nat}{d:Option Nat}{f:Nat}{args:List Operand}{a b:Nat}{K:(Nat->AV)->Prop}(h:mi P N F d f args a b K):mi P N F d f args a b λF1=>K F1/\cQ ts F F1:=by
 unfold mi at h |-;split at h
 case h_2=>exact h.elim
 refine oy h λt g h=>oy h λi c h=>?_
 split at h
 case h_2=>exact h.elim
 rename_i j p;cases e:(Nat.beq i t&&Nat.ble (g+a) c&&Nat.ble (c+b) j.length) with
 | false=>rw[e]at h;exact h.elim
 | true=>
  rw[e]at h;simp only[cond_true,dr]at h |-;obtain⟨q,B,k,rcs,l,n,o⟩:=bU.out h;exact CG l n (MP o)
theorem Kz{ts:List Nat}{d:Option Nat}{f:Nat}{args:List Operand}{modes:List Nat}{K:(Nat->AV)->Prop}(h:mG P N F d f args modes K):mG P N F d f args modes λF1=>K F1/\cQ ts F F1:=by
 unfold mG at h |-;split
 ·rename_i p a;rw[a]at h;exact JR h
 ·rename_i a;rw[a]at h;exact Kr h
theorem MG{a:Oper}{K:(Nat->AV)->Prop}(k:a.guard=none)(i:Ga a.op=true)(h:jv P TE N ops a K F):jv P TE N ops a (λF1=>K F1/\cQ (a.looksAt ops) F F1) F:=by
 have pur:∀d,a.dst=some d->dh P TE F a.op (λj=>bP N F d j K)->dh P TE F a.op λj=>bP N F d j λF1=>K F1/\cQ (a.looksAt ops) F F1:=λd b h=>by
  have u:fW P TE N ops a K F:=by unfold fW fm;rw[k,b];exact h
  obtain⟨B,j,l,w⟩:=wS u;have f:=l.dst;rw[b]at f;simp only[U0]at f;subst f;have n:=l.at_ F (iA.refl _ _) (λF1=>K F1/\cQ (a.looksAt ops) F F1) ⟨w,cQ.put λe y=>(l.from_ e y).imp id λ⟨t,_,h⟩=>⟨t,h⟩⟩;unfold fW fm at n;rw[k,b]at n;exact n
 unfold jv fm at h |-;rw[k]at h |-;simp only at h |-;cases g:a.op with
 | call c=>
  rw[g]at h i;cases q:Hc N F (.call c) with
  | some p=>rw[q]at h;exact Kz h
  | none=>
   rw[q]at h;simp only at h |-;have o:qu c=none:=by
    simp only[Ga]at i;unfold qu;cases A:c.callee with
    | value=>rfl
    | _=>simp[A]at i
   cases b:a.dst with
   | none=>rw[b]at h;exact h.elim
   | some d=>
    rw[b]at h;simp only[nv,o]at h |-;have r:=pur d b;rw[g]at r;exact r h
 | _=>rw[g]at i;cases i
theorem MV{a:Oper}{d:Nat}{K:(Nat->AV)->Prop}(e:a.guard=none)(b:(NL a.op || Ga a.op)=true)(c:a.dst≠some d)(f:d∉a.looksAt ops)(g:∀t,(F t).uses d=false)(h:jv P TE N ops a K F) :
  jv P TE N ops a (λF1=>K F1/\cQ (a.looksAt ops) F F1) F:=by
 rw[t5]at b;rcases b with b|b
 ·exact N7 e b c f g h
 ·exact MG e b h
structure kS(ops:Array Oper)(ds:List Nat)(F:Nat->AV)(listed:Array Bool):Prop where
 dst:∀(j:Nat)(o:Oper)(d:Nat),mY ds o=true->ops[j]? = some o->listed.getD j true=false->o.dst=some d->∀t,(F t).uses d=false
 mv:∀(j:Nat)(o:Oper)(T:Option Nat)(s:Nat),mY ds o=true->ops[j]? = some o->listed.getD j true=false->o.guard=none->lS o.op=some (T,s)->iE ops o s=true->∀t,(F t).uses s=false
theorem kS.put{j d:Nat}{r:Option Nat}{listed:Array Bool}{av:AV}(h:kS ops ds F listed)(o:∀b a g,mY ds a=true->b≠j->ops[b]? = some a->listed.getD b true=false->a.dst=some g->av.uses g=false)(p:∀b a T s,mY ds a=true->b≠j->ops[b]? = some a->listed.getD b true=false->a.guard=none->lS a.op=some (T,s)->iE ops a s=true->av.uses s=false) :
  kS ops ds (eff r d av F) (listed.setIfInBounds j true):=by
 refine⟨λb a g i c f k t=>?_,λb a T s i c f q l n t=>?_⟩
 ·have e:=gW f
  rw[getD_set_ne true (Ne.symm e)]at f;exact iU (o b a g i e c f k) (h.dst b a g i c f k t)
 ·have e:=gW f
  rw[getD_set_ne true (Ne.symm e)]at f;exact iU (p b a T s i e c f q l n) (h.mv b a T s i c f q l n t)
theorem xc{o:Oper}(h:P5 o=true):o.guard=none:=by
 unfold P5 at h;cases a:o.guard with
 | none=>rfl
 | some p=>rw[a]at h;cases h
theorem JF{ts:List Nat}{d:Nat}(h:(!ts.any (Nat.beq d))=true):d∉ts:=λa=>by
 have:ts.any (Nat.beq d)=true:=I3.2 ⟨d,a,Nat.beq_refl d⟩;rw[this]at h;cases h
theorem LC{c b:Oper}{d:Nat}{f:Bool}(h:PH ops c b f=true)(i:b.dst=some d):c.guard=none/\NL c.op=true/\c.dst≠some d/\d∉c.looksAt ops/\b.guard=none/\d∉b.looksAt ops/\(f=true\/∀T s,lS b.op=some (T,s)->iE ops b s=false):=by
 unfold PH at h;rw[i]at h;simp only[I0]at h;obtain⟨⟨⟨⟨⟨⟨j,k⟩,g⟩,l⟩,n⟩,o⟩,a⟩:=h;refine⟨xc j,k,λe=>?_,JF l,xc n,JF o,?_⟩
 ·rw[e]at g;simp at g
 ·rw[t5]at a
  rcases a with a|a
  ·exact .inl a
  ·exact .inr λT s e=>by rw[e]at a;simpa using a
theorem K4{j i:Nat}(h:tL ops j i=true):mL ops j i:=re j _ (λ_ a=>.one (uR a)) i h
theorem GH{o:Oper}(h:mY ds o=true):∃d,o.dst=some d/\ds.any (Nat.beq d)=true:=by
 unfold mY at h;cases a:o.dst with
 | none=>rw[a]at h;cases h
 | some d=>rw[a]at h;exact⟨d,rfl,h⟩
structure PD(ops:Array Oper)(ds:List Nat)(nm:Nat->Bool):Prop where
 back:∀(j:Nat)(oj:Oper),ops[j]? = some oj->∀e∈oj.after,Region.binds .any e=true->e.on<j
 apart:∀(i j:Nat)(oi oj:Oper),mY ds oi=true->mY ds oj=true->i≠j->ops[i]? = some oi->ops[j]? = some oj->cM oj i=true\/cM oi j=true\/oi.apart ops oj=true
 look:∀(i j:Nat)(oi oj:Oper)(d:Nat),mY ds oi=true->i≠j->ops[i]? = some oi->ops[j]? = some oj->oi.dst=some d->d∈oj.looksAt ops->cM oj i=true
 differ:∀(i j:Nat)(oi oj:Oper)(d:Nat),mY ds oi=true->mY ds oj=true->i≠j->ops[i]? = some oi->ops[j]? = some oj->oi.dst=some d->oj.dst≠some d
 nf:∀(i j:Nat)(oi oj:Oper),mY ds oi=true->mY ds oj=false->i≠j->ops[i]? = some oi->ops[j]? = some oj->tL ops j i=true\/tL ops i j=true\/PH ops oj oi (nm i)=true
 mvs:∀(j:Nat)(oj:Oper)(T:Option Nat)(s:Nat),mY ds oj=true->ops[j]? = some oj->lS oj.op=some (T,s)->iE ops oj s=true->ds.any (Nat.beq s)=true
theorem nu{listed:Array Bool}{j i:Nat}{h:Oper}(c:PD ops ds nm)(d:DC ops listed)(a:ops[j]? = some h)(b:∀e∈h.after,Region.binds .any e=true->listed.getD e.on false=true)(n:tL ops j i=true):listed.getD i false=true:=
 lP d c.back (K4 n) (Z2.1 a).1 λk l=>by
  rw[aW a]at l;obtain⟨e,f,g,rfl⟩:=bY.1 l;exact b e f g
theorem unl{listed:Array Bool}{k:Nat}(h1:listed.getD k true=false)(a:listed.getD k false=true):False:=by
 rcases Nat.lt_or_ge k listed.size with b|b
 ·simp[b]at h1 a;rw[h1]at a;cases a
 ·simp[Array.getElem?_eq_none b]at a
theorem iA.trans{F1 a:Nat->AV}{ts:List Nat}(h1:iA F F1 ts)(g:iA F1 a ts):iA F a ts:=λt b=>by
 obtain⟨c,h⟩:=h1 t b;obtain⟨i,j⟩:=g t b;refine⟨i.trans c,λd e k f l=>j d (by rw[c];exact e) k f (h d e k f l)⟩
theorem kS.us{j:Nat}{f:Oper}{F1:Nat->AV}{listed:Array Bool}(r:PD ops ds nm)(h:kS ops ds F listed)(g:ops[j]? = some f)(i:∀e∈f.after,Region.binds .any e=true->listed.getD e.on false=true)(u:cQ (f.looksAt ops) F F1):kS ops ds F1 (listed.setIfInBounds j true):=by
 refine⟨λk l y q b c n=>u.clean (λd=>?_) (h.dst k l y q b ?_ n),λk l T s q b c A o p=>u.clean (λd=>?_) (h.mv k l T s q b ?_ A o p)⟩
 ·have a:=gW c
  rw[getD_set_ne true (Ne.symm a)]at c;have:=r.look k j l f y q a b g n d;obtain⟨e,t,w,rfl⟩:=bY.1 this;exact unl c (i e t w)
 ·have a:=gW c
  rwa [getD_set_ne true (Ne.symm a)]at c
 ·have a:=gW c
  exact a ((fy p).2 k j l f b g (cK o) d)
 ·have a:=gW c
  rwa [getD_set_ne true (Ne.symm a)]at c
theorem Pe{p d:Nat}{v:AV}{F1:Nat->AV}{b:Oper}(a:ops[p]? = some b)(g:d∉b.looksAt ops)(i:∀t,(F1 t).uses d=false)(c:b.dst≠some d)(h:Pa P TE ops p (eff none d v F1)):Pa P TE ops p F1:=by
 obtain⟨n,f,j,k⟩:=h;rw[aW a]at f j k;refine⟨n,by rw[aW a];exact f,?_,?_⟩
 ·rw[aW a]
  rw[<-j];exact um (ops:=ops) (nS g i)
 ·rw[aW a]
  obtain⟨r,l,-,o⟩:=lL k;rw[cV (λe=>c (by rw[f,e]))]at l;exact o F1 (nS (λq=>g (fS b d q)) i) _ l
theorem E2(B:PD ops ds nm){i d:Nat}{b:Oper}{K:(Nat->AV)->Prop}(C:ops[i]? = some b)(o:mY ds b=true) :
  ∀(fuel:Nat)(listed:Array Bool)(F:Nat->AV)(q:Option Nat)(av:AV),i∈Region.ready .any ops listed->kS ops ds F listed->DC ops listed->Yl P TE N ops b F q d av->(nm i=true->q=none)->D4 P TE N ops ds K fuel (listed.setIfInBounds i true) (eff q d av F)->D4 P TE N ops ds K (fuel+1) listed F:=by
 have self:∀(listed:Array Bool)(F:Nat->AV)(q:Option Nat)(av:AV),i∈Region.ready .any ops listed->kS ops ds F listed->Yl P TE N ops b F q d av->∀K':(Nat->AV)->Prop,K' (eff q d av F)->jX P TE N ops b K' F:=λlisted F q av W c f K' hK=>by
  have a:=(mem_ready.1 W).1;refine f.at_ F (iA.refl _ _) (c.dst i b d o C a f.dst) (λs hs=>?_) K' hK;obtain⟨L,⟨T,h2⟩,h3⟩:=f.mvl s hs;exact c.mv i b T s o C a L h2 h3
 intro fuel
 induction fuel with
 | zero=>
  intro listed F q av W c M f E H;refine⟨λh=>(by rw[h]at W;cases W),λj hj=>?_⟩;by_cases g:j=i
  ·subst g
   unfold tJ;rw[C];simp only[C8 o];exact self listed F q av W c f _ H
  ·have:=ready_mono hj g
   rw[H.1]at this;cases this
 | succ fuel ih=>
  intro listed F q av W c M f E H;refine⟨λh=>(by rw[h]at W;cases W),λj hj=>?_⟩;by_cases g:j=i
  ·subst g
   unfold tJ;rw[C];simp only[C8 o];exact self listed F q av W c f _ H
  ·have L:=H.2 j (ready_mono hj g)
   obtain⟨G,n,l,X⟩:=mem_ready.1 hj;obtain⟨a,oi',Y,Z⟩:=mem_ready.1 W;rw[C]at Y;simp only[U0]at Y;subst Y;have noedge:∀k ok,ops[k]? = some ok->listed.getD k true=false->cM n k=false:=λk ok hk hkun=>by
    rw[<-R4];intro he;obtain⟨e,he1,he2,he3⟩:=bY.1 he;exact unl hkun (he3 ▸ X e he1 he2)
   have noedge':∀k ok,ops[k]? = some ok->listed.getD k true=false->cM b k=false:=λk ok hk hkun=>by
    rw[<-R4];intro he;obtain⟨e,he1,he2,he3⟩:=bY.1 he;exact unl hkun (he3 ▸ Z e he1 he2)
   have cd:∀t,(F t).uses d=false:=c.dst i b d o C a f.dst
   unfold tJ at L |-;rw[l]at L |-;simp only at L |-;by_cases O:mY ds n=true
   case neg=>
    rw[C7 O]at L |-;have hji1:tL ops j i=false:=by
     rw[<-R4];exact λh=>unl a (nu B M l X h)
    have hij1:tL ops i j=false:=by
     rw[<-R4];exact λh=>unl G (nu B M C Z h)
    have hfb:PH ops n b (nm i)=true:=by
     rcases B.nf i j b n o (by simpa using O) (Ne.symm g) C l with h|h|h
     ·rw[hji1]at h;cases h
     ·rw[hij1]at h;cases h
     ·exact h
    obtain⟨Q,y,J,g4,g5,g6,g7⟩:=LC hfb f.dst;have hmv:q=none:=by
     cases q with
     | none=>rfl
     | some s=>
      obtain⟨-,⟨T,q1⟩,q2⟩:=f.mvl s rfl;rcases g7 with g7|g7
      ·exact E g7
      ·rw[g7 T s q1]at q2;cases q2
    subst hmv;refine jT (J4 Q y J g4 cd L) λF1 hF1=>?_
    obtain⟨v,-,⟨hchk,hrun⟩,u⟩:=hF1;have cd1:∀t,(F1 t).uses d=false:=u.clean g4 cd
    have hisz:i<listed.size:=by
     rcases Nat.lt_or_ge i listed.size with h|h
     ·exact h
     ·simp[Array.getElem?_eq_none h]at a
    have hrd:Pa P TE ops i (eff none d v F1):=hchk i (by simp[hisz]) (by rw[aW C];exact o) hji1;refine⟨λp hp1 hp2 hp3=>?_,ih (listed.setIfInBounds j true) F1 none v (ready_mono W (Ne.symm g)) (c.us B l X u) (M.put hj) ?_ (λ_=>rfl) (by rw[Array.setIfInBounds_comm _ _ g];exact hrun)⟩
    ·have hpi:p≠i:=λe=>by subst e;exact unl a hp1
     have hpl:p<ops.size:=by
      rcases Nat.lt_or_ge p ops.size with h|h
      ·exact h
      ·rw[show cJ ops p=default by simp[cJ,C5,Array.getElem?_eq_none h]]at hp2
       cases hp2
     have h0:ops[p]? = some ops[p]:=v5 hpl;have hp2':=hp2;rw[aW h0]at hp2';refine Pe h0 (λhlk=>?_) cd1 (B.differ i p b _ d o hp2' (Ne.symm hpi) C h0 f.dst) (hchk p (getD_set_true hp1) hp2 hp3);have:=B.look i p b _ d o (Ne.symm hpi) C h0 f.dst hlk;exact unl a (M p _ h0 hp1 i this)
    ·obtain⟨dp,q1,q2,q3⟩:=hrd
     rw[aW C]at q1 q2 q3;have hdp:dp=d:=by rw[f.dst]at q1;simpa using q1.symm
     subst hdp;rw[lf]at q3;obtain⟨R,e1,e2,e3⟩:=lL q3;subst e1;have agr1:iA (eff none dp R F1) F1 (b.looksAt ops):=nS g6 cd1;have fromv:dH F1 (b.looksAt ops) R:=λe he=>by
      rcases e2 e he with h|⟨t,A,h⟩
      ·exact .inl (fS b e h)
      ·have htl:=fS (ops:=ops) b t A
       have hne:t≠dp:=λe=>g6 (e ▸ htl)
       rw[cV hne]at h;exact .inr ⟨t,htl,h⟩
     have hself:R.uses dp=false:=by
      cases D:R.uses dp with
      | false=>rfl
      | true=>
       rcases fromv dp D with h|⟨t,_,h⟩
       ·exact absurd h g6
       ·rw[cd1 t]at h;cases h
     refine⟨f.dst,f.lt,hself,fromv,λs hs=>(by cases hs),λF' hA S _ K' hK=>?_⟩;have agr2:=agr1.trans hA;unfold jX;rw[um agr2,q2];simp only;unfold fW fm;rw[g5,f.dst];simp only;refine e3 F' (agr2.mono λt A=>fS b t A) _ ?_;unfold bP;rw[f.lt,hself];show K' (put F' dp R);rw[zW R S];exact hK
   rw[C8 O]at L |-;have hap:b.apart ops n=true:=by
    rcases B.apart i j b n o O (Ne.symm g) C l with h|h|h
    ·rw[noedge i b C a]at h;cases h
    ·rw[noedge' j n l G]at h;cases h
    ·exact h
   obtain⟨ap1,ap2,ap3⟩:=Oper.apart_spec hap;have hdl:d∉n.looksAt ops:=ap1 d f.dst;have cdj':∀r,n.dst=some r->∀t,(F t).uses r=false:=λr hdj=>c.dst j n r O l G hdj
   have cmv:∀s,q=some s->(∀t,(F t).uses s=false)/\s∉n.looksAt ops/\s∈b.looksAt ops:=λs hs=>by
    obtain⟨Q,⟨T,y⟩,J⟩:=f.mvl s hs;exact⟨c.mv i b T s o C a Q y J,λhl=>g ((fy J).2 i j b n C l (cK y) hl).symm,cK y⟩
   have cmvj:∀T s,n.guard=none->lS n.op=some (T,s)->iE ops n s=true->(∀t,(F t).uses s=false)/\s∉b.looksAt ops/\s∈n.looksAt ops:=λT s Q y J=>
    ⟨c.mv j n T s O l G Q y J,λhl=>g ((fy J).2 i j b n C l hl (cK y)).symm,cK y⟩
   have avno:∀e,e∉b.looksAt ops->(∀t,(F t).uses e=false)->av.uses e=false:=λe L h2=>by
    cases D:av.uses e with
    | false=>rfl
    | true=>
     rcases f.from_ e D with h|⟨t,_,h⟩
     ·exact absurd h L
     ·rw[h2 t]at h;cases h
   obtain⟨mvj,r,avj,U,hKj⟩:=oA L (λr hdj t=>iU (avno r (ap3 r hdj) (cdj' r hdj)) (cdj' r hdj t)) (λT s Q y J t=>by
     obtain⟨c1,c2,-⟩:=cmvj T s Q y J;exact iU (avno s c2 c1) (c1 t))
   have hdne:d≠r:=λe=>ap2 d f.dst (by rw[U.dst,e])
   have hdjl:r∉b.looksAt ops:=ap3 r U.dst;have cdj:∀t,(F t).uses r=false:=cdj' r U.dst
   have cmj:∀s,mvj=some s->(∀t,(F t).uses s=false)/\s∉b.looksAt ops/\s∈n.looksAt ops:=λs hs=>by
    obtain⟨Q,⟨T,y⟩,J⟩:=U.mvl s hs;exact cmvj T s Q y J
   have lookj:∀t,t∈n.looksAt ops->eff q d av F t=F t:=λt A=>by
    unfold eff;have e1:t≠d:=λe=>hdl (e ▸ A)
    have e2:q≠some t:=λe=>(cmv t e).2.1 A
    rw[C7 e1,C7 e2]
   have looki:∀t,t∈b.looksAt ops->eff mvj r avj F t=F t:=λt A=>by
    unfold eff;have e1:t≠r:=λe=>hdjl (e ▸ A)
    have e2:mvj≠some t:=λe=>(cmj t e).2.1 A
    rw[C7 e1,C7 e2]
   have avjno:∀e,e∉n.looksAt ops->(∀t,(F t).uses e=false)->avj.uses e=false:=λe L h2=>by
    cases D:avj.uses e with
    | false=>rfl
    | true=>
     rcases U.from_ e D with h|⟨t,A,h⟩
     ·exact absurd h L
     ·rw[lookj t A,h2 t]at h;cases h
   have agrj:iA (eff q d av F) F (n.looksAt ops):=λt A=>by
    rw[lookj t A];refine⟨rfl,λt' D k cs hh=>?_⟩;have w:t'≠d:=λe=>by rw[e,cd t]at D;cases D
    have E:q≠some t':=λe=>by rw[(cmv t' e).1 t]at D;cases D
    unfold eff at hh;rw[C7 w,C7 E]at hh;exact hh
   refine U.at_ F agrj cdj (λs hs=>(cmj s hs).1) _ (ih (listed.setIfInBounds j true) (eff mvj r avj F) q av (ready_mono W (Ne.symm g)) (c.put (λj' o' d' hm' w V hl' S=>?_) (λj' o' T s hm' w V hl' Q y J=>?_)) (M.put hj) ?_ E ?_)
   ·refine avjno d' (λh=>?_) (c.dst j' o' d' hm' V hl' S)
    have:=B.look j' j o' n d' hm' w V l S h;rw[noedge j' o' V hl']at this;cases this
   ·exact avjno s (λh=>w ((fy J).2 j' j o' n V l (cK y) h)) (c.mv j' o' T s hm' V hl' Q y J)
   ·refine⟨f.dst,f.lt,f.self,λe he=>?_,f.mvl,λF' hA S hs' K' hK=>f.at_ F' (λt A=>?_) S hs' K' hK⟩
    ·rcases f.from_ e he with h|⟨t,A,h⟩
     ·exact .inl h
     ·exact .inr ⟨t,A,by rw[looki t A];exact h⟩
    ·obtain⟨a1,a2⟩:=hA t A
     rw[looki t A]at a1 a2;refine⟨a1,λt' D k cs hh=>a2 t' D k cs ?_⟩;have w:t'≠r:=λe=>by rw[e,cdj t]at D;cases D
     have E:mvj≠some t':=λe=>by rw[(cmj t' e).1 t]at D;cases D
     unfold eff;rw[C7 w,C7 E];exact hh
   ·rw[Array.setIfInBounds_comm _ _ g]
    have:eff q d av (eff mvj r avj F)=eff mvj r avj (eff q d av F):=by
     funext t
     unfold eff;by_cases e1:t=d
     ·have Q:t≠r:=λe=>hdne (e1.symm.trans e)
      have y:mvj≠some t:=λe=>hdl (e1 ▸ (cmj t e).2.2)
      simp only[C8 e1,C7 Q,C7 y]
     ·rw[C7 e1]
      by_cases e2:t=r
      ·have y:q≠some t:=λe=>hdjl (e2 ▸ (cmv t e).2.2)
       simp only[C8 e2,C7 y]
      ·simp only[C7 e2,C7 e1]
       by_cases e3:q=some t
       ·by_cases e4:mvj=some t
        ·simp only[C8 e3,C8 e4]
        ·simp only[C8 e3,C7 e4]
       ·by_cases e4:mvj=some t
        ·simp only[C7 e3,C8 e4]
        ·simp only[C7 e3,C7 e4]
    rw[this];exact hKj
theorem yB:∀{g:List Nat}{X:Prop}{F:Nat->AV},L9 P TE ops g X F->X/\∀p,p∈g->Pa P TE ops p F
 | [],X,F,h=>⟨h,λp k=>by cases k⟩
 | p::l,X,F,h=>by
  simp only[L9]at h;unfold Py at h;cases c:(cJ ops p).dst with
  | none=>rw[c]at h;exact h.elim
  | some d=>
   rw[c]at h;simp only at h;cases f:EG F (cJ ops p) with
   | some q=>rw[f]at h;exact h.elim
   | none=>
    rw[f]at h;simp only at h;obtain⟨i,j,-,-⟩:=lL h;obtain⟨e,n,b⟩:=(show i=F d/\X/\∀p,p∈l->Pa P TE ops p F from⟨j.out.1,yB j.out.2⟩)
    refine⟨n,λo a=>?_⟩;rcases List.mem_cons.1 a with rfl|a
    ·exact⟨d,c,f,rT h λi h=>h.out.1⟩
    ·exact b o a
theorem ow{l:List (Nat × List Nat)}{i:Nat} : oR l i=true↔∃p,p∈l/\p.1=i:=by
 unfold oR;rw[I3];exact⟨λ⟨p,a,b⟩=>⟨p,a,R1 b⟩,λ⟨p,a,b⟩=>⟨p,a,by rw[b];exact Nat.beq_refl i⟩⟩
theorem jO{k:Nat × List Nat}{l:List (Nat × List Nat)}{i:Nat} : oR (k::l) i=(Nat.beq k.1 i || oR l i):=rfl
theorem zD(f:PD ops ds nm){K:(Nat->AV)->Prop} : ∀(l:List (Nat × List Nat))(listed:Array Bool)(F:Nat->AV),BQ ops ds l=true->listed.size=ops.size->(∀j,j<ops.size->listed.getD j true = !oR l j)->kS ops ds F listed->DC ops listed->
  H9 P TE N ops ds nm l K F->D4 P TE N ops ds K l.length listed F
 | [],listed,F,_,hs,g,_,_,w=>by
  refine⟨?_,w⟩;apply List.eq_nil_iff_forall_not_mem.2;intro j hj;obtain⟨h1,o,ho,-⟩:=mem_ready.1 hj;have y:=(Z2.1 ho).1;rw[g j y]at h1;cases h1
 | k::l,listed,F,Q,hs,g,n,L,w=>by
  simp only[BQ,I0]at Q;obtain⟨⟨⟨⟨q1,q2⟩,q3⟩,q4⟩,q5⟩:=Q;have hk:k.1<ops.size:=by simpa[Nat.blt_eq] using q1
  have u:ops[k.1]? = some ops[k.1]:=v5 hk;have hrf:∀i,i<ops.size->listed.getD i true=true->listed.getD i false=true:=λi hi h=>by
   have h2:i<listed.size:=ω
   simp[h2]at h |-;exact h
  have hready:k.1∈Region.ready .any ops listed:=mem_ready.2 ⟨by rw[g k.1 hk,jO,Nat.beq_refl];rfl,_,u,λe he hb=>by
    have y:=f.back k.1 _ u e he hb;have hx:=q3;rw[aW u]at hx;have h3:=O3.1 hx e (by simpa using he);rw[hb]at h3;refine hrf e.on ω ?_;rw[g e.on ω,jO];simpa using h3⟩
  have A:∀j,j<ops.size->(listed.setIfInBounds k.1 true).getD j true = !oR l j:=λj hj=>by
   by_cases B:j=k.1
   ·subst B
    have:oR l k.1=false:=by simpa using q2
    rw[this];simp[hs,hj]
   ·rw[getD_set_ne true (Ne.symm B),g j hj,jO,show Nat.beq k.1 j=false by rw[<-R4,Nat.beq_eq];exact Ne.symm B];rfl
  show D4 P TE N ops ds K (l.length+1) listed F;simp only[H9]at w;rw[aW u]at w q4;have S:listed.getD k.1 true=false:=(mem_ready.1 hready).1;cases a:mY ds ops[k.1] with
  | true=>
   rw[a]at w;simp only[cond_true]at w;obtain⟨mv,d,av,hy,w,hnm⟩:=Hy w (λd hd=>n.dst k.1 _ d a u S hd) (λT s g1 g2 g3=>n.mv k.1 _ T s a u S g1 g2 g3);have b:∀e∈ops[k.1].after,Region.binds .any e=true->listed.getD e.on false=true:=by
    obtain⟨-,R,U,b⟩:=mem_ready.1 hready;rw[u]at U;simp only[U0]at U;subst U;exact b
   refine E2 f u a l.length listed F mv av hready n L hy hnm (zD f l _ _ q5 (by simpa using hs) A (n.put (λM R d' r C c hl'' V=>?_) (λM R T s r C c hl'' g1 g2 g3=>?_)) (L.put hready) w)
   ·cases hu:av.uses d' with
    | false=>rfl
    | true=>
     rcases hy.from_ d' hu with h|⟨t,_,h⟩
     ·have:=f.look M k.1 R _ d' r C c u V h
      obtain⟨e,W,X,Y⟩:=bY.1 this;exact(unl hl'' (Y ▸ b e W X)).elim
     ·rw[n.dst M R d' r c hl'' V t]at h;cases h
   ·cases hu:av.uses s with
    | false=>rfl
    | true=>
     rcases hy.from_ s hu with h|⟨t,_,h⟩
     ·exact absurd ((fy g3).2 M k.1 R _ c u (cK g2) h) C
     ·rw[n.mv M R T s r c hl'' g1 g2 g3 t]at h;cases h
  | false=>
   rw[a]at w q4;simp only[cond_false]at w;simp only[Bool.false_or,I0]at q4;obtain⟨⟨r1,r2⟩,r3⟩:=q4;refine⟨λh=>(by rw[h]at hready;cases hready),λj hj=>?_⟩;obtain⟨D,oj,E,b⟩:=mem_ready.1 hj;have hjlt:=(Z2.1 E).1;have B:j=k.1:=by
    rw[g j hjlt,jO]at D;cases hb:Nat.beq k.1 j with
    | true=>exact(R1 hb).symm
    | false=>
     rw[hb]at D;obtain⟨p,G,rfl⟩:=ow.1 (show oR l j=true by simpa using D);exact(unl S (nu f L E b (O3.1 r1 p G))).elim
   subst B;rw[u]at E;simp only[U0]at E;subst E;unfold tJ;rw[u];simp only[a,C7 (show ¬false=true by decide)];have post:∀J,L9 P TE ops k.2 (H9 P TE N ops ds nm l K J) J->kS ops ds J (listed.setIfInBounds k.1 true)->(∀p,listed.getD p false=true->mY ds (cJ ops p)=true->tL ops k.1 p=false->Pa P TE ops p J)/\D4 P TE N ops ds K l.length (listed.setIfInBounds k.1 true) J:=λJ Z hcl1=>by
    obtain⟨hrun,hrd⟩:=yB Z;refine⟨λp G hp2 hp3=>hrd p ?_,zD f l _ _ q5 (by simpa using hs) A hcl1 (L.put hready) hrun⟩;have hpl:p<ops.size:=by
     rcases Nat.lt_or_ge p ops.size with h|h
     ·exact h
     ·rw[show cJ ops p=default by simp[cJ,C5,Array.getElem?_eq_none h]]at hp2
      cases hp2
    have h4:=fQ r2 hpl;rw[hp2,hp3]at h4;have hml:oR l p=false:=by
     rw[<-R4];intro hm;have:listed.getD p true=false:=by rw[g p hpl,jO,hm];simp
     exact unl this G
    rw[hml]at h4;simp only[Bool.not_true,Bool.false_or]at h4;obtain⟨x,O,q⟩:=I3.1 h4;exact R1 q ▸ O
   cases hlater:l.any (λj=>mY ds (cJ ops j.1)) with
   | false=>
    refine jT w λJ Z=>post J Z ⟨λM R d' r c hl'' V=>?_,λM R T s r c hl''=>?_⟩
    all_goals
     exfalso;have hj'lt:=(Z2.1 c).1;rw[A M hj'lt]at hl'';obtain⟨p,G,rfl⟩:=ow.1 (show oR l M=true by simpa using hl'');have:l.any (λj=>mY ds (cJ ops j.1))=true:=I3.2 ⟨p,G,by rw[aW c];exact r⟩;rw[this]at hlater;cases hlater
   | true=>
    rw[hlater]at r3;simp only[Bool.not_true,Bool.false_or,I0]at r3;obtain⟨x,O,q⟩:=I3.1 hlater;have H:listed.getD x.1 true=false/\x.1<ops.size:=by
     have y:x.1<ops.size:=by
      rcases Nat.lt_or_ge x.1 ops.size with h|h
      ·exact h
      ·rw[show cJ ops x.1=default by simp[cJ,C5,Array.getElem?_eq_none h]]at q
       cases q
     refine⟨?_,y⟩;rw[g x.1 y,jO,ow.2 ⟨x,O,rfl⟩];simp
    have hx0:ops[x.1]? = some ops[x.1]:=v5 H.2;rw[aW hx0]at q;obtain⟨d,hd,hdd⟩:=GH q;have hxk:x.1≠k.1:=λe=>by
     have:oR l k.1=true:=ow.2 ⟨x,O,e⟩;rw[this]at q2;cases q2
    refine jT (MV (d:=d) (xc r3.1) r3.2 (λe=>?_) (λhlk=>?_) (n.dst x.1 _ d q hx0 H.1 hd) w) λJ h1=>post J h1.1 (n.us f u b h1.2)
    ·unfold mY at a
     rw[e]at a;simp only at a;rw[hdd]at a;cases a
    ·have:=f.look x.1 k.1 _ _ d q hxk hx0 u hd hlk
     obtain⟨e,W,X,Y⟩:=bY.1 this;exact unl H.1 (Y ▸ b e W X)
theorem AM{sch:List (Nat × List Nat)}(h:AJ ops ds sch=true):PD ops ds (PS sch)/\BQ ops ds sch=true/\sch.length=ops.size/\∀j,j<ops.size->oR sch j=true:=by
 unfold AJ at h;simp only[I0]at h;obtain⟨⟨t,o⟩,p⟩:=h;have q:=λj (k:j<ops.size)=>fQ t k
 have r:∀(i j:Nat)(g f:Oper),i≠j->ops[i]? = some g->ops[j]? = some f->zi ops ds (PS sch) i j=true:=λi j g f a b c=>by
  have:=q j (Z2.1 c).1;simp only[I0]at this;have:=fQ this.2 (Z2.1 b).1;rw[show Nat.beq i j=false by rw[<-R4,Nat.beq_eq];exact a]at this;exact this
 refine⟨⟨λj f k e u w=>?_,λi j g f l n a b c=>?_,λi j g f d l a b c y D=>?_,λi j g f d l n a b c y u=>?_,λi j g f l n a b c=>?_,λj f T s l k A B=>?_⟩,p,R1 o,λj k=>?_⟩
 ·have:=q j (Z2.1 k).1
  rw[aW k]at this;simp only[I0]at this;have:=O3.1 this.1.1.1 e (by simpa using u);rw[w]at this;simpa[Nat.blt_eq] using this
 ·have:=r i j g f a b c
  unfold zi at this;rw[aW b,aW c,l,n]at this;simp only[cond_true,I0,t5]at this;rcases this.1.1 with(h|h)|h
  ·exact .inl h
  ·exact .inr (.inl h)
  ·exact .inr (.inr h)
 ·have:=r i j g f a b c
  unfold zi at this;rw[aW b,aW c,l]at this;have C:sT ops i j=true:=by
   unfold sT;rw[aW b,y];simp only;rw[aW c];exact I3.2 ⟨d,D,Nat.beq_refl d⟩
  rw[C]at this;cases n:mY ds f with
  | true=>
   rw[n]at this;simp only[cond_true,I0,Bool.not_true,Bool.false_or]at this;exact this.1.2
  | false=>
   rw[n]at this;simp only[cond_true,cond_false,I0,Bool.not_true,Bool.false_or]at this;exact this.2
 ·have:=r i j g f a b c
  unfold zi at this;rw[aW b,aW c,l,n,y,u]at this;simp[Nat.beq_refl]at this
 ·have:=r i j g f a b c
  unfold zi at this;rw[aW b,aW c,l,n]at this;simp only[cond_true,cond_false,I0,t5]at this;rcases this.1 with(h|h)|h
  ·exact .inl h
  ·exact .inr (.inl h)
  ·exact .inr (.inr h)
 ·have:=q j (Z2.1 k).1
  rw[aW k]at this;simp only[I0]at this;have:=this.1.2;rw[l,A]at this;simp only[B,Bool.not_true,Bool.false_or]at this;exact this
 ·have:=q j k
  simp only[I0]at this;exact this.1.1.2
theorem oP{l:List Nat}{j:Nat} : AL l j=true↔j∈l:=by
 unfold AL;rw[I3];exact⟨λ⟨x,a,b⟩=>R1 b ▸ a,λh=>⟨j,h,Nat.beq_refl j⟩⟩
theorem Ee{p:Nat->Prop} : ∀{l:List Nat}{i:Nat},PU p i l->∀j,j∈i::l->p j
 | [],i,h,j,a=>by rw[Z0.1 a];exact h
 | k::l,i,h,j,a=>by
  rcases List.mem_cons.1 a with rfl|a
  ·exact h.1
  ·exact Ee h.2 j a
theorem Eo{l:List Nat}{K:Prop}{p:Nat->Prop}(h:PZ l K p):(l=[]->K)/\∀j∈l,p j:=by
 cases l with
 | nil=>exact⟨λ_=>h,λj a=>by cases a⟩
 | cons i l=>exact⟨λe=>(by cases e),Ee h⟩
theorem qh{listed:Array Bool}{done:List Nat}(t:listed.size=ops.size)(b:∀j,j<ops.size->listed.getD j true=AL done j)(q:∀k∈done,k<ops.size){j:Nat} : j∈Region.ready .any ops listed↔j∈J1 ops done:=by
 have d:∀i,listed.getD i false=AL done i:=λi=>by
  by_cases n:i<ops.size
  ·rw[<-b i n]
   have f:i<listed.size:=ω
   simp[f]
  ·have f:listed.getD i false=false:=by simp[Array.getElem?_eq_none (show listed.size<=i by omega)]
   rw[f]
   symm
   rw[<-R4,oP];exact λr=>n (q i r)
 rw[mem_ready];unfold J1;rw[V3,List.mem_range,I0];constructor
 ·rintro⟨l,o,p,g⟩
  have a:=(Z2.1 p).1;refine⟨a,by rw[<-b j a,l];rfl,O3.2 λe h=>?_⟩;rw[aW p]at h;cases c:Region.binds .any e with
  | false=>rfl
  | true=>
   have:=g e (by simpa using h) c;rw[d]at this;simpa using this
 ·rintro⟨a,l,f⟩
  refine⟨by rw[b j a];simpa using l,ops[j],v5 a,λe h c=>?_⟩;have:=O3.1 f e (by rw[aW (v5 a)];simpa using h);rw[c]at this;rw[d];simpa using this
theorem Nq{K:(Nat->AV)->Prop} : ∀(n:Nat)(done:List Nat)(listed:Array Bool)(F:Nat->AV),listed.size=ops.size->(∀j,j<ops.size->listed.getD j true=AL done j)->(∀k∈done,k<ops.size)->Pk P TE N ops K n done F->D4 P TE N ops [] K n listed F
 | 0,done,listed,F,c,a,d,h=>by
  obtain⟨o,q⟩:=Eo h;have l:J1 ops done=[]:=List.eq_nil_iff_forall_not_mem.2 λj b=>q j b
  exact⟨List.eq_nil_iff_forall_not_mem.2 λj b=>(by rw[qh c a d,l]at b;cases b),o l⟩
 | n+1,done,listed,F,c,a,d,h=>by
  obtain⟨o,q⟩:=Eo h;refine⟨λl=>o (List.eq_nil_iff_forall_not_mem.2 λj b=>(by rw[<-qh c a d,l]at b;cases b)),λi y=>?_⟩;have f:=(qh c a d).1 y;have t:=q i f;have g:i<ops.size:=List.mem_range.1 (V3.1 f).1;have u:ops[i]? = some ops[i]:=v5 g;unfold tJ;rw[u];simp only;rw[aW u]at t;have A:mY [] ops[i]=false:=by unfold mY;split<;>rfl
  rw[C7 (by rw[A];decide)];refine jT t λB C=>⟨λp _ w=>?_,Nq n (i::done) _ B (by simpa using c) (λj b=>?_) (λk r=>?_) C⟩
  ·have:mY [] (cJ ops p)=false:=by unfold mY;split<;>rfl
   rw[this]at w;cases w
  ·by_cases e:j=i
   ·subst e
    rw[show AL (j::done) j=true from oP.2 (O1 ..)];simp[c,b]
   ·rw[getD_set_ne true (Ne.symm e),a j b]
    rw[Z3,oP,oP,List.mem_cons];exact⟨.inr,λh=>h.resolve_left e⟩
  ·rcases List.mem_cons.1 r with rfl|r
   ·exact g
   ·exact d k r
theorem uK(g:∀t i,TE t=some i->cb P t i)(C:P.follows .mixedOrders=true){id:Nat}{tb:List (Nat × Nat × List Nat)}(b:ma tb id ops=true){K:(Nat->AV)->Prop}{Q:Exit->Act->World->Prop}(c:DD P TE N tb id ops K F)(D:St w0 M S0 N F a w)(E:∀F' U V,K F'->St w0 M S0 N F' U V->Q .normal U V):(Code.region id ops true).wp P Q a w:=by
 unfold ma at b;unfold DD at c;cases q:uP tb id with
 | none=>rw[q]at b;cases b
 | some p=>
  obtain⟨m,L⟩:=p;rw[q]at b c;simp only at b c;cases r:Nat.ble 65536 m with
  | true=>
   rw[r]at c;refine wp_region_any C ?_;have l:St w0 M S0 N F a {w with drawn:=w.drawn+1}:=by
    obtain⟨S,φ,h⟩:=D;exact⟨S,φ,h.more (w1:={w with drawn:=w.drawn+1}) (λ_ _ h=>h) (λ_ _ h=>.inl h) ⟨rfl,rfl,rfl,R2 _,λ_ _ _=>rfl,λ_ _ _ _=>rfl,λ_ _ _ _=>rfl⟩⟩
   refine pM g (ds:=[]) E ops.size (Array.replicate ops.size false) _ a _ ?_ l;exact Nq ops.size [] _ F (by simp) (λj n=>by simp[n,AL]) (λk Z=>by cases Z) c
  | false=>
  rw[r]at b c;simp only[cond_false]at b c;cases u:Nat.ble 256 m with
  | false=>
   rw[u]at b c;exact Ao g C b c D E
  | true=>
   rw[u]at b c;simp only[cond_true,Gs]at b c;generalize L.take (m - 256)=ds at b c;generalize dec (L.drop (m - 256))=sch at b c;obtain⟨W,y,e,A⟩:=AM b;refine wp_region_any C ?_;have l:St w0 M S0 N (Ab.clr ds F) a {w with drawn:=w.drawn+1}:=by
    have h1:=D.clr ds;obtain⟨S,φ,h⟩:=h1;exact⟨S,φ,h.more (w1:={w with drawn:=w.drawn+1}) (λ_ _ h=>h) (λ_ _ h=>.inl h) ⟨rfl,rfl,rfl,R2 _,λ_ _ _=>rfl,λ_ _ _ _=>rfl,λ_ _ _ _=>rfl⟩⟩
   refine pM g (ds:=ds) E ops.size (Array.replicate ops.size false) _ a _ ?_ l;have B:∀d,ds.any (Nat.beq d)=true->∀t,(Ab.clr ds F t).uses d=false:=λd G t=>by
    rw[A7];cases X:ds.any (λd=>(F t).uses d) with
    | true=>rfl
    | false=>
     simp only[cond_false];cases hu:(F t).uses d with
     | false=>rfl
     | true=>
      obtain⟨d',f,he⟩:=I3.1 G;have H:=R1 he;subst H;have:ds.any (λd=>(F t).uses d)=true:=I3.2 ⟨_,f,hu⟩;rw[this]at X;cases X
   rw[<-e];refine zD W sch _ _ y (by simp[e]) (λj n=>by rw[A j n];simp[e,n]) ⟨λj o d J Y _ G t=>?_,λj o T s J Y _ _ g2 g3 t=>B s (W.mvs j o T s J Y g2 g3) t⟩ (λj oj n hl=>by
     have O:=(Z2.1 n).1;simp[e,O]at hl) c
   obtain⟨d',f,R⟩:=GH J;rw[G]at f;simp only[U0]at f;subst f;exact B d R t
end
def jp:List (Option Nat)->Kd
 | [ag]=>kv ag
 | a=>.tup a
def ny:ResultVar->Nat
 | .tmp t=>t
 | .cell t _=>t
def DV(tmps:Array Value):ResultVar->Sem Value
 | .tmp t=>pure (tmps.getD t undef)
 | .cell a t=>do loadVar t (<-asAddr (tmps.getD a undef))
def resOne(TE:Nat->Option TI)(F:Nat->AV)(r:ResultVar)(K:Option Nat->List C->Prop):Prop:=
 match r with
 | .tmp t=>(match F t with
   | .hold .one cs=>K none cs
   | .hold .agg cs=>K (some cs.length) cs
   | _=>False)
 | .cell t T=>match TE T with
  | some i=>bif i.agg || Nat.beq i.size 1 then(match F t with
    | .hold .box cs=>bif Nat.beq cs.length i.size then K (oU i) cs else False
    | _=>False) else False
  | none=>False
def resA(TE:Nat->Option TI)(F:Nat->AV):List ResultVar->List Nat->(List (Option Nat)->List C->Prop)->Prop
 | [],_,K=>K [] []
 | r::rs,seen,K=>bif seen.any (Nat.beq (ny r)) then False else resOne TE F r λb c=>resA TE F rs (ny r::seen) λd a=>K (b::d) (c++a)
def Qa:RA->AV
 | .val a cs=>.hold (kv a) cs
 | .ptr cs=>.iref cs 0
 | .fn Ok=>.fv Ok
def tV:Nat->List RA->List (Nat × AV)
 | _,[]=>[]
 | i,A::As=>(i,Qa A)::tV (i+1) As
inductive Jv:C->C->Prop
 |rfl_ (c:C):Jv c c
 |z_:Jv .z (.s .own [])
 |own_ (rows rows':List (List C)) (hl:rows.length=rows'.length) (hk:∀(i:Nat)(r r':List C),rows[i]? = some r->rows'[i]? = some r'->r.length=r'.length)
   (hr:∀(i j:Nat)(r r':List C)(c c':C),rows[i]? = some r->rows'[i]? = some r'->r[j]? = some c->r'[j]? = some c'->Jv c c'):Jv (.s .own rows) (.s .own rows')
def Lz(cs a:List C):Prop:=cs.length=a.length/\∀(j:Nat)(c b:C),cs[j]? = some c->a[j]? = some b->Jv c b
theorem Lz.nil:Lz [] []:=⟨rfl,λj c a h=>by simp at h⟩
theorem Lz.cons{c e:C}{cs a:List C}(h:Jv c e)(f:Lz cs a):Lz (c::cs) (e::a):=by
 refine⟨by simp[f.1],λj y g b d=>?_⟩;cases j with
 | zero=>simp at b d;subst b d;exact h
 | succ j=>exact f.2 j y g (by simpa using b) (by simpa using d)
theorem Jv.rep{n:Nat}{r k:List C}(h:Lz r k):Jv (.s .own (List.replicate n r)) (.s .own (List.replicate n k)):=by
 refine .own_ _ _ (by simp) (λi a b d e=>?_) (λi j a b c p d e l o=>?_)
 ·have f:=List.mem_replicate.1 (Q1 d)
  have g:=List.mem_replicate.1 (Q1 e);rw[f.2,g.2];exact h.1
 ·have f:=List.mem_replicate.1 (Q1 d)
  have g:=List.mem_replicate.1 (Q1 e);rw[f.2]at l;rw[g.2]at o;exact h.2 j c p l o
theorem M3{w:World}{S Y:ac}{c:C}{v:Value}(h:dX w S Y c v):∀y,Jv c y->dX w S Y y v:=by
 induction h with
 | z F a=>
  intro y l;cases l with
  | rfl_=>exact .z _ _
  | z_=>exact .nil _ _ _ trivial
 | nil F o a T=>
  intro y l;cases l with
  | rfl_=>exact .nil _ _ _ T
  | own_ d e L=>obtain rfl:e=[]:=V5 (by simpa using L.symm);exact .nil _ _ _ trivial
 | own F o g k n B d u f T Q R q E K hu hf l M ih=>
  intro y U;cases U with
  | rfl_=>exact .own _ o g k n B d u f T Q R q E K hu hf l M
  | own_ d e L N V=>
   have G:∀(i:Nat)(D:List C),e[i]? = some D->∃r,d[i]? = some r:=λi D H=>⟨_,U1 (by have:=(V1.1 H).1;omega)⟩
   refine .own _ .own g k n B e u f trivial (L.symm.trans Q) (λD W=>?_) q E K hu hf l (λi j D y H hj=>?_)
   ·obtain⟨i,H⟩:=List.mem_iff_getElem?.1 W
    obtain⟨r,t⟩:=G i D H;rw[<-N i r D t H];exact R r (Q1 t)
   ·obtain⟨r,t⟩:=G i D H
    have hlen:=N i r D t H;have hjl:=(V1.1 hj).1;have O:r[j]? = some (r[j]'(ω)):=U1 ω;exact ih i j r _ t O _ (V i j r D _ y t H O hj)
 | v F x X=>intro y l;cases l;exact .v _ _ X
 | x F u X=>intro y l;cases l;exact .x _ _ X
 | imm F g Z k n B d u Q R q hS M ih=>intro y l;cases l;exact .imm _ g Z k n B d u Q R q hS M
 | m F b p es A K hb he hv J=>intro y l;cases l;exact .m _ b p es A K hb he hv J
 | it F r b since c0 p seen A cur left K V hb J M hv L P=>intro y l;cases l;exact .it _ r b since c0 p seen A cur left K V hb J M hv L P
def WK(cs a:List C):Prop:=Jx cs a\/Lz cs a
inductive jl(k k':Kd)(cs cs':List C):Prop
 |mk_ (h:k=k'/\WK cs cs')
theorem jZ:∀(cs:List C),Jx cs cs
 | []=>trivial
 | c::cs=>by
  refine⟨?_,jZ cs⟩;cases c with
  | s o a=>cases o<;>rfl
  | x=>trivial
  | _=>rfl
theorem jl.mk{k b:Kd}{cs a:List C}(h1:k=b)(c:cs=a):jl k b cs a:=by refine .mk_ ?_;exact⟨h1,.inl (c ▸ jZ cs)⟩
theorem jl.wk{k b:Kd}{cs a:List C}(h1:k=b)(c:Jx cs a):jl k b cs a:=.mk_ ⟨h1,.inl c⟩
theorem jl.dk{k b:Kd}{cs a:List C}(h1:k=b)(c:Lz cs a):jl k b cs a:=.mk_ ⟨h1,.inr c⟩
theorem jl.out{k b:Kd}{cs a:List C}(h:jl k b cs a):k=b/\WK cs a:=by obtain⟨h⟩:=h;exact h
theorem WK.len{cs a:List C}(h:WK cs a):cs.length=a.length:=h.elim (λh=>(qP h).1) (λh=>h.1)
theorem WK.row{w:World}{S Y:ac}{cs c:List C}{u:Nat->Value}(a:WK cs c)(h:cH w S Y cs u):cH w S Y c u:=by
 rcases a with a|a
 ·exact zM a h
 ·obtain⟨f,k,l,n⟩:=h
  refine⟨f,λj i b=>?_,λj b=>l j (by rw[a.1];exact b),λj o b g=>n j o (by rw[a.1];exact b) (by rw[a.1];exact g)⟩;have d:=(V1.1 b).1;have e:cs[j]? = some (cs[j]'(by rw[a.1];exact d)):=U1 (by rw[a.1];exact d);exact M3 (k j _ e) i (a.2 j _ i e b)
def Na(TE:Nat->Option TI)(c:List ResultVar)(k:Kd)(rcs:List C):Exit->(Nat->AV)->Prop:=λe F=>
 match e with
 | .normal=>resA TE F c [] λa b=>jl (jp a) k b rcs
 | .ret=>resA TE F c [] λa b=>jl (jp a) k b rcs
 | _=>False
def Mr(F:Nat->AV)(t:Nat)(rcs:List C):Prop:=
 match F t with
 | .hold .box cs=>jl .box .box cs rcs
 | .ref a 0 []=>(match F a with
   | .hold .box cs=>jl .box .box cs rcs
   | _=>False)
 | _=>False
def Px(t:Nat)(rcs:List C):Exit->(Nat->AV)->Prop:=λe F=>
 match e with
 | .normal=>Mr F t rcs
 | .ret=>Mr F t rcs
 | _=>False
section
variable{P:Program}{w0 w w1:World}{M S0 S:ac}{N:eU}{φ:Nat->ac}{F:Nat->AV}{a:Act}{TE:Nat->Option TI}
theorem bh.resOne(h:bh w0 M S0 N S φ F a w)(u:∀t i,TE t=some i->cb P t i){r:ResultVar}{K:Option Nat->List C->Prop}(b:resOne TE F r K) :
  ∃ag cs v,K ag cs/\bD w S (φ (ny r)) ag cs v/\(DV a.tmps r).run P w=.ok v w:=by
 cases r with
 | tmp t=>
  have e:=h.slot t;simp only[Ab.resOne]at b;cases f:F t with
  | hold k cs=>
   rw[f]at b e;obtain⟨G,Y,H,l,J,E,n⟩:=e;cases k with
   | one=>exact⟨none,cs,tvs a t,b,⟨E,_,rfl,n.mono (λ_ _ h=>h) l⟩,rfl⟩
   | agg=>
    obtain⟨arr,p,y⟩:=E;refine⟨some cs.length,cs,tvs a t,b,⟨rfl,bW w .agg (tvs a t),?_,n.mono (λ_ _ h=>h) l⟩,rfl⟩;rw[p];have:=oC arr;rw[y]at this;exact this
   | _=>exact b.elim
  | _=>rw[f]at b;exact b.elim
 | cell t T=>
  have e:=h.slot t;simp only[Ab.resOne]at b;split at b
  case h_2=>exact b.elim
  rename_i i L;have O:=u _ _ L;cases q:(i.agg || Nat.beq i.size 1) with
  | false=>rw[q]at b;exact b.elim
  | true=>
   rw[q]at b;simp only[cond_true]at b;cases f:F t with
   | hold k cs=>
    rw[f]at b e;cases k with
    | box=>
     simp only at b;cases A:Nat.beq cs.length i.size with
     | false=>rw[A]at b;exact b.elim
     | true=>
      rw[A]at b;have B:=R1 A;obtain⟨G,Y,H,l,J,⟨g,o,p,Q⟩,n⟩:=e;have c:∀d,d<i.size->cel w g (o+d)=some (bW w .box (tvs a t) d):=λd U=>by
       obtain⟨-,⟨z,R⟩,-⟩:=Q d ω;rw[p];simp only[bW,R,Option.getD_some]
      have j:=v7 (w:=w) O q c;refine⟨_,cs,_,b,⟨by rw[nZ q];exact B,_,rfl,n.mono (λ_ _ h=>h) l⟩,?_⟩;have D:a.tmps.getD t undef=.pointer (some ⟨g,o,none⟩):=p;simp only[DV,D,asAddr];exact j
    | _=>exact b.elim
   | _=>rw[f]at b;exact b.elim
theorem EV{ag:Option Nat}{cs:List C}{v:Value}{Y:ac}(h:bD w S Y ag cs v):∃u,v.cells.toList=(List.range cs.length).map u/\cH w S Y cs u/\v=mkv ag u:=by
 obtain⟨a,u,rfl,b⟩:=h;refine⟨u,?_,b,rfl⟩;rw[ox (λe=>by subst e;exact b.one (by simp at a;omega)),a]
theorem EO{p q:ac}{cs l:List C}{u D:Nat->Value}(h:cH w S p cs u)(h':cH w S q l D)(E:∀b o,p b o->¬q b o) :
  cH w S (λb o=>p b o\/q b o) (cs++l) (λj=>if j<cs.length then u j else D (j - cs.length)):=by
 obtain⟨f,F,r,G⟩:=h;obtain⟨H,t,k,y⟩:=h';refine⟨λj=>if j<cs.length then f j else H (j - cs.length),λj c i=>?_,λj i b o g=>?_,λj n i A B b o g a=>?_⟩
 ·by_cases e:j<cs.length
  ·simp only[C8 e];rw[W3 e]at i;exact F j c i
  ·simp only[C7 e];rw[X3 ω]at i;exact t _ c i
 ·rw[W2]at i
  by_cases e:j<cs.length
  ·rw[C8 e]at g;exact .inl (r j e b o g)
  ·rw[C7 e]at g;exact .inr (k _ ω b o g)
 ·rw[W2]at i A
  by_cases e:j<cs.length
  ·rw[C8 e]at g
   by_cases d:n<cs.length
   ·rw[C8 d]at a;exact G j n e d B b o g a
   ·rw[C7 d]at a;exact E b o (r j e b o g) (k _ ω b o a)
  ·rw[C7 e]at g
   by_cases d:n<cs.length
   ·rw[C8 d]at a;exact E b o (r n d b o a) (k _ ω b o g)
   ·rw[C7 d]at a;exact y _ _ ω ω ω b o g a
theorem bh.resA(h:bh w0 M S0 N S φ F a w)(l:∀t i,TE t=some i->cb P t i):∀{E:List ResultVar}{seen:List Nat}{K:List (Option Nat)->List C->Prop},resA TE F E seen K->
  ∃sh cs vs u,K sh cs/\(E.mapM (DV a.tmps)).run P w=.ok vs w/\uO sh vs/\sh.length=E.length/\oX sh=cs.length/\
   (vs.flatMap λv=>v.cells.toList)=(List.range cs.length).map u/\(∀ag,sh=[ag]->∃v,vs=[v]/\bD w S (λb o=>∃t,t∉seen/\φ t b o) ag cs v)/\cH w S (λb o=>∃t,t∉seen/\φ t b o) cs u
 | [],seen,K,f=>⟨[],[],[],λ_=>undef,f,rfl,trivial,rfl,rfl,rfl,λ_ h=>by simp at h,cH.nil _ _ _ _⟩
 | r::E,seen,K,f=>by
  simp only[Ab.resA]at f;cases c:seen.any (Nat.beq (ny r)) with
  | true=>rw[c]at f;exact f.elim
  | false=>
   rw[c]at f;simp only[cond_false]at f;have p:ny r∉seen:=λH=>by
    have:seen.any (Nat.beq (ny r))=true:=I3.2 ⟨_,H,Nat.beq_refl _⟩;rw[this]at c;cases c
   obtain⟨ag,cs,v,f,G,q⟩:=h.resOne l f;obtain⟨sh,d,vs,X,Y,k,J,L,U,hcells,-,y⟩:=bh.resA h l f;obtain⟨u,O,V,A⟩:=EV G;have Z:∀b o,φ (ny r) b o->¬∃t,t∉ny r::seen/\φ t b o:=λb o g ⟨t,Q,R⟩=>h.dis _ _ (λe=>Q (by rw[<-e];simp)) b o g R
   refine⟨ag::sh,cs++d,v::vs,λj=>if j<cs.length then u j else X (j - cs.length),Y,?_,?_,by simp[L],?_,?_,?_,?_⟩
   ·rw[List.mapM_cons]
    simp only[Sem.run_bind,q,Result.andThen_ok,k,Sem.run_pure]
   ·obtain⟨hl,-⟩:=G
    cases ag with
    | none=>
     refine⟨?_,J⟩;rw[A];have W:(u 0).oneCell'=true:=V.one (by simp at hl;omega);show(u 0).cells = #[u 0];cases hu:u 0<;>first|(rw[hu]at W;cases W;done)|rfl
    | some n=>exact⟨⟨_,by rw[A];rfl,by simp⟩,J⟩
   ·rw[pH,W2,U,G.1]
   ·simp only[I5,O,hcells,W2]
    apply List.ext_getElem?;intro j;by_cases T:j<cs.length
    ·rw[W3 (by simpa using T)];simp[T,Nat.lt_add_right]
    ·rw[X3 (by simp;omega)]
     by_cases B:j - cs.length<d.length
     ·simp[T,B,show j<cs.length+d.length by omega]
     ·simp[B,show ¬j<cs.length+d.length by omega]
   ·intro ag' D
    simp only[List.cons.injEq]at D;obtain⟨rfl,rfl⟩:=D;cases vs with
    | cons _ _=>exact J.elim
    | nil=>
     have:d=[]:=V5 (by simpa[oX] using U.symm);subst this;exact⟨v,rfl,by rw[List.append_nil];exact G.mono (λ_ _ h=>h) (λb o g=>⟨_,p,g⟩)⟩
   ·exact(EO V y Z).mono (λ_ _ h=>h) (λb o g=>g.elim (λg=>⟨_,p,g⟩) (λ⟨t,Q,g⟩=>⟨t,λH=>Q (Q4 _ H),g⟩))
theorem rE:∀{A:List RA}{vs:List Value}(i:Nat),xl w S A vs->∀t,(lay (tV i A) t=.dead)\/(∃a v,i<=t/\vs[t - i]? = some v/\lay (tV i A) t=Qa a/\ne w S a v)
 | [],_,i,_,t=>.inl rfl
 | a::A,[],i,h,t=>h.elim
 | a::A,v::vs,i,h,t=>by
  simp only[tV,lay];cases b:Nat.beq t i with
  | true=>
   have:=R1 b;subst this;exact .inr ⟨a,v,R2 _,by simp,rfl,h.1⟩
  | false=>
   have d:t≠i:=λe=>by subst e;rw[Nat.beq_refl]at b;cases b
   rcases rE (i+1) h.2 t with c|⟨f,g,c,j,k⟩
   ·exact .inl c
   ·refine .inr ⟨f,g,ω,?_,k⟩
    rw[show t - i=(t - (i+1))+1 by omega];simpa using j
theorem ne.slot{A:RA}{v:Value}(h:ne w S A v){tv:Nat->Value} : cu w S F tv NO (Qa A) v:=by
 cases A with
 | val f a=>exact bD.slot h
 | ptr a=>obtain⟨g,b,u,c,d,e⟩:=h;exact⟨g,b,u,by rw[c,Nat.add_zero],d,e⟩
 | fn Ok=>exact h
theorem Af:∀{A:List RA}{vs:List Value},xl w S A vs->A.length=vs.length
 | [],[],_=>rfl
 | _::_,_::_,h=>by simp[Af h.2]
 | [],_::_,h=>h.elim
 | _::_,[],h=>h.elim
theorem Jk{D : Nat -> Array Oper -> ((Nat -> AV) -> Prop) -> (Nat -> AV) -> Prop}{f : Nat}{d : Func}{c : Code}{sh : Bool}{A : List RA}{k : Kd}{rcs : List C}(M : ∀t i, TE t = some i -> cb P t i)(hf : P.funcs[f]? = some d)(hn : (d.name == "runtime.NumGoroutine") = false)(g:d.body=some c){ck:Nat->Array Oper->Bool}(hD:uT P N ck D)(hc:fA ck c=true)(hN:A.length+(d.ntmps - A.length)=N.n)(hkp:N.kp=[])(hsh:sh=true\/gr rcs)(W:aw P TE N D c (Na TE d.results.toList k rcs) (lay (tV 0 A))):ao P f sh A k rcs:=by
 refine⟨⟨d,hf,hn,by rw[g];rfl⟩,λw S y hS hA=>?_⟩;have hlen:=Af hA;refine calls_of_wp hf g ?_;have hst:St w NO S N (lay (tV 0 A)) {tmps:=y.toArray++Array.replicate (d.ntmps - y.toArray.size) undef,defers:=[]} w:=by
  refine⟨S,λ_=>NO,λt=>?_,λ_ _ _ _ _ h=>h.elim,λ_ _ _ h=>h.elim,λ_ _ _ h=>h.elim,λ_ _ h=>h,λb o h=>⟨hS b o h,.inl h⟩,CW _ _,by simp;omega,rfl,λp W=>by rw[hkp]at W;cases W⟩;rcases rE 0 hA t with r|⟨A0,v,-,B,G,h4⟩
  ·rw[r];trivial
  ·rw[G]
   have hv:tvs {tmps:=y.toArray++Array.replicate (d.ntmps - y.toArray.size) undef,defers:=[]} t=v:=by
    have hlt:=(V1.1 B).1;simp only[tvs,C5];rw[Array.getElem?_append_left (by simpa using hlt)];simp only[List.getElem?_toArray];rw[show y[t]? = some v by simpa using B];rfl
   rw[hv];exact h4.slot
 refine ic M hD c hc _ _ _ _ w W hst λe F' K l he hs'=>?_
 obtain⟨S',φ',h⟩:=hs';have fin:resA TE F' d.results.toList [] (λsh O=>jl (jp sh) k O rcs)->K.defers=[]/\∃v,(results d K.tmps).run P l=.ok v l/\(∃v',Ending.returned v=.returned v'/\bB NO w l/\∃X S1:ac,(∀b o,X b o->b<l.heap.size/\w.heap.size<=b)/\
     (∀b o,S1 b o->(sh=true/\S b o)\/(b<l.heap.size/\w.heap.size<=b))/\(∀b o,X b o->¬S1 b o)/\fC l NO k rcs.length v'/\cH l S1 X rcs (bW l k v')):=by
  intro hr;obtain⟨shs,O,a,u,Q,R,E,hln,T,hcells,q,U⟩:=h.resA M hr;obtain⟨rfl,V⟩:=Q.out;refine⟨h.defers,?_⟩;have J:(results d K.tmps).run P l=.ok (if h:a.toArray.size=1 then a.toArray[0] else .tuple a.toArray) l:=by
   have e:results d K.tmps=(do let y <-d.results.mapM (DV K.tmps);pure (if h:y.size=1 then y[0] else .tuple y)):=by
    unfold results
    congr 1
   rw[e,<-Array.toArray_toList (xs:=d.results),List.mapM_toArray];simp only[Sem.run_bind,Sem.run_map,R,Result.andThen_ok,Sem.run_pure]
  refine⟨_,J,_,rfl,h.old,λb o=>∃t,φ' t b o,λb o=>(sh=true/\S' b o)\/(S' b o/\w.heap.size<=b),λb o ⟨t,g⟩=>⟨(h.ex t b o g).1,(h.ex t b o g).2.resolve_right (λh=>h)⟩,λb o g=>?_,λb o ⟨t,g⟩ hb'=>h.disS t b o g (hb'.elim (·.2) (·.1)),?_⟩
  ·rcases g with⟨r,B⟩|⟨r,B⟩
   ·rcases(h.sup b o B).2 with G|G|G
    ·exact .inl ⟨r,G⟩
    ·exact .inr ⟨(h.sup b o B).1,G⟩
    ·exact G.elim
   ·exact .inr ⟨(h.sup b o r).1,B⟩
  ·have L:fC l NO (jp shs) O.length (if h:a.toArray.size=1 then a.toArray[0] else .tuple a.toArray)/\cH l S' (λb o=>∃t,φ' t b o) O (bW l (jp shs) (if h:a.toArray.size=1 then a.toArray[0] else .tuple a.toArray)):=by
    have H:∀b o,(∃t,t∉([]:List Nat)/\φ' t b o)->∃t,φ' t b o:=λb o ⟨t,_,g⟩=>⟨t,g⟩
    match shs,E,q,T with
    | [],E,_,T=>
     cases a with
     | cons _ _=>exact E.elim
     | nil=>
      have:O=[]:=V5 (by simpa[oX] using T.symm);subst this;exact⟨⟨_,rfl,trivial,rfl⟩,cH.nil _ _ _ _⟩
    | [Z],_,q,_=>
     obtain⟨v,rfl,hv⟩:=q Z rfl;have:=(hv.mono (λ_ _ h=>h) H).slot (F:=F') (tv:=tvs K);obtain⟨X1,Y,r,B,G,h4,h5⟩:=this;refine⟨?_,h5.mono (λ_ _ h=>h) B⟩;cases Z<;>exact h4
    | Z::ag2::sh,E,_,T=>
     have hsz:¬a.toArray.size=1:=by
      match a,E with
      | [],E=>simp
      | [v],E=>cases Z<;>cases ag2<;>exact E.2.elim
      | _::_::_,_=>simp
     rw[dif_neg hsz];refine⟨⟨_,rfl,E,T⟩,(U.mono (λ_ _ h=>h) H).congr λj hj=>?_⟩;simp only[bW,jp,lJ,hcells];simp[List.getD,hj]
   replace L:=CH L.1 (V.row L.2);refine⟨by rw[<-V.len];exact L.1,?_⟩;rcases hsh with r|r
   ·exact L.2.mono (λb o g=>.inl ⟨r,g⟩) (λ_ _ h=>h)
   ·exact(L.2.fresh r).mono (λ_ _ h=>h.elim) (λ_ _ h=>h)
 cases e with
 | normal=>exact fin he
 | ret=>exact fin he
 | _=>exact he.elim
theorem HM{D : Nat -> Array Oper -> ((Nat -> AV) -> Prop) -> (Nat -> AV) -> Prop}{f t : Nat}{j : Func}{c : Code}{A : List RA}{rcs : List C}(R : ∀t i, TE t = some i -> cb P t i)(hf : P.funcs[f]? = some j)(hn : (j.name == "runtime.NumGoroutine") = false)(a:j.body=some c){ck:Nat->Array Oper->Bool}(hD:uT P N ck D)(hc:fA ck c=true)(hN:A.length+(j.ntmps - A.length)=N.n)(T:N.kp=[])(hr:j.results = #[.tmp t])(K:aw P TE N D c (Px t rcs) (lay (tV 0 A))):pP P f true A .box rcs:=by
 refine⟨⟨j,hf,hn,by rw[a];rfl⟩,λw S E hS hA=>?_⟩;have hlen:=Af hA;refine calls_of_wp hf a ?_;have U:St w NO S N (lay (tV 0 A)) {tmps:=E.toArray++Array.replicate (j.ntmps - E.toArray.size) undef,defers:=[]} w:=by
  refine⟨S,λ_=>NO,λt=>?_,λ_ _ _ _ _ h=>h.elim,λ_ _ _ h=>h.elim,λ_ _ _ h=>h.elim,λ_ _ h=>h,λb o h=>⟨hS b o h,.inl h⟩,CW _ _,by simp;omega,rfl,λp K=>by rw[T]at K;cases K⟩;rcases rE 0 hA t with L|⟨A0,v,-,F,M,V⟩
  ·rw[L];trivial
  ·rw[M]
   have O:tvs {tmps:=E.toArray++Array.replicate (j.ntmps - E.toArray.size) undef,defers:=[]} t=v:=by
    have W:=(V1.1 F).1;simp only[tvs,C5];rw[Array.getElem?_append_left (by simpa using W)];simp only[List.getElem?_toArray];rw[show E[t]? = some v by simpa using F];rfl
   rw[O];exact V.slot
 refine ic R hD c hc _ _ _ _ w K U λe F' y q Z hs'=>?_
 obtain⟨S',φ',h⟩:=hs';have fin:Mr F' t rcs->y.defers=[]/\∃v,(results j y.tmps).run P q=.ok v q/\(∃v',Ending.returned v=.returned v'/\bB NO w q/\∃X S1:ac,(∀b o,X b o->b<q.heap.size/\w.heap.size<=b)/\
     (∀b o,S1 b o->(true=true/\S b o)\/(b<q.heap.size/\w.heap.size<=b))/\(∀b o,X b o->¬S1 b o)/\∃B Y:ac,(∀b o,B b o->X b o)/\(∀b o,Y b o->X b o)/\(∀b o,B b o->¬Y b o)/\fC q B .box rcs.length v'/\cH q S1 Y rcs (bW q .box v')):=by
  intro k;have core:∃(d:Nat)(r:List C),tvs y t=tvs y d/\F' d=.hold .box r/\jl .box .box r rcs:=by
   unfold Mr at k;split at k
   ·rename_i r u
    exact⟨t,r,rfl,u,k⟩
   ·rename_i d hF2
    split at k
    case h_2=>exact k.elim
    rename_i r u;refine⟨d,r,?_,u,k⟩;have G:=h.slot t;rw[hF2]at G;obtain⟨k0,cs0,r0,j0,g0,o0,e1,-,Q,e4⟩:=G;have H:=h.slot d;rw[u]at H;rw[u]at e1;simp only[AV.hold.injEq]at e1;obtain⟨rfl,rfl⟩:=e1;obtain⟨B,Y,L,F,M,⟨g,o,O,-⟩,h5⟩:=H;rw[O]at Q;simp only[plc,n7,O4,U0,Prod.mk.injEq]at Q;rw[e4,O,<-Q.1,<-Q.2]
    rfl
   ·exact k.elim
  obtain⟨d,r,htt,u,k⟩:=core;have J:=k.out.2;have H:=h.slot d;rw[u]at H;obtain⟨B,Y,L,F,M,V,h5⟩:=H;refine⟨h.defers,tvs y d,?_,tvs y d,rfl,h.old,φ' d,λb o=>S' b o/\(S b o\/w.heap.size<=b),λb o a=>⟨(h.ex d b o a).1,(h.ex d b o a).2.resolve_right (λh=>h)⟩,λb o a=>?_,λb o a hb'=>h.disS d b o a hb'.1,B,Y,L,F,M,?_,?_⟩
  ·rw[<-htt];simp[results,hr,tvs]
  ·rcases a.2 with l|l
   ·exact .inl ⟨rfl,l⟩
   ·exact .inr ⟨(h.sup b o a.1).1,l⟩
  ·rw[<-J.len];exact V
  ·exact(J.row h5).mono (λb o a=>⟨a,by
     rcases(h.sup b o a).2 with l|l|l
     · exact .inl l
     · exact .inr l
     · exact l.elim⟩) (λ_ _ h=>h)
 cases e with
 | normal=>exact fin Z
 | ret=>exact fin Z
 | _=>exact Z.elim
end
def DF(P:Program)(TE:Nat->Option TI)(N:eU)(tb:List (Nat × Nat × List Nat))(id:Nat)(ops:Array Oper)(K:(Nat->AV)->Prop)(F:Nat->AV):Prop:=
 match uP tb (id+1048576) with
 | some (t,offs)=>rg t offs (DD P TE N tb id ops K) F
 | none=>DD P TE N tb id ops K F
theorem pI{P:Program}{TE:Nat->Option TI}(a:∀t i,TE t=some i->cb P t i)(e:P.follows .mixedOrders=true)(N:eU)(tb:List (Nat × Nat × List Nat)):uT P N (ma tb) (DF P TE N tb):=
 λ_ _ b _ _ _ _ _ _ _ _ c f g=>by
  unfold DF at c;split at c
  ·obtain⟨j,h,d⟩:=wV c f
   exact uK a e b h d g
  ·exact uK a e b c f g
def Gc:List (Nat × TI)->Nat->Option TI
 | [],_=>none
 | p::l,t=>bif Nat.beq t p.1 then some p.2 else Gc l t
def Pc(P:Program):List (Nat × TI)->Prop
 | []=>True
 | p::l=>cb P p.1 p.2/\Pc P l
theorem BW{P:Program} : ∀{l:List (Nat × TI)},Pc P l->∀t i,Gc l t=some i->cb P t i
 | [],_,t,i,h=>by cases h
 | p::l,b,t,i,h=>by
  simp only[Gc]at h;cases a:Nat.beq t p.1 with
  | true=>
   rw[a]at h;simp only[cond_true,U0]at h;have:=R1 a;subst this h;exact b.1
  | false=>rw[a]at h;exact BW b.2 t i h
def ti3:TI:=⟨1,8,[.v (.int .i64 0)],.sc (.int .i64)⟩
theorem tok3:cb Tryz.prog 3 ti3:=⟨by kernel_rfl,by simp[ti3,aJ,Value.oneCell'],⟨Tryz.underlying3,trivial⟩⟩
def ti4:TI:=⟨1,1,[.v (.bool false)],.sc .bool⟩
theorem tok4:cb Tryz.prog 4 ti4:=⟨by kernel_rfl,by simp[ti4,aJ,Value.oneCell'],⟨Tryz.underlying4,trivial⟩⟩
def ti2:TI:=⟨1,8,[.v (.int .i64 0)],.sc (.int .i64)⟩
theorem tok2:cb Tryz.prog 2 ti2:=⟨by kernel_rfl,by simp[ti2,aJ,Value.oneCell'],⟨Tryz.underlying2,trivial⟩⟩
def ti5:TI:=⟨1,1,[.v (.int .u8 0)],.sc (.int .u8)⟩
theorem tok5:cb Tryz.prog 5 ti5:=⟨by kernel_rfl,by simp[ti5,aJ,Value.oneCell'],⟨Tryz.underlying5,trivial⟩⟩
def ti6:TI:=⟨1,1,[.v (.int .u8 0)],.sc (.int .u8)⟩
theorem tok6:cb Tryz.prog 6 ti6:=⟨by kernel_rfl,by simp[ti6,aJ,Value.oneCell'],⟨Tryz.underlying6,trivial⟩⟩
def ti7:TI:=⟨4,24,[.v (.int .i64 0),.v (.int .i64 0),.v (.bool false),.v (.int .u8 0)],.st [(0,2),(1,3),(2,4),(3,6)]⟩
theorem tok7:cb Tryz.prog 7 ti7:=⟨by kernel_rfl,by simp[ti7,aJ,Value.oneCell'],⟨_,Tryz.underlying7,rfl⟩⟩
def ti8:TI:=⟨4,24,[.v (.int .i64 0),.v (.int .i64 0),.v (.bool false),.v (.int .u8 0)],.st [(0,2),(1,3),(2,4),(3,6)]⟩
theorem tok8:cb Tryz.prog 8 ti8:=⟨by kernel_rfl,by simp[ti8,aJ,Value.oneCell'],⟨_,Tryz.underlying8,rfl⟩⟩
def ti9:TI:=⟨1,16,[.v (.string ⟨#[]⟩)],.sc .string⟩
theorem tok9:cb Tryz.prog 9 ti9:=⟨by kernel_rfl,by simp[ti9,aJ,Value.oneCell'],⟨Tryz.underlying9,trivial⟩⟩
def ti10:TI:=⟨1,16,[.v (.string ⟨#[]⟩)],.sc .string⟩
theorem tok10:cb Tryz.prog 10 ti10:=⟨by kernel_rfl,by simp[ti10,aJ,Value.oneCell'],⟨Tryz.underlying10,trivial⟩⟩
def ti11:TI:=⟨1,16,[.v (.string ⟨#[]⟩)],.sc .string⟩
theorem tok11:cb Tryz.prog 11 ti11:=⟨by kernel_rfl,by simp[ti11,aJ,Value.oneCell'],⟨Tryz.underlying11,trivial⟩⟩
def ti12:TI:=⟨1,8,[.v (.int .u64 0)],.sc (.int .u64)⟩
theorem tok12:cb Tryz.prog 12 ti12:=⟨by kernel_rfl,by simp[ti12,aJ,Value.oneCell'],⟨Tryz.underlying12,trivial⟩⟩
def ti13:TI:=⟨2,24,[.v (.string ⟨#[]⟩),.v (.int .u64 0)],.st [(0,9),(1,12)]⟩
theorem tok13:cb Tryz.prog 13 ti13:=⟨by kernel_rfl,by simp[ti13,aJ,Value.oneCell'],⟨_,Tryz.underlying13,rfl⟩⟩
def ti14:TI:=⟨2,24,[.v (.string ⟨#[]⟩),.v (.int .u64 0)],.st [(0,9),(1,12)]⟩
theorem tok14:cb Tryz.prog 14 ti14:=⟨by kernel_rfl,by simp[ti14,aJ,Value.oneCell'],⟨_,Tryz.underlying14,rfl⟩⟩
def ti21:TI:=⟨1,4,[.v (.int .i32 0)],.sc (.int .i32)⟩
theorem tok21:cb Tryz.prog 21 ti21:=⟨by kernel_rfl,by simp[ti21,aJ,Value.oneCell'],⟨Tryz.underlying21,trivial⟩⟩
def ti22:TI:=⟨1,24,[.z],.sl 5⟩
theorem tok22:cb Tryz.prog 22 ti22:=⟨by kernel_rfl,by simp[ti22,aJ,Value.oneCell'],Tryz.underlying22⟩
def ti24:TI:=⟨1,24,[.z],.sl 33⟩
theorem tok24:cb Tryz.prog 24 ti24:=⟨by kernel_rfl,by simp[ti24,aJ,Value.oneCell'],Tryz.underlying24⟩
def ti25:TI:=⟨1,24,[.z],.sl 4⟩
theorem tok25:cb Tryz.prog 25 ti25:=⟨by kernel_rfl,by simp[ti25,aJ,Value.oneCell'],Tryz.underlying25⟩
def ti26:TI:=⟨2,48,[.z,.z],.st [(0,24),(1,25)]⟩
theorem tok26:cb Tryz.prog 26 ti26:=⟨by kernel_rfl,by simp[ti26,aJ,Value.oneCell'],⟨_,Tryz.underlying26,rfl⟩⟩
def ti27:TI:=⟨2,48,[.z,.z],.st [(0,24),(1,25)]⟩
theorem tok27:cb Tryz.prog 27 ti27:=⟨by kernel_rfl,by simp[ti27,aJ,Value.oneCell'],⟨_,Tryz.underlying27,rfl⟩⟩
def ti28:TI:=⟨1,24,[.z],.sl 134⟩
theorem tok28:cb Tryz.prog 28 ti28:=⟨by kernel_rfl,by simp[ti28,aJ,Value.oneCell'],Tryz.underlying28⟩
def ti29:TI:=⟨1,24,[.z],.st [(0,28)]⟩
theorem tok29:cb Tryz.prog 29 ti29:=⟨by kernel_rfl,by simp[ti29,aJ,Value.oneCell'],⟨_,Tryz.underlying29,rfl⟩⟩
def ti30:TI:=⟨1,24,[.z],.st [(0,28)]⟩
theorem tok30:cb Tryz.prog 30 ti30:=⟨by kernel_rfl,by simp[ti30,aJ,Value.oneCell'],⟨_,Tryz.underlying30,rfl⟩⟩
def ti31:TI:=⟨3,72,[.z,.z,.z],.st [(0,27),(2,30)]⟩
theorem tok31:cb Tryz.prog 31 ti31:=⟨by kernel_rfl,by simp[ti31,aJ,Value.oneCell'],⟨_,Tryz.underlying31,rfl⟩⟩
def ti32:TI:=⟨3,72,[.z,.z,.z],.st [(0,27),(2,30)]⟩
theorem tok32:cb Tryz.prog 32 ti32:=⟨by kernel_rfl,by simp[ti32,aJ,Value.oneCell'],⟨_,Tryz.underlying32,rfl⟩⟩
def ti33:TI:=⟨1,24,[.z],.sl 3⟩
theorem tok33:cb Tryz.prog 33 ti33:=⟨by kernel_rfl,by simp[ti33,aJ,Value.oneCell'],Tryz.underlying33⟩
def ti34:TI:=⟨5,104,[.z,.z,.z,.v (.int .i64 0),.z],.st [(0,32),(3,3),(4,33)]⟩
theorem tok34:cb Tryz.prog 34 ti34:=⟨by kernel_rfl,by simp[ti34,aJ,Value.oneCell'],⟨_,Tryz.underlying34,rfl⟩⟩
def ti35:TI:=⟨5,104,[.z,.z,.z,.v (.int .i64 0),.z],.st [(0,32),(3,3),(4,33)]⟩
theorem tok35:cb Tryz.prog 35 ti35:=⟨by kernel_rfl,by simp[ti35,aJ,Value.oneCell'],⟨_,Tryz.underlying35,rfl⟩⟩
def ti36:TI:=⟨1,24,[.z],.sl 131⟩
theorem tok36:cb Tryz.prog 36 ti36:=⟨by kernel_rfl,by simp[ti36,aJ,Value.oneCell'],Tryz.underlying36⟩
def ti37:TI:=⟨1,24,[.z],.sl 75⟩
theorem tok37:cb Tryz.prog 37 ti37:=⟨by kernel_rfl,by simp[ti37,aJ,Value.oneCell'],Tryz.underlying37⟩
def ti38:TI:=⟨1,24,[.z],.sl 173⟩
theorem tok38:cb Tryz.prog 38 ti38:=⟨by kernel_rfl,by simp[ti38,aJ,Value.oneCell'],Tryz.underlying38⟩
def ti39:TI:=⟨1,24,[.z],.sl 71⟩
theorem tok39:cb Tryz.prog 39 ti39:=⟨by kernel_rfl,by simp[ti39,aJ,Value.oneCell'],Tryz.underlying39⟩
def ti40:TI:=⟨1,24,[.z],.sl 105⟩
theorem tok40:cb Tryz.prog 40 ti40:=⟨by kernel_rfl,by simp[ti40,aJ,Value.oneCell'],Tryz.underlying40⟩
def ti41:TI:=⟨1,24,[.z],.sl 212⟩
theorem tok41:cb Tryz.prog 41 ti41:=⟨by kernel_rfl,by simp[ti41,aJ,Value.oneCell'],Tryz.underlying41⟩
def ti42:TI:=⟨2,48,[.z,.z],.st [(0,41),(1,24)]⟩
theorem tok42:cb Tryz.prog 42 ti42:=⟨by kernel_rfl,by simp[ti42,aJ,Value.oneCell'],⟨_,Tryz.underlying42,rfl⟩⟩
def ti43:TI:=⟨2,48,[.z,.z],.st [(0,41),(1,24)]⟩
theorem tok43:cb Tryz.prog 43 ti43:=⟨by kernel_rfl,by simp[ti43,aJ,Value.oneCell'],⟨_,Tryz.underlying43,rfl⟩⟩
def ti44:TI:=⟨1,24,[.z],.sl 185⟩
theorem tok44:cb Tryz.prog 44 ti44:=⟨by kernel_rfl,by simp[ti44,aJ,Value.oneCell'],Tryz.underlying44⟩
def ti45:TI:=⟨2,32,[.v (.int .i64 0),.z],.st [(0,3),(1,44)]⟩
theorem tok45:cb Tryz.prog 45 ti45:=⟨by kernel_rfl,by simp[ti45,aJ,Value.oneCell'],⟨_,Tryz.underlying45,rfl⟩⟩
def ti46:TI:=⟨2,32,[.v (.int .i64 0),.z],.st [(0,3),(1,44)]⟩
theorem tok46:cb Tryz.prog 46 ti46:=⟨by kernel_rfl,by simp[ti46,aJ,Value.oneCell'],⟨_,Tryz.underlying46,rfl⟩⟩
def ti47:TI:=⟨3,40,[.v (.int .i64 0),.v (.int .i64 0),.z],.st [(0,3),(1,3),(2,33)]⟩
theorem tok47:cb Tryz.prog 47 ti47:=⟨by kernel_rfl,by simp[ti47,aJ,Value.oneCell'],⟨_,Tryz.underlying47,rfl⟩⟩
def ti48:TI:=⟨3,40,[.v (.int .i64 0),.v (.int .i64 0),.z],.st [(0,3),(1,3),(2,33)]⟩
theorem tok48:cb Tryz.prog 48 ti48:=⟨by kernel_rfl,by simp[ti48,aJ,Value.oneCell'],⟨_,Tryz.underlying48,rfl⟩⟩
def ti49:TI:=⟨5,56,[.v (.int .i64 0),.v (.int .i64 0),.z,.v (.int .i64 0),.v (.int .i64 0)],.st [(0,48),(3,3),(4,3)]⟩
theorem tok49:cb Tryz.prog 49 ti49:=⟨by kernel_rfl,by simp[ti49,aJ,Value.oneCell'],⟨_,Tryz.underlying49,rfl⟩⟩
def ti50:TI:=⟨5,56,[.v (.int .i64 0),.v (.int .i64 0),.z,.v (.int .i64 0),.v (.int .i64 0)],.st [(0,48),(3,3),(4,3)]⟩
theorem tok50:cb Tryz.prog 50 ti50:=⟨by kernel_rfl,by simp[ti50,aJ,Value.oneCell'],⟨_,Tryz.underlying50,rfl⟩⟩
def ti51:TI:=⟨24,400,[.z,.z,.z,.v (.int .i64 0),.z,.z,.z,.z,.z,.z,.z,.z,.v (.int .i64 0),.z,.v (.int .i64 0),.v (.int .i64 0),.v (.int .i64 0),.v (.int .i64 0),.v (.bool false),.v (.int .i64 0),.v (.int .i64 0),.z,.v (.int .i64 0),.v (.int .i64 0)],.st [(0,35),(5,36),(6,37),(7,38),(8,39),(9,40),(10,43),(12,46),(14,3),(15,3),(16,3),(17,3),(18,4),(19,50)]⟩
theorem tok51:cb Tryz.prog 51 ti51:=⟨by kernel_rfl,by simp[ti51,aJ,Value.oneCell'],⟨_,Tryz.underlying51,rfl⟩⟩
def ti52:TI:=⟨24,400,[.z,.z,.z,.v (.int .i64 0),.z,.z,.z,.z,.z,.z,.z,.z,.v (.int .i64 0),.z,.v (.int .i64 0),.v (.int .i64 0),.v (.int .i64 0),.v (.int .i64 0),.v (.bool false),.v (.int .i64 0),.v (.int .i64 0),.z,.v (.int .i64 0),.v (.int .i64 0)],.st [(0,35),(5,36),(6,37),(7,38),(8,39),(9,40),(10,43),(12,46),(14,3),(15,3),(16,3),(17,3),(18,4),(19,50)]⟩
theorem tok52:cb Tryz.prog 52 ti52:=⟨by kernel_rfl,by simp[ti52,aJ,Value.oneCell'],⟨_,Tryz.underlying52,rfl⟩⟩
def ti53:TI:=⟨1,24,[.z],.sl 330⟩
theorem tok53:cb Tryz.prog 53 ti53:=⟨by kernel_rfl,by simp[ti53,aJ,Value.oneCell'],Tryz.underlying53⟩
def ti54:TI:=⟨2,32,[.v (.int .i64 0),.z],.st [(0,3),(1,53)]⟩
theorem tok54:cb Tryz.prog 54 ti54:=⟨by kernel_rfl,by simp[ti54,aJ,Value.oneCell'],⟨_,Tryz.underlying54,rfl⟩⟩
def ti55:TI:=⟨2,32,[.v (.int .i64 0),.z],.st [(0,3),(1,53)]⟩
theorem tok55:cb Tryz.prog 55 ti55:=⟨by kernel_rfl,by simp[ti55,aJ,Value.oneCell'],⟨_,Tryz.underlying55,rfl⟩⟩
def ti56:TI:=⟨26,432,[.z,.z,.z,.v (.int .i64 0),.z,.z,.z,.z,.z,.z,.z,.z,.v (.int .i64 0),.z,.v (.int .i64 0),.v (.int .i64 0),.v (.int .i64 0),.v (.int .i64 0),.v (.bool false),.v (.int .i64 0),.v (.int .i64 0),.z,.v (.int .i64 0),.v (.int .i64 0),.v (.int .i64 0),.z],.st [(0,52),(24,55)]⟩
theorem tok56:cb Tryz.prog 56 ti56:=⟨by kernel_rfl,by simp[ti56,aJ,Value.oneCell'],⟨_,Tryz.underlying56,rfl⟩⟩
def ti57:TI:=⟨26,432,[.z,.z,.z,.v (.int .i64 0),.z,.z,.z,.z,.z,.z,.z,.z,.v (.int .i64 0),.z,.v (.int .i64 0),.v (.int .i64 0),.v (.int .i64 0),.v (.int .i64 0),.v (.bool false),.v (.int .i64 0),.v (.int .i64 0),.z,.v (.int .i64 0),.v (.int .i64 0),.v (.int .i64 0),.z],.st [(0,52),(24,55)]⟩
theorem tok57:cb Tryz.prog 57 ti57:=⟨by kernel_rfl,by simp[ti57,aJ,Value.oneCell'],⟨_,Tryz.underlying57,rfl⟩⟩
def ti65:TI:=⟨8,64,[.v (.int .i64 0),.v (.int .i64 0),.v (.int .i64 0),.v (.int .i64 0),.v (.int .i64 0),.v (.int .i64 0),.v (.int .i64 0),.v (.int .i64 0)],.st [(0,3),(1,3),(2,3),(3,3),(4,3),(5,3),(6,3),(7,3)]⟩
theorem tok65:cb Tryz.prog 65 ti65:=⟨by kernel_rfl,by simp[ti65,aJ,Value.oneCell'],⟨_,Tryz.underlying65,rfl⟩⟩
def ti66:TI:=⟨8,64,[.v (.int .i64 0),.v (.int .i64 0),.v (.int .i64 0),.v (.int .i64 0),.v (.int .i64 0),.v (.int .i64 0),.v (.int .i64 0),.v (.int .i64 0)],.st [(0,3),(1,3),(2,3),(3,3),(4,3),(5,3),(6,3),(7,3)]⟩
theorem tok66:cb Tryz.prog 66 ti66:=⟨by kernel_rfl,by simp[ti66,aJ,Value.oneCell'],⟨_,Tryz.underlying66,rfl⟩⟩
def ti70:TI:=⟨4,32,[.v (.int .i64 0),.v (.int .i64 0),.v (.int .i64 0),.v (.int .i64 0)],.st [(0,3),(1,3),(2,3),(3,3)]⟩
theorem tok70:cb Tryz.prog 70 ti70:=⟨by kernel_rfl,by simp[ti70,aJ,Value.oneCell'],⟨_,Tryz.underlying70,rfl⟩⟩
def ti71:TI:=⟨4,32,[.v (.int .i64 0),.v (.int .i64 0),.v (.int .i64 0),.v (.int .i64 0)],.st [(0,3),(1,3),(2,3),(3,3)]⟩
theorem tok71:cb Tryz.prog 71 ti71:=⟨by kernel_rfl,by simp[ti71,aJ,Value.oneCell'],⟨_,Tryz.underlying71,rfl⟩⟩
def ti74:TI:=⟨3,24,[.v (.int .i64 0),.v (.int .i64 0),.v (.int .i64 0)],.st [(0,3),(1,3),(2,3)]⟩
theorem tok74:cb Tryz.prog 74 ti74:=⟨by kernel_rfl,by simp[ti74,aJ,Value.oneCell'],⟨_,Tryz.underlying74,rfl⟩⟩
def ti75:TI:=⟨3,24,[.v (.int .i64 0),.v (.int .i64 0),.v (.int .i64 0)],.st [(0,3),(1,3),(2,3)]⟩
theorem tok75:cb Tryz.prog 75 ti75:=⟨by kernel_rfl,by simp[ti75,aJ,Value.oneCell'],⟨_,Tryz.underlying75,rfl⟩⟩
def ti104:TI:=⟨1,24,[.z],.st [(0,24)]⟩
theorem tok104:cb Tryz.prog 104 ti104:=⟨by kernel_rfl,by simp[ti104,aJ,Value.oneCell'],⟨_,Tryz.underlying104,rfl⟩⟩
def ti105:TI:=⟨1,24,[.z],.st [(0,24)]⟩
theorem tok105:cb Tryz.prog 105 ti105:=⟨by kernel_rfl,by simp[ti105,aJ,Value.oneCell'],⟨_,Tryz.underlying105,rfl⟩⟩
def ti120:TI:=⟨4,32,[.v (.int .i64 0),.v (.int .i64 0),.v (.int .i64 0),.v (.int .i64 0)],.st [(0,3),(1,3),(2,3),(3,3)]⟩
theorem tok120:cb Tryz.prog 120 ti120:=⟨by kernel_rfl,by simp[ti120,aJ,Value.oneCell'],⟨_,Tryz.underlying120,rfl⟩⟩
def ti121:TI:=⟨4,32,[.v (.int .i64 0),.v (.int .i64 0),.v (.int .i64 0),.v (.int .i64 0)],.st [(0,3),(1,3),(2,3),(3,3)]⟩
theorem tok121:cb Tryz.prog 121 ti121:=⟨by kernel_rfl,by simp[ti121,aJ,Value.oneCell'],⟨_,Tryz.underlying121,rfl⟩⟩
def ti130:TI:=⟨2,16,[.v (.int .i64 0),.v (.int .i64 0)],.st [(0,3),(1,3)]⟩
theorem tok130:cb Tryz.prog 130 ti130:=⟨by kernel_rfl,by simp[ti130,aJ,Value.oneCell'],⟨_,Tryz.underlying130,rfl⟩⟩
def ti131:TI:=⟨2,16,[.v (.int .i64 0),.v (.int .i64 0)],.st [(0,3),(1,3)]⟩
theorem tok131:cb Tryz.prog 131 ti131:=⟨by kernel_rfl,by simp[ti131,aJ,Value.oneCell'],⟨_,Tryz.underlying131,rfl⟩⟩
def ti133:TI:=⟨2,16,[.v (.int .i64 0),.v (.int .i64 0)],.st [(0,3),(1,3)]⟩
theorem tok133:cb Tryz.prog 133 ti133:=⟨by kernel_rfl,by simp[ti133,aJ,Value.oneCell'],⟨_,Tryz.underlying133,rfl⟩⟩
def ti134:TI:=⟨2,16,[.v (.int .i64 0),.v (.int .i64 0)],.st [(0,3),(1,3)]⟩
theorem tok134:cb Tryz.prog 134 ti134:=⟨by kernel_rfl,by simp[ti134,aJ,Value.oneCell'],⟨_,Tryz.underlying134,rfl⟩⟩
def ti144:TI:=⟨1,24,[.z],.sl 150⟩
theorem tok144:cb Tryz.prog 144 ti144:=⟨by kernel_rfl,by simp[ti144,aJ,Value.oneCell'],Tryz.underlying144⟩
def ti149:TI:=⟨2,16,[.v (.int .i64 0),.v (.int .i64 0)],.st [(0,3),(1,3)]⟩
theorem tok149:cb Tryz.prog 149 ti149:=⟨by kernel_rfl,by simp[ti149,aJ,Value.oneCell'],⟨_,Tryz.underlying149,rfl⟩⟩
def ti150:TI:=⟨2,16,[.v (.int .i64 0),.v (.int .i64 0)],.st [(0,3),(1,3)]⟩
theorem tok150:cb Tryz.prog 150 ti150:=⟨by kernel_rfl,by simp[ti150,aJ,Value.oneCell'],⟨_,Tryz.underlying150,rfl⟩⟩
def ti172:TI:=⟨3,24,[.v (.int .i64 0),.v (.int .i64 0),.v (.int .i64 0)],.st [(0,3),(1,3),(2,3)]⟩
theorem tok172:cb Tryz.prog 172 ti172:=⟨by kernel_rfl,by simp[ti172,aJ,Value.oneCell'],⟨_,Tryz.underlying172,rfl⟩⟩
def ti173:TI:=⟨3,24,[.v (.int .i64 0),.v (.int .i64 0),.v (.int .i64 0)],.st [(0,3),(1,3),(2,3)]⟩
theorem tok173:cb Tryz.prog 173 ti173:=⟨by kernel_rfl,by simp[ti173,aJ,Value.oneCell'],⟨_,Tryz.underlying173,rfl⟩⟩
def ti180:TI:=⟨2,16,[.v (.int .i64 0),.v (.int .i64 0)],.st [(0,3),(1,3)]⟩
theorem tok180:cb Tryz.prog 180 ti180:=⟨by kernel_rfl,by simp[ti180,aJ,Value.oneCell'],⟨_,Tryz.underlying180,rfl⟩⟩
def ti181:TI:=⟨2,16,[.v (.int .i64 0),.v (.int .i64 0)],.st [(0,3),(1,3)]⟩
theorem tok181:cb Tryz.prog 181 ti181:=⟨by kernel_rfl,by simp[ti181,aJ,Value.oneCell'],⟨_,Tryz.underlying181,rfl⟩⟩
def ti184:TI:=⟨3,24,[.v (.int .i64 0),.v (.int .i64 0),.v (.int .i64 0)],.st [(0,3),(1,3),(2,3)]⟩
theorem tok184:cb Tryz.prog 184 ti184:=⟨by kernel_rfl,by simp[ti184,aJ,Value.oneCell'],⟨_,Tryz.underlying184,rfl⟩⟩
def ti185:TI:=⟨3,24,[.v (.int .i64 0),.v (.int .i64 0),.v (.int .i64 0)],.st [(0,3),(1,3),(2,3)]⟩
theorem tok185:cb Tryz.prog 185 ti185:=⟨by kernel_rfl,by simp[ti185,aJ,Value.oneCell'],⟨_,Tryz.underlying185,rfl⟩⟩
def ti196:TI:=⟨5,56,[.v (.int .i64 0),.v (.int .i64 0),.v (.int .i64 0),.v (.int .i64 0),.z],.st [(0,3),(1,3),(2,3),(3,3),(4,33)]⟩
theorem tok196:cb Tryz.prog 196 ti196:=⟨by kernel_rfl,by simp[ti196,aJ,Value.oneCell'],⟨_,Tryz.underlying196,rfl⟩⟩
def ti197:TI:=⟨5,56,[.v (.int .i64 0),.v (.int .i64 0),.v (.int .i64 0),.v (.int .i64 0),.z],.st [(0,3),(1,3),(2,3),(3,3),(4,33)]⟩
theorem tok197:cb Tryz.prog 197 ti197:=⟨by kernel_rfl,by simp[ti197,aJ,Value.oneCell'],⟨_,Tryz.underlying197,rfl⟩⟩
def ti199:TI:=⟨1,24,[.z],.sl 264⟩
theorem tok199:cb Tryz.prog 199 ti199:=⟨by kernel_rfl,by simp[ti199,aJ,Value.oneCell'],Tryz.underlying199⟩
def ti201:TI:=⟨3,40,[.z,.v (.int .i64 0),.v (.int .i64 0)],.st [(0,22),(1,3),(2,3)]⟩
theorem tok201:cb Tryz.prog 201 ti201:=⟨by kernel_rfl,by simp[ti201,aJ,Value.oneCell'],⟨_,Tryz.underlying201,rfl⟩⟩
def ti202:TI:=⟨3,40,[.z,.v (.int .i64 0),.v (.int .i64 0)],.st [(0,22),(1,3),(2,3)]⟩
theorem tok202:cb Tryz.prog 202 ti202:=⟨by kernel_rfl,by simp[ti202,aJ,Value.oneCell'],⟨_,Tryz.underlying202,rfl⟩⟩
def ti209:TI:=⟨1,8,[.v (.map none)],.mp 3 4 (.bool false)⟩
theorem tok209:cb Tryz.prog 209 ti209:=⟨by kernel_rfl,by simp[ti209,aJ,Value.oneCell'],⟨Tryz.underlying209,Tryz.underlying3,by kernel_rfl,rfl⟩⟩
def ti212:TI:=⟨1,24,[.z],.sl 181⟩
theorem tok212:cb Tryz.prog 212 ti212:=⟨by kernel_rfl,by simp[ti212,aJ,Value.oneCell'],Tryz.underlying212⟩
def ti215:TI:=⟨1,8,[.v (.map none)],.mp 3 3 (.int .i64 0)⟩
theorem tok215:cb Tryz.prog 215 ti215:=⟨by kernel_rfl,by simp[ti215,aJ,Value.oneCell'],⟨Tryz.underlying215,Tryz.underlying3,by kernel_rfl,rfl⟩⟩
def ti263:TI:=⟨5,40,[.v (.int .i64 0),.v (.int .i64 0),.v (.int .i64 0),.v (.int .i64 0),.v (.int .i64 0)],.st [(0,3),(1,3),(2,3),(3,3),(4,3)]⟩
theorem tok263:cb Tryz.prog 263 ti263:=⟨by kernel_rfl,by simp[ti263,aJ,Value.oneCell'],⟨_,Tryz.underlying263,rfl⟩⟩
def ti264:TI:=⟨5,40,[.v (.int .i64 0),.v (.int .i64 0),.v (.int .i64 0),.v (.int .i64 0),.v (.int .i64 0)],.st [(0,3),(1,3),(2,3),(3,3),(4,3)]⟩
theorem tok264:cb Tryz.prog 264 ti264:=⟨by kernel_rfl,by simp[ti264,aJ,Value.oneCell'],⟨_,Tryz.underlying264,rfl⟩⟩
def ti272:TI:=⟨1,8,[.v (.int .u64 0)],.sc (.int .u64)⟩
theorem tok272:cb Tryz.prog 272 ti272:=⟨by kernel_rfl,by simp[ti272,aJ,Value.oneCell'],⟨Tryz.underlying272,trivial⟩⟩
def ti308:TI:=⟨1,8,[.v (.int .i64 0)],.sc (.int .i64)⟩
theorem tok308:cb Tryz.prog 308 ti308:=⟨by kernel_rfl,by simp[ti308,aJ,Value.oneCell'],⟨Tryz.underlying308,trivial⟩⟩
def ti315:TI:=⟨1,4,[.v (.int .u32 0)],.sc (.int .u32)⟩
theorem tok315:cb Tryz.prog 315 ti315:=⟨by kernel_rfl,by simp[ti315,aJ,Value.oneCell'],⟨Tryz.underlying315,trivial⟩⟩
def ti317:TI:=⟨1,8,[.v (.int .u64 0)],.sc (.int .u64)⟩
theorem tok317:cb Tryz.prog 317 ti317:=⟨by kernel_rfl,by simp[ti317,aJ,Value.oneCell'],⟨Tryz.underlying317,trivial⟩⟩
def ti329:TI:=⟨2,32,[.v (.int .i64 0),.z],.st [(0,3),(1,33)]⟩
theorem tok329:cb Tryz.prog 329 ti329:=⟨by kernel_rfl,by simp[ti329,aJ,Value.oneCell'],⟨_,Tryz.underlying329,rfl⟩⟩
def ti330:TI:=⟨2,32,[.v (.int .i64 0),.z],.st [(0,3),(1,33)]⟩
theorem tok330:cb Tryz.prog 330 ti330:=⟨by kernel_rfl,by simp[ti330,aJ,Value.oneCell'],⟨_,Tryz.underlying330,rfl⟩⟩
def ti337:TI:=⟨1,8,[.v (.int .u64 0)],.sc (.int .u64)⟩
theorem tok337:cb Tryz.prog 337 ti337:=⟨by kernel_rfl,by simp[ti337,aJ,Value.oneCell'],⟨Tryz.underlying337,trivial⟩⟩
def ti363:TI:=⟨0,0,[],.st [(0,362)]⟩
theorem tok363:cb Tryz.prog 363 ti363:=⟨by kernel_rfl,by simp[ti363,aJ,Value.oneCell'],⟨_,Tryz.underlying363,rfl⟩⟩
def ti364:TI:=⟨0,0,[],.st [(0,362)]⟩
theorem tok364:cb Tryz.prog 364 ti364:=⟨by kernel_rfl,by simp[ti364,aJ,Value.oneCell'],⟨_,Tryz.underlying364,rfl⟩⟩
def ti366:TI:=⟨1,1,[.v (.int .u8 0)],.sc (.int .u8)⟩
theorem tok366:cb Tryz.prog 366 ti366:=⟨by kernel_rfl,by simp[ti366,aJ,Value.oneCell'],⟨Tryz.underlying366,trivial⟩⟩
def ti367:TI:=⟨1,1,[.v (.int .u8 0)],.sc (.int .u8)⟩
theorem tok367:cb Tryz.prog 367 ti367:=⟨by kernel_rfl,by simp[ti367,aJ,Value.oneCell'],⟨Tryz.underlying367,trivial⟩⟩
def ti370:TI:=⟨1,4,[.v (.int .i32 0)],.sc (.int .i32)⟩
theorem tok370:cb Tryz.prog 370 ti370:=⟨by kernel_rfl,by simp[ti370,aJ,Value.oneCell'],⟨Tryz.underlying370,trivial⟩⟩
def ti371:TI:=⟨1,4,[.v (.int .i32 0)],.sc (.int .i32)⟩
theorem tok371:cb Tryz.prog 371 ti371:=⟨by kernel_rfl,by simp[ti371,aJ,Value.oneCell'],⟨Tryz.underlying371,trivial⟩⟩
def tab:List (Nat × TI):=[(3,ti3),(4,ti4),(2,ti2),(5,ti5),(6,ti6),(7,ti7),(8,ti8),(9,ti9),(10,ti10),(11,ti11),(12,ti12),(13,ti13),(14,ti14),(21,ti21),(22,ti22),(24,ti24),(25,ti25),(26,ti26),(27,ti27),(28,ti28),(29,ti29),(30,ti30),(31,ti31),(32,ti32),(33,ti33),(34,ti34),(35,ti35),(36,ti36),(37,ti37),(38,ti38),(39,ti39),(40,ti40),(41,ti41),(42,ti42),(43,ti43),(44,ti44),(45,ti45),(46,ti46),(47,ti47),(48,ti48),(49,ti49),(50,ti50),(51,ti51),(52,ti52),(53,ti53),(54,ti54),(55,ti55),(56,ti56),(57,ti57),(65,ti65),(66,ti66),(70,ti70),(71,ti71),(74,ti74),(75,ti75),(104,ti104),(105,ti105),(120,ti120),(121,ti121),(130,ti130),(131,ti131),(133,ti133),(134,ti134),(144,ti144),(149,ti149),(150,ti150),(172,ti172),(173,ti173),(180,ti180),(181,ti181),(184,ti184),(185,ti185),(196,ti196),(197,ti197),(199,ti199),(201,ti201),(202,ti202),(209,ti209),(212,ti212),(215,ti215),(263,ti263),(264,ti264),(272,ti272),(308,ti308),(315,ti315),(317,ti317),(329,ti329),(330,ti330),(337,ti337),(363,ti363),(364,ti364),(366,ti366),(367,ti367),(370,ti370),(371,ti371)]
theorem NI:Pc Tryz.prog tab:=⟨tok3,tok4,tok2,tok5,tok6,tok7,tok8,tok9,tok10,tok11,tok12,tok13,tok14,tok21,tok22,tok24,tok25,tok26,tok27,tok28,tok29,tok30,tok31,tok32,tok33,tok34,tok35,tok36,tok37,tok38,tok39,tok40,tok41,tok42,tok43,tok44,tok45,tok46,tok47,tok48,tok49,tok50,tok51,tok52,tok53,tok54,tok55,tok56,tok57,tok65,tok66,tok70,tok71,tok74,tok75,tok104,tok105,tok120,tok121,tok130,tok131,tok133,tok134,tok144,tok149,tok150,tok172,tok173,tok180,tok181,tok184,tok185,tok196,tok197,tok199,tok201,tok202,tok209,tok212,tok215,tok263,tok264,tok272,tok308,tok315,tok317,tok329,tok330,tok337,tok363,tok364,tok366,tok367,tok370,tok371,trivial⟩
def TE:Nat->Option TI:=Gc tab
theorem qC:∀t i,TE t=some i->cb Tryz.prog t i:=BW NI
end Go.Proofs.YtembpgjjnioagaaGreat.Ab
