/- A slot-only operation looks at its operands alone (the rest), and: a region that draws its order may be run in the text's. No condition. -/
import Derived.Test.YtecefhjnejfheaaGreatKtb
import Derived.Orders
import Derived.Test.YtecefhjnejfheaaGreatKta
set_option linter.unusedVariables false
set_option linter.unusedSimpArgs false
set_option linter.constructorNameAsVariable false
namespace Go.Proofs.YtecefhjnejfheaaGreat.Ab
open Go.RowKit
section
variable{F:Nat->AV}{K:AV->Prop}{TE:Nat->Option TI}{P:Program}
theorem Kt{g:BinOp}{x y:Value}{K K':Value->Prop}(h:D4 g x y K)(i:∀v,K v->K' v):D4 g x y K':=by
 cases x<;>cases y<;>try exact h.elim
 rename_i k a j b;have c:∀{X Y:Prop},(bif g9 k j then X else False)->(X->Y)->(bif g9 k j then Y else False):=fun {X Y} h e=>by
  cases o:g9 k j with
  | true=>rw[o]at h;exact e h
  | false=>rw[o]at h;exact h.elim
 have d:∀{k:IntKind}{x:Int},Wr k x (λz=>K (.int k z))->Wr k x (λz=>K' (.int k z)):=λh=>by
  obtain⟨z,l,n⟩:=h.out;exact CM l (i _ n)
 have q:∀{k:IntKind}{x:Int},Ev x (λz=>K (.int k z))->Ev x (λz=>K' (.int k z)):=λh=>by
  obtain⟨z,l,n⟩:=h.out;exact CQ l (i _ n)
 have f:∀{p X Y:Prop},Cd p X->(X->Y)->Cd p Y:=λh e=>CN h.out.1 (e h.out.2)
 cases g<;>simp only[D4]at h |-
 case add=>exact c h d
 case sub=>exact c h d
 case mul=>exact c h d
 case quo=>exact c h λh=>f h d
 case rem=>exact c h λh=>f h q
 case and=>exact c h d
 case or=>exact c h d
 case xor=>exact c h d
 case andNot=>exact c h d
 case shl=>exact f h d
 case shr=>exact f h q
 all_goals exact c h (i _)
theorem MW{f:BinOp}{x y:Value}{K:Value->Prop}(h:D4 f x y K):∃v,K v/\D4 f x y (· = v):=by
 cases x<;>cases y<;>try exact h.elim
 rename_i k a g b;have e:∀{X:Prop},(bif g9 k g then X else False)->X/\∀Y:Prop,Y->(bif g9 k g then Y else False):=fun {X} h=>by
  cases i:g9 k g with
  | true=>rw[i]at h;exact⟨h,λY j=>j⟩
  | false=>rw[i]at h;exact h.elim
 cases f<;>simp only[D4]at h |-
 case add=>obtain⟨h,b⟩:=e h;obtain⟨z,c,d⟩:=h.out;exact⟨_,d,b _ (CM c rfl)⟩
 case sub=>obtain⟨h,b⟩:=e h;obtain⟨z,c,d⟩:=h.out;exact⟨_,d,b _ (CM c rfl)⟩
 case mul=>obtain⟨h,b⟩:=e h;obtain⟨z,c,d⟩:=h.out;exact⟨_,d,b _ (CM c rfl)⟩
 case quo=>obtain⟨h,b⟩:=e h;obtain⟨z,c,d⟩:=h.out.2.out;exact⟨_,d,b _ (CN h.out.1 (CM c rfl))⟩
 case rem=>obtain⟨h,b⟩:=e h;obtain⟨z,c,d⟩:=h.out.2.out;exact⟨_,d,b _ (CN h.out.1 (CQ c rfl))⟩
 case and=>obtain⟨h,b⟩:=e h;obtain⟨z,c,d⟩:=h.out;exact⟨_,d,b _ (CM c rfl)⟩
 case or=>obtain⟨h,b⟩:=e h;obtain⟨z,c,d⟩:=h.out;exact⟨_,d,b _ (CM c rfl)⟩
 case xor=>obtain⟨h,b⟩:=e h;obtain⟨z,c,d⟩:=h.out;exact⟨_,d,b _ (CM c rfl)⟩
 case andNot=>obtain⟨h,b⟩:=e h;obtain⟨z,c,d⟩:=h.out;exact⟨_,d,b _ (CM c rfl)⟩
 case shl=>obtain⟨z,c,d⟩:=h.out.2.out;exact⟨_,d,CN h.out.1 (CM c rfl)⟩
 case shr=>obtain⟨z,c,d⟩:=h.out.2.out;exact⟨_,d,CN h.out.1 (CQ c rfl)⟩
 all_goals(obtain⟨h,b⟩:=e h;exact⟨_,h,b _ rfl⟩)
theorem M5{b:BinOp}{T:Nat}{x y:Value}{K:Value->Prop}(h:F4 TE b T x y K):∃v,K v/\∀K':Value->Prop,K' v->F4 TE b T x y K':=by
 unfold F4 at h;split at h
 ·split at h
  case h_2=>exact h.elim
  rename_i f;cases b<;>simp only at h<;>try exact h.elim
  all_goals exact⟨_,h,λK' a=>by unfold F4;simp only[f];exact a⟩
 ·cases b<;>simp only at h<;>try exact h.elim
  case add=>obtain⟨c,d⟩:=h.out;obtain⟨z,g,i⟩:=d.out;exact⟨_,i,λK' a=>CN c (Es.mk g a)⟩
  all_goals exact⟨_,h,λK' a=>a⟩
 rename_i c d;obtain⟨v,j,k⟩:=MW h;refine⟨v,j,λK' a=>?_⟩;have:=Kt (K':=K') k λl e=>by rw[e];exact a
 unfold F4;split
 ·exact(c _ _ rfl rfl).elim
 ·exact(d _ _ rfl rfl).elim
 exact this
theorem Ns{a:UnOp}{x:Value}{K K':Value->Prop}(h:P7 a x K)(b:∀v,K v->K' v):P7 a x K':=by
 unfold P7 at h |-;split at h
 ·exact b _ h
 ·obtain⟨z,c,d⟩:=Wr.out h;exact CM c (b _ d)
 exact h.elim
theorem NT{a:UnOp}{x:Value}{K:Value->Prop}(h:P7 a x K):∃v,K v/\P7 a x (· = v):=by
 unfold P7 at h;split at h
 ·exact⟨_,h,rfl⟩
 ·obtain⟨z,b,c⟩:=Wr.out h;exact⟨_,c,CM b rfl⟩
 exact h.elim
theorem NE{c x y:Operand}(h:Ja F c x y K):oq (λF K=>Ja F c x y K) F (tm c++tm x++tm y) K:=by
 obtain⟨z,f,r⟩:=jf h;cases z with
 | bool b=>
  cases b with
  | true=>
   obtain⟨g,i,j,k⟩:=jT (Bf.out f);refine⟨g,i,λd l=>(j d l).imp (λh=>by simp[h]) (λ⟨t,n,o⟩=>⟨t,by simp[n],o⟩),λa e p q=>r a (e.mono (by simp +contextual)) _ (Bf.in_ (k a (e.mono (by simp +contextual)) p q))⟩
  | false=>
   obtain⟨g,i,j,k⟩:=jT (Bf.out f);refine⟨g,i,λd l=>(j d l).imp (λh=>by simp[h]) (λ⟨t,n,o⟩=>⟨t,by simp[n],o⟩),λa e p q=>r a (e.mono (by simp +contextual)) _ (Bf.in_ (k a (e.mono (by simp +contextual)) p q))⟩
 | _=>exact f.elim
theorem Pj{x:Operand}(h:Pd F x K):oq (λF K=>Pd F x K) F (tm x) K:=by
 obtain⟨i,c,a,d⟩:=cw h;cases b:aY c with
 | false=>rw[b]at a;exact a.elim
 | true=>rw[b]at a;exact⟨_,a,CR _ _ _ _,λe f j g=>d e f _ (by rw[b];exact g)⟩
theorem Ex{x:Operand}{i:Nat}(h:jN F x i K):oq (λF K=>jN F x i K) F (tm x) K:=by
 cases x with
 | tmp t=>
  have e:t∈tm (.tmp t):=by simp[tm]
  simp only[jN]at h;cases a:F t with
  | H k l=>
   rw[a]at h;cases k with
   | tup n=>
    simp only at h;cases b:BO n i with
    | none=>rw[b]at h;exact h.elim
    | some p=>
     rw[b]at h;simp only at h;cases c:aY (b8 l p.1 (p.2.getD 1)) with
     | true=>rw[c]at h;exact⟨_,h,CR _ _ _ _,λo f q g=>by simp only[jN,(f t e).1,a,b,c,cond_true];exact g⟩
     | false=>rw[c]at h;exact⟨_,h,λd j=>.inl (by simp[AV.uses]at j;subst j;exact e),λo f q g=>by simp only[jN,(f t e).1,a,b,c,cond_false];exact g⟩
   | _=>exact h.elim
  | _=>rw[a]at h;exact h.elim
 | _=>exact h.elim
theorem Qc{T:Nat}{x:Operand}(h:G4 TE F T x K):oq (λF K=>G4 TE F T x K) F (tm x) K:=by
 unfold G4 at h;unfold oq G4;split at h
 ·obtain⟨g,i,a,e⟩:=cw h
  match g,i,a with
  | none,[.s o rows],a=>exact⟨_,Ln.out a,CR _ _ _ _,λb c f d=>e b c _ (Ln.mk rfl d)⟩
  | none,[.z],a=>exact⟨_,a,CR _ _ _ _,λb c f d=>e b c _ d⟩
 ·obtain⟨z,a,e⟩:=jf h
  cases z with
  | string s=>exact⟨_,Ln.out a,CR _ _ _ _,λb c f d=>e b c _ (Ln.mk rfl d)⟩
  | _=>exact a.elim
 exact h.elim
theorem Pz{T:Nat}{x:Operand}(h:Hf TE F T x K):oq (λF K=>Hf TE F T x K) F (tm x) K:=by
 unfold Hf at h;unfold oq Hf;split at h
 ·obtain⟨g,i,a,f⟩:=cw h
  match g,i,a with
  | none,[.s o rows],a=>exact⟨_,a.out.2,CR _ _ _ _,λb d j e=>f b d _ (Nn.mk a.out.1 e)⟩
  | none,[.v (.slice A n c)],a=>exact⟨_,a,CR _ _ _ _,λb d j e=>f b d _ e⟩
 exact h.elim
theorem Pf{f:BinOp}{T:Nat}{x y:Operand}(h:GT P F f T x y K):oq (λF K=>GT P F f T x y K) F (tm x++tm y) K:=by
 unfold GT at h;unfold oq GT;obtain⟨j,C,k,l⟩:=cw h;obtain⟨ag2,ds,a,b⟩:=cw k
 match j,ag2,a with
 | some n,some m,c=>
  obtain⟨o,p,q⟩:=pu c;obtain⟨t,u,w⟩:=pu p;obtain⟨r,A,B⟩:=u.out;exact⟨_,B,CR _ _ _ _,λg i D d=>l g (i.mono λ_ e=>List.mem_append_left _ e) _ (b g (i.mono λ_ e=>List.mem_append_right _ e) _ (by rw[q,w];exact Gh o (Gh t (QZ.mk A d))))⟩
theorem AM{x:Operand}{F':Nat->AV}(a:jq F F' (tm x)):isAgg F' x=isAgg F x:=by
 cases x with
 | tmp t=>unfold isAgg;simp only;rw[(a t (by simp[tm])).1]
 | _=>rfl
def tms(xs:List Operand):List Nat:=xs.flatMap tm
theorem Nc{x:Operand}{k:Bool->RA->Prop}(h:argV F x k):∃b A,k b A/\∀F':Nat->AV,jq F F' (tm x)->∀i:Bool->RA->Prop,i b A->argV F' x i:=by
 have key:∀F':Nat->AV,jq F F' (tm x)->mT F' x=mT F x:=λF' j=>j.ev
 have w:∀n,mT F x=n->i7 F n (vM k)->(∀F' i,mT F' x=n->(argV F' x i=i7 F' n (vM i)))->∃b A,k b A/\∀F':Nat->AV,jq F F' (tm x)->∀i:Bool->RA->Prop,i b A->argV F' x i:=λn a D B=>by
  obtain⟨E,q,o,C⟩:=cw (x:=x) (by rw[a];exact D);unfold vM at o;cases u:aY q with
  | true=>
   rw[u]at o;refine⟨true,_,o,λF' j i d=>?_⟩;have p:=key F' j;rw[B F' i (p.trans a),<-a,<-p];exact C F' j _ (by unfold vM;rw[u];exact d)
  | false=>
   rw[u]at o;refine⟨false,_,o,λF' j i d=>?_⟩;have p:=key F' j;rw[B F' i (p.trans a),<-a,<-p];exact C F' j _ (by unfold vM;rw[u];exact d)
 have c:=h;unfold argV at c;cases a:mT F x with
 | H G q=>
  rw[a]at c;cases G with
  | box=>exact⟨false,_,c,λF' j i d=>by unfold argV;rw[key F' j,a];exact d⟩
  | one=>exact w _ a c λF' i e=>by unfold argV;rw[e];rfl
  | agg=>exact w _ a c λF' i e=>by unfold argV;rw[e];rfl
  | tup K=>exact c.elim
 | c2 t l H E=>rw[a]at c;exact w _ a c λF' i e=>by unfold argV;rw[e]
 | ref t l H=>
  rw[a]at c;simp only at c;split at c
  ·rename_i q J
   refine⟨false,_,c,λF' j i d=>?_⟩;unfold argV;rw[key F' j,a];have:F' t=.H .box q:=by
    cases x with
    | tmp s=>exact(j s (by simp[tm])).2 t (by show AV.uses t (F s)=true;rw[show F s=_ from a];simp[AV.uses]) _ _ J
    | const v=>simp only[mT]at a;have:=lZ v t;rw[a]at this;simp[AV.uses]at this
    | global g=>cases a
    | func f=>cases a
   simp only[this];exact d
  exact c.elim
 | iref r l=>
  rw[a]at c;simp only at c;cases y:Nat.beq l 0 with
  | false=>rw[y]at c;exact c.elim
  | true=>rw[y]at c;exact⟨true,_,c,λF' j i d=>by unfold argV;rw[key F' j,a];simp only[y];exact d⟩
 | fv Ok=>rw[a]at c;exact⟨true,_,c,λF' j i d=>by unfold argV;rw[key F' j,a];exact d⟩
 | fn f caps=>rw[a]at c;exact c.elim
 | dead=>rw[a]at c;exact c.elim
theorem pf:∀{cs:List Nat}{k:List RA->Prop},mE F cs k->∃D,k D/\∀F':Nat->AV,(∀t,t∈cs->∀j xs,F t=.H j xs->F' t=.H j xs)->∀d:List RA->Prop,d D->mE F' cs d
 | [],k,h=>⟨[],h,λ_ _ _ h=>h⟩
 | c::cs,k,h=>by
  simp only[mE]at h;split at h
  ·rename_i xs e
   obtain⟨D,f,g⟩:=pf h;exact⟨_,f,λF' b d a=>by simp only[mE,b c (V1 ..) _ _ e];exact g F' (λt i=>b t (z5 _ i)) _ a⟩
  ·rename_i xs e
   obtain⟨D,f,g⟩:=pf h;exact⟨_,f,λF' b d a=>by simp only[mE,b c (V1 ..) _ _ e];exact g F' (λt i=>b t (z5 _ i)) _ a⟩
  ·rename_i xs e
   obtain⟨D,f,g⟩:=pf h;exact⟨_,f,λF' b d a=>by simp only[mE,b c (V1 ..) _ _ e];exact g F' (λt i=>b t (z5 _ i)) _ a⟩
  exact h.elim
theorem Jp{F':Nat->AV}{t:Nat}{ts:List Nat}{f:FuncId}{caps:List Nat}(b:jq F F' ts)(d:t∈ts)(e:F t=.fn f caps):∀c,c∈caps->∀a xs,F c=.H a xs->F' c=.H a xs:=λc g a xs h=>
 (b t d).2 c (by rw[e];simp only[AV.uses,Y3];exact⟨c,g,Nat.beq_refl c⟩) a xs h
theorem Nb{x:Operand}{k:Bool->RA->Prop}(h:argA P F x k):∃b A,k b A/\∀F':Nat->AV,jq F F' (tm x)->∀e:Bool->RA->Prop,e b A->argA P F' x e:=by
 have j:=h;unfold argA at j;split at j
 ·rename_i f caps a
  obtain⟨D,l,n⟩:=pf j;obtain⟨Q,q,r,u⟩:=l;refine⟨false,_,u,λF' i e d=>?_⟩;unfold argA;rw[i.ev,a];refine n F' ?_ _ ⟨Q,q,r,d⟩;cases x with
  | tmp s=>exact Jp i (t:=s) (by simp[tm]) a
  | const v=>
   intro c o;simp only[mT]at a;have:=lZ v c;rw[a]at this;simp only[AV.uses]at this;have w:caps.any (Nat.beq · c)=true:=Y3.2 ⟨c,o,Nat.beq_refl c⟩;rw[w]at this;cases this
  | global g=>cases a
  | func f=>cases a;intro c o;cases o
 rename_i p;obtain⟨b,A,l,n⟩:=Nc j;refine⟨b,A,l,λF' i e d=>?_⟩;have:=n F' i e d;unfold argA;rw[i.ev];split
 ·rename_i f caps a;exact absurd a (p f caps)
 exact this
theorem wt:∀{xs:List Operand}{k:Bool->List RA->Prop},Aa P F xs k->∃b A,k b A/\∀F':Nat->AV,jq F F' (tms xs)->∀c:Bool->List RA->Prop,c b A->Aa P F' xs c
 | [],k,h=>⟨true,[],h,λ_ _ _ h=>h⟩
 | x::xs,k,h=>by
  obtain⟨n,A,d,g⟩:=Nb h;obtain⟨b,As,d,e⟩:=wt d;have i:∀{F':Nat->AV},jq F F' (tms (x::xs))->jq F F' (tm x):=λa=>a.mono (by simp +contextual [tms])
  have j:∀{F':Nat->AV},jq F F' (tms (x::xs))->jq F F' (tms xs):=λa=>a.mono (λt l=>by simp only[tms,O6,Z2];exact .inr l)
  exact⟨_,_,d,λF' a c f=>g F' (i a) _ (e F' (j a) _ f)⟩
theorem AJ:∀{xs:List Operand}{k:List (Option Nat × List C)->Prop},argsV F xs k->∃L,k L/\∀F':Nat->AV,jq F F' (tms xs)->∀b:List (Option Nat × List C)->Prop,b L->argsV F' xs b
 | [],k,h=>⟨[],h,λ_ _ _ h=>h⟩
 | x::xs,k,h=>by
  obtain⟨l,n,c,f⟩:=cw h;obtain⟨L,c,d⟩:=AJ c;have g:∀{F':Nat->AV},jq F F' (tms (x::xs))->jq F F' (tm x):=λa=>a.mono (by simp +contextual [tms])
  have i:∀{F':Nat->AV},jq F F' (tms (x::xs))->jq F F' (tms xs):=λa=>a.mono (λt j=>by simp only[tms,O6,Z2];exact .inr j)
  exact⟨_,c,λF' a b e=>f F' (g a) _ (d F' (i a) _ e)⟩
theorem MZ{f:Nat}{xs:List Operand}(h:Jo P F f xs K):oq (λF K=>Jo P F f xs K) F (tms xs) K:=by
 obtain⟨b,A,a,c⟩:=wt h;obtain⟨d,k,rcs,e,g,i⟩:=a.out;exact⟨_,i,CR _ _ _ _,λj l o n=>c j l _ (.mk_ ⟨d,k,rcs,e,g,n⟩)⟩
theorem Ku{t:Nat}{xs:List Operand}(h:mt P F t xs K):oq (λF K=>mt P F t xs K) F (t::tms xs) K:=by
 have d:=h;unfold mt at d;split at d
 ·rename_i f caps g
  obtain⟨b,A,e,i⟩:=wt d;obtain⟨D,e,j⟩:=pf e;obtain⟨u,k,rcs,l,n,o⟩:=e.out;refine⟨_,o,CR _ _ _ _,λa c p q=>?_⟩;show mt P a t xs p;unfold mt;rw[(c t (V1 ..)).1,g];exact i a (c.mono λt r=>z5 _ r) _ (j a (Jp c (V1 ..) g) _ (.mk_ ⟨u,k,rcs,l,n,q⟩))
 ·rename_i Ok g
  obtain⟨L,e,i⟩:=AJ d;obtain⟨Q,k,rcs,l,n,o⟩:=e;refine⟨_,o,CR _ _ _ _,λa c p q=>?_⟩;show mt P a t xs p;unfold mt;rw[(c t (V1 ..)).1,g];exact i a (c.mono λt r=>z5 _ r) _ ⟨Q,k,rcs,l,n,q⟩
 exact d.elim
theorem jI{T:Nat}{k:Nat->TI->Prop}(h:HY TE T k):∃e a,k e a/\∀b:Nat->TI->Prop,b e a->HY TE T b:=by
 unfold HY at h;split at h
 case h_2=>exact h.elim
 rename_i e d;split at h
 case h_2=>exact h.elim
 rename_i a f;cases c:(Nat.beq a.zero.length a.size&&Nat.ble 1 a.size) with
 | false=>rw[c]at h;exact h.elim
 | true=>rw[c]at h;exact⟨e,a,h,λb g=>by unfold HY;simp only[d,f,c,cond_true];exact g⟩
theorem se{x:Operand}{k:Int->Prop}(h:FK F x k):∃n,k n/\∀F':Nat->AV,jq F F' (tm x)->∀a:Int->Prop,a n->FK F' x a:=by
 obtain⟨z,b,c⟩:=jf h;cases z with
 | int f n=>exact⟨n,b,λF' d a e=>c F' d _ e⟩
 | _=>exact b.elim
def otm(x:Option Operand):List Nat:=x.toList.flatMap tm
theorem HP{x:Option Operand}{k:Option Int->Prop}(h:Mj F x k):∃n,k n/\∀F':Nat->AV,jq F F' (otm x)->∀a:Option Int->Prop,a n->Mj F' x a:=by
 cases x with
 | none=>exact⟨none,h,λ_ _ _ b=>b⟩
 | some x=>
  obtain⟨n,c,d⟩:=se h;exact⟨some n,c,λF' e a b=>d F' (e.mono (by simp +contextual [otm])) _ b⟩
theorem tE{i:Nat->Option (Nat × Nat)} : ∀{parts:List (Nat × Operand)}{cs:List C}{k:List C->Prop},fillP F i parts cs k->∃a,k a/\∀F':Nat->AV,jq F F' (tms (parts.map (·.2)))->∀c:List C->Prop,c a->fillP F' i parts cs c
 | [],cs,k,h=>⟨cs,h,λ_ _ _ h=>h⟩
 | p::rest,cs,k,h=>by
  simp only[fillP]at h;split at h
  case h_2=>exact h.elim
  rename_i q l;obtain⟨r,xs,b,n⟩:=cw h;cases d:(aY xs&&Nat.beq xs.length q.2&&Nat.ble (q.1+q.2) cs.length) with
  | false=>rw[d]at b;exact b.elim
  | true=>
   rw[d]at b;simp only[cond_true,dm]at b;obtain⟨a,e,f⟩:=tE b;refine⟨a,e,λF' j c g=>?_⟩;simp only[fillP,l];refine n F' (j.mono (by simp +contextual [tms])) _ ?_;rw[d];simp only[cond_true,dm];exact f F' (j.mono (λt o=>by simp only[tms,V5,O6,Z2];exact .inr o)) _ g
theorem JM{T:Nat}{parts:List (Nat × Operand)}(h:rr TE F T parts K):oq (λF K=>rr TE F T parts K) F (tms (parts.map (·.2))) K:=by
 unfold rr at h;unfold oq rr;split at h
 case h_2=>exact h.elim
 rename_i size bytes zero flds i;cases a:xn TE flds with
 | false=>rw[a]at h;exact h.elim
 | true=>
  rw[a]at h;obtain⟨b,c,d⟩:=tE h;exact⟨_,c,CR _ _ _ _,λe f j g=>by simp only[cond_true];exact d e f _ g⟩
theorem GJ{T n:Nat}{parts:List (Nat × Operand)}(h:wn TE F T n parts K):oq (λF K=>wn TE F T n parts K) F (tms (parts.map (·.2))) K:=by
 obtain⟨e,j,a,f⟩:=jI h;cases c:Nat.ble (n*j.size) 16777216 with
 | false=>rw[c]at a;exact a.elim
 | true=>
  rw[c]at a;simp only[cond_true]at a;split at a
  ·exact⟨_,a,CR _ _ _ _,λg i k d=>f _ (by rw[c];exact d)⟩
  ·rw[dm]at a
   obtain⟨l,b,o⟩:=tE a;rw[oR]at b;exact⟨_,b,CR _ _ _ _,λg i k d=>f _ (by rw[c];simp only[cond_true,dm];exact o g i _ (by rw[oR];exact d))⟩
  exact a.elim
theorem LT{T:Nat}{x y:Operand}(h:Jz TE F T x y K):oq (λF K=>Jz TE F T x y K) F (tm x++tm y) K:=by
 obtain⟨e,r,a,g⟩:=jI h;obtain⟨j,k,a,i⟩:=cw a
 match j,k,a with
 | none,[.z],a=>
  obtain⟨ag2,cs2,a,b⟩:=cw a
  match ag2,cs2,a with
  | none,[.s o rows],a=>
   obtain⟨l,n,p,a⟩:=a.out;exact⟨_,a,CR _ _ _ _,λc d q f=>g _ (i c (d.mono (by simp +contextual)) _ (b c (d.mono (by simp +contextual)) _ (Fl.mk l n p f)))⟩
  | none,[.z],a=>
   exact⟨_,a,CR _ _ _ _,λc d q f=>g _ (i c (d.mono (by simp +contextual)) _ (b c (d.mono (by simp +contextual)) _ f))⟩
theorem L9{T:Nat}{x y:Operand}(h:J6 TE F T x y K):oq (λF K=>J6 TE F T x y K) F (tm x++tm y) K:=by
 obtain⟨e,r,a,g⟩:=jI h;obtain⟨l,a,i⟩:=se a;obtain⟨c,a,b⟩:=se a;obtain⟨n,j,k,o,p,a⟩:=a.out;exact⟨_,a,CR _ _ _ _,λd f t q=>g _ (i d (f.mono (by simp +contextual)) _ (b d (f.mono (by simp +contextual)) _ (Mk.mk n j k o p rfl q)))⟩
theorem MO{T:Nat}{x y:Operand}{ok:Bool}(h:yc TE F T x y ok K):oq (λF K=>yc TE F T x y ok K) F (tm x++tm y) K:=by
 unfold yc at h;split at h
 case h_2=>exact h.elim
 rename_i i;cases ok with
 | true=>exact h.elim
 | false=>
  simp only[cond_false]at h;obtain⟨j,k,b,c⟩:=cw h
  match j,k,b,c with
  | none,[.m es],b,c=>
   obtain⟨v,d,a⟩:=jf b
   match v,d,a with
   | .int .i64 z,d,a=>
    refine⟨_,d.out,CR _ _ _ _,λf g l e=>?_⟩;simp only[yc,i,cond_false];exact c f (g.mono (by simp +contextual)) _ (a f (g.mono (by simp +contextual)) _ (Ml.mk rfl e))
theorem K9{T:Nat}{x:Operand}{lo j:Option Operand}(h:BN TE F T x lo j K):oq (λF K=>BN TE F T x lo j K) F (tm x++otm lo++otm j) K:=by
 obtain⟨e,q,b,t⟩:=jI h;obtain⟨l,b,u⟩:=HP b;obtain⟨r,b,g⟩:=HP b;obtain⟨w,A,b,i⟩:=cw b;have back:∀(c:List (List C))(k:List (List C)->Prop),Sl c q.size l r k->∃a,k a/\∀n:List (List C)->Prop,n a->Sl c q.size l r n:=λc k h=>by
  obtain⟨x,y,B,D,E,G,H,J⟩:=h.out;exact⟨_,J,λn b=>by refine .mk_ ?_;exact⟨x,y,B,D,E,G,H,_,rfl,b⟩⟩
 match w,A,b with
 | none,[.s .X c],b=>
  obtain⟨a,b,o⟩:=back _ _ b;exact⟨_,b,CR _ _ _ _,λd f L p=>t _ (u d (f.mono (by simp +contextual)) _ (g d (f.mono (by simp +contextual)) _ (i d (f.mono (by simp +contextual)) _ (o _ p))))⟩
 | none,[.z],b=>
  obtain⟨a,b,o⟩:=back _ _ b;exact⟨_,b,CR _ _ _ _,λd f L p=>t _ (u d (f.mono (by simp +contextual)) _ (g d (f.mono (by simp +contextual)) _ (i d (f.mono (by simp +contextual)) _ (o _ p))))⟩
theorem Hb{T:Nat}{x c d:Operand}(h:PX TE F T x c d K):oq (λF K=>PX TE F T x c d K) F (tm x) K:=by
 obtain⟨e,q,a,j⟩:=jI h;cases b:Qs c&&Qs d with
 | false=>rw[b]at a;exact a.elim
 | true=>
  rw[b]at a;obtain⟨l,n,a,k⟩:=cw a
  match l,n,a with
  | none,[.s o rows],a=>exact⟨_,a,CR _ _ _ _,λf g p i=>j _ (by rw[b];exact k f g _ i)⟩
  | none,[.z],a=>exact⟨_,a,CR _ _ _ _,λf g p i=>j _ (by rw[b];exact k f g _ i)⟩
theorem Ks{T f:Nat}{x:Operand}(h:rp TE F T x f K):oq (λF K=>rp TE F T x f K) F (tm x) K:=by
 unfold rp at h;split at h
 case h_2=>exact h.elim
 rename_i flds e;split at h
 case h_2=>exact h.elim
 rename_i p g;split at h
 case h_2=>exact h.elim
 rename_i i j;obtain⟨k,d,a,l⟩:=cw h;cases b:(k.isSome&&(i.agg || Nat.beq i.size 1)&&Nat.ble (p.1+i.size) d.length) with
 | false=>rw[b]at a;exact a.elim
 | true=>
  rw[b]at a;simp only[cond_true]at a;cases c:aY (b8 d p.1 i.size) with
  | false=>rw[c]at a;exact a.elim
  | true=>
   rw[c]at a;simp only[cond_true,dm]at a;exact⟨_,a,CR _ _ _ _,λn o r q=>by unfold rp;simp only[e,g,j];exact l n o _ (by rw[b,c];simp only[cond_true,dm];exact q)⟩
theorem Nj{b c:Nat}{x:Operand}(h:wz TE F b c x K):oq (λF K=>wz TE F b c x K) F (tm x) K:=by
 unfold wz at h;split at h
 ·rename_i d e
  obtain⟨n,a,f⟩:=se h;obtain⟨z,g,a⟩:=a.out;exact⟨_,a,CR _ _ _ _,λi j l k=>by unfold wz;simp only[d,e];exact f i j _ (CM g k)⟩
 exact h.elim
theorem LS{c:Bool}{x y:Operand}(h:Rr c F x y K):oq (λF K=>Rr c F x y K) F (tm x++tm y) K:=by
 obtain⟨z,d,g⟩:=jf h;cases z with
 | int k n=>
  obtain⟨m,a,b⟩:=se d;obtain⟨z,i,a⟩:=a.out;exact⟨_,a,CR _ _ _ _,λe f l j=>g e (f.mono (by simp +contextual)) _ (b e (f.mono (by simp +contextual)) _ (CQ i j))⟩
 | _=>exact d.elim
theorem eE.mono{ts ts':List Nat}{av:AV}(h:eE F ts av)(a:∀t,t∈ts->t∈ts'):eE F ts' av:=λd b=>(h d b).imp (a d) (λ⟨t,c,e⟩=>⟨t,a t c,e⟩)
theorem oq.mono{p:(Nat->AV)->(AV->Prop)->Prop}{ts ts':List Nat}(h:oq p F ts K)(a:∀t,t∈ts->t∈ts'):oq p F ts' K:=by
 obtain⟨b,c,d,e⟩:=h;exact⟨b,c,d.mono a,λf g i j=>e f (g.mono a) i j⟩
def dd(o:Op):List Nat:=o.operands.toList.flatMap tm
theorem jY{o:Op}(h:dn P TE F o K):oq (λF K=>dn P TE F o K) F (dd o) K:=by
 cases o with
 | move x=>exact(jT h).mono (by simp[dd,Op.operands])
 | assign x=>exact(jT h).mono (by simp[dd,Op.operands])
 | nilCheck x=>
  cases x with
  | tmp t=>
   have A:t∈tm (.tmp t):=by simp[tm]
   have key:∀a:Nat->AV,a t=F t->∀b,dn P TE a (.nilCheck (.tmp t)) b=(match F t with|.ref ..=>br a (.tmp t) b|.iref ..=>br a (.tmp t) b|.H .box _=>br a (.tmp t) b|_=>False):=λa e b=>by
    unfold dn;simp only
    first
     |(rw[e];done)
     |(rw[e]
       cases F t with
       | H k O=>cases k<;>rfl
       | _=>rfl)
   rw[key F rfl]at h;have fin:br F (.tmp t) K->(∀b (a:Nat->AV),a t=F t->br a (.tmp t) b->dn P TE a (.nilCheck (.tmp t)) b)->oq (λF K=>dn P TE F (.nilCheck (.tmp t)) K) F (dd (.nilCheck (.tmp t))) K:=λp Q=>by
    obtain⟨B,C,D,E⟩:=jT p;exact⟨B,C,D.mono (by simp[dd,Op.operands]),λa j b g=>Q _ a (j t (by simp[dd,Op.operands,tm])).1 (E a (j.mono (by simp[dd,Op.operands])) b g)⟩
   cases G:F t with
   | H k O=>
    rw[G]at h;cases k with
    | box=>exact fin h λb a e p=>by rw[key a e,G];exact p
    | _=>exact h.elim
   | ref=>rw[G]at h;exact fin h λb a e p=>by rw[key a e,G];exact p
   | iref=>rw[G]at h;exact fin h λb a e p=>by rw[key a e,G];exact p
   | _=>rw[G]at h;exact h.elim
  | _=>exact h.elim
 | load T x=>exact(MJ h).mono (by simp[dd,Op.operands])
 | fieldAddr T x f=>exact(zl h).mono (by simp[dd,Op.operands])
 | indexAddr T x y=>exact(yP h).mono (by simp[dd,Op.operands])
 | binOp R T x y yT=>
  simp only[dn]at h;cases q:xt R y with
  | true=>
   rw[q]at h;obtain⟨B,C,D,E⟩:=Pz h;exact⟨B,C,D.mono (by simp +contextual [dd,Op.operands]),λa j b g=>by simp only[dn,q,cond_true];exact E a (j.mono (by simp +contextual [dd,Op.operands])) b g⟩
  | false=>
   rw[q]at h;have u:∀t,t∈tm x->t∈dd (.binOp R T x y yT):=λt A=>by simp[dd,Op.operands,A]
   cases M:isAgg F x with
   | true=>
    rw[M]at h;obtain⟨B,C,D,E⟩:=Pf h;exact⟨B,C,D.mono (by simp +contextual [dd,Op.operands]),λa j b g=>by
      simp only[dn,q,cond_false];rw[AM (j.mono u),M];exact E a (j.mono (by simp +contextual [dd,Op.operands])) b g⟩
   | false=>
   rw[M]at h;obtain⟨z,S,J⟩:=jf h;obtain⟨z2,U,V⟩:=jf S;obtain⟨v,W,X⟩:=M5 U;refine⟨_,W,CR _ _ _ _,λa j b g=>by simp only[dn,q,cond_false];rw[AM (j.mono u),M];exact J a (j.mono (by simp +contextual [dd,Op.operands])) _ (V a (j.mono (by simp +contextual [dd,Op.operands])) _ (X _ g))⟩
 | unOp R T x=>
  obtain⟨z,S,J⟩:=jf h;obtain⟨v,W,X⟩:=NT S;exact⟨_,W,CR _ _ _ _,λa j b g=>J a (j.mono (by simp[dd,Op.operands])) _ (Ns X λv' e=>by rw[e];exact g)⟩
 | pick c x y=>exact(NE h).mono (by simp[dd,Op.operands])
 | alloc T=>
  simp only[dn]at h;unfold wD at h;split at h
  ·rename_i i L
   exact⟨_,h,CR _ _ _ _,λa _ b g=>by simp only[dn,wD,L];exact g⟩
  exact h.elim
 | box T x=>exact(Pj h).mono (by simp[dd,Op.operands])
 | extract x i=>exact(Ex h).mono (by simp[dd,Op.operands])
 | build T ps=>exact(JM h).mono (by simp +contextual [dd,Op.operands,tms])
 | buildSlice T n ps=>exact(GJ h).mono (by simp +contextual [dd,Op.operands,tms])
 | makeSlice T x y=>exact(L9 h).mono (by simp[dd,Op.operands])
 | makeMap T r=>
  simp only[dn,tp]at h |-;split at h
  case h_2=>exact h.elim
  exact⟨_,h,CR _ _ _ _,λa _ b g=>g⟩
 | lookup T x y ok=>exact(MO h).mono (by simp[dd,Op.operands])
 | slice T x lo hi mx=>
  cases mx with
  | none=>exact(K9 h).mono (by cases lo<;>cases hi<;>simp[dd,Op.operands,otm])
  | some m=>
   cases lo with
   | some _=>exact h.elim
   | none=>
    cases hi with
    | none=>exact h.elim
    | some y=>exact(Hb h).mono (by simp +contextual [dd,Op.operands])
 | field T x f=>exact(Ks h).mono (by simp[dd,Op.operands])
 | convert T1 N x=>exact(Nj h).mono (by simp[dd,Op.operands])
 | makeFunc fn fs O=>
  simp only[dn]at h;split at h
  ·rename_i f Y
   obtain⟨l,g,J⟩:=rC h;refine⟨_,g,λd hd=>.inl ?_,λa _ b Z=>?_⟩
   ·simp only[AV.uses,Y3]at hd
    obtain⟨c,Q,he⟩:=hd;have:=Z1 he;subst this;simp only[dd,Op.operands,List.mem_flatMap];refine⟨.tmp c,?_,by simp[tm]⟩;have p:Operand.tmp c∈O.toList:=by rw[J];exact C4.2 ⟨c,Q,rfl⟩
    simpa using .inr (by simpa using p)
   simp only[dn,Y];rw[J];exact EU l Z
  exact h.elim
 | call c=>
  obtain⟨callee,args,ts⟩:=c;simp only[dn]at h;split at h
  ·rename_i f
   exact(MZ h).mono (by simp +contextual [dd,Op.operands,Call.operands,tms])
  ·exact(Ku h).mono (λt A=>by
     rcases List.mem_cons.1 A with rfl|A
     · simp[dd,Op.operands,Call.operands,tm]
     simp only[tms,List.mem_flatMap]at A;obtain⟨x,w,hx2⟩:=A;simp only[dd,Op.operands,Call.operands,List.mem_flatMap];exact⟨x,by simp_all,hx2⟩)
  ·split at h
   ·rename_i x T w L
    have H:args = #[x]:=by apply Array.ext';simpa using w
    have e2:ts = #[T]:=by apply Array.ext';simpa using L
    subst H e2;exact(Qc h).mono (by simp[dd,Op.operands,Call.operands])
   exact h.elim
  ·split at h
   ·rename_i x y T N w L
    have H:args = #[x,y]:=by apply Array.ext';simpa using w
    have e2:ts = #[T,N]:=by apply Array.ext';simpa using L
    subst H e2;cases q:Nat.beq T N with
    | false=>rw[q]at h;exact h.elim
    | true=>
     rw[q]at h;obtain⟨B,C,D,E⟩:=(LT h).mono (ts':=dd (.call ⟨.builtin .append,#[x,y],#[T,N]⟩)) (by simp[dd,Op.operands,Call.operands]);exact⟨B,C,D,λa j b g=>by simp only[dn,q,cond_true];exact E a j b g⟩
   exact h.elim
  ·split at h
   ·rename_i x y w
    have H:args = #[x,y]:=by apply Array.ext';simpa using w
    subst H;exact(LS h).mono (by simp[dd,Op.operands,Call.operands])
   exact h.elim
  ·split at h
   ·rename_i x y w
    have H:args = #[x,y]:=by apply Array.ext';simpa using w
    subst H;exact(LS h).mono (by simp[dd,Op.operands,Call.operands])
   exact h.elim
  exact h.elim
 | _=>exact h.elim
end
def dc(o:Oper)(i:Nat):Bool:=o.after.toList.any λe=>Region.binds .any e&&Nat.beq e.on i
def cX(ops:Array Oper)(i:Nat):Oper:=ops.getD i default
def below(n:Nat)(p:Nat->Bool):Bool:=(List.range n).all p
def tV(ops:Array Oper)(i j:Nat):Bool:=match(cX ops i).dst with|some d=>((cX ops j).looksAt ops).any (Nat.beq d)|none=>false
def Fc:List Nat->Nat
 | []=>0
 | k::a=>2 ^ k ||| Fc a
def ons(o:Oper):List Nat:=(o.after.toList.filter λe=>Region.binds .any e).map (·.on)
def frc{α:Type}(n:Nat)(K:Nat->α):α:=match n with|0=>K 0|n+1=>K (n+1)
theorem Mv{α:Type}(n:Nat)(K:Nat->α):frc n K=K n:=by cases n<;>rfl
def clo(ops:Array Oper):Nat->Nat->Nat
 | 0,S=>S
 | k+1,S=>bif S.testBit k then frc (S ||| Fc (ons (cX ops k))) (clo ops k) else clo ops k S
def Bq(ops:Array Oper)(m:Nat):Bool:=
 below ops.size λj=>((cX ops j).after.toList.all λe=>!Region.binds .any e || Nat.blt e.on j) &&
  (bif Nat.blt j m then below m (λi=>Nat.beq i j || ((dc (cX ops j) i || dc (cX ops i) j || (cX ops i).apart ops (cX ops j))&&(!tV ops i j || dc (cX ops j) i))) else frc (clo ops j (Fc (ons (cX ops j)))) λS=>below j λi=>S.testBit i)
def yF:List (Nat × Nat × List Nat)->Nat->Option (Nat × List Nat)
 | [],_=>none
 | p::l,id=>bif Nat.beq id p.1 then some p.2 else yF l id
def gL(P:Program)(TE:Nat->Option TI)(N:fC)(ops:Array Oper)(o:Oper)(K:(Nat->AV)->Prop)(F:Nat->AV):Prop:=
 fQ F ops o.guard (λF=>match o.dst with|some d=>dn P TE F o.op λa=>bQ N F d a K|none=>False)
  (λF=>match o.dst with|some d=>bQ N F d (.H (.tup []) []) K|none=>False)
def nH:Op->Option (Option Nat × Nat)
 | .buildSlice T 1 ps=>(match ps.toList with|[(0,.tmp s)]=>some (some T,s)|_=>none)
 | .move (.tmp s)=>some (none,s)
 | _=>none
def own1(T:Option Nat)(k:Kd)(cs:List C):Bool:=match T with
 | some _=>(match k with
   | .one=>(match cs with|[c]=>eg c|_=>false)
   | .agg=>(match cs with|[c]=>eg c|_=>false)
   | _=>false)
 | none=>(match k with|.tup _=>!aY cs|_=>false)
def Rb(TE:Nat->Option TI)(N:fC)(F:Nat->AV)(d:Nat)(T:Option Nat)(s:Nat)(K:(Nat->AV)->Prop):Prop:=match T with
 | some T=>gh TE N F d T 1 [(0,.tmp s)] K
 | none=>iU N F d (.tmp s) K
def GQ(F:Nat->AV)(o:Oper):Option (Option Nat × Nat):=
 match o.guard with
 | some _=>none
 | none=>match nH o.op with
  | none=>none
  | some p=>match F p.2 with
   | .H k cs=>bif own1 p.1 k cs then some p else none
   | .dead=>none
   | .ref ..=>none
   | .c2 ..=>none
   | .iref ..=>none
   | .fn ..=>none
   | .fv _=>none
def jr(ops:Array Oper)(o:Oper)(s:Nat):Bool:=
 ((List.range ops.size).any λk=>dc o k&&(match(cX ops k).dst with|some a=>Nat.beq a s|none=>false))&&Nat.ble (ops.toList.filter λk=>(k.looksAt ops).any (Nat.beq s)).length 1
def oy(ds:List Nat)(o:Oper):Bool:=match o.dst with|some d=>ds.any (Nat.beq d)|none=>false
def twk:List Nat->List Nat
 | []=>[]
 | e::l=>bif Nat.ble 1000 e then(e - 1000)::twk l else []
def dec:List Nat->List (Nat × List Nat)
 | []=>[]
 | e::l=>bif Nat.ble 1000 e then dec l else(e,twk l)::dec l
def Qu:Op->Bool
 | .move (.tmp _)=>true
 | .assign _=>true
 | .extract ..=>true
 | .build ..=>true
 | .buildSlice ..=>true
 | .store ..=>true
 | .load ..=>true
 | .fieldAddr ..=>true
 | .field ..=>true
 | .binOp ..=>true
 | .unOp ..=>true
 | .call c=>(p7 c).isSome
 | _=>false
def pd:Op->Bool
 | .call c=>(match c.callee with|.value (.func _)=>true|_=>false)
 | _=>false
def qi(l:List (Nat × List Nat))(i:Nat):Bool:=l.any λp=>Nat.beq p.1 i
def vD(ops:Array Oper)(j i:Nat):Bool:=(clo ops j (Fc (ons (cX ops j)))).testBit i
def Ry(o:Oper):Bool:=match o.guard with|none=>true|some _=>false
def RG(sch:List (Nat × List Nat))(i:Nat):Bool:=sch.any λp=>Nat.beq p.1 i&&!p.2.isEmpty
def R1(ops:Array Oper)(a b:Oper)(nm:Bool):Bool:=match b.dst with
 | none=>false
 | some c=>Ry a&&(Qu a.op || pd a.op)&&!(match a.dst with|some d=>Nat.beq d c|none=>false)&&!(a.looksAt ops).any (Nat.beq c)&&Ry b&&!(b.looksAt ops).any (Nat.beq c)&&(nm || match nH b.op with|none=>true|some p=>!jr ops b p.2)
def A7(ops:Array Oper)(ds:List Nat)(nm:Nat->Bool)(i j:Nat):Bool:=
 bif oy ds (cX ops j) then(bif oy ds (cX ops i) then(dc (cX ops j) i || dc (cX ops i) j || (cX ops i).apart ops (cX ops j))&&(!tV ops i j || dc (cX ops j) i)&&!(match(cX ops i).dst with|some d=>(match(cX ops j).dst with|some e=>Nat.beq d e|none=>false)|none=>false) else true)
 else(bif oy ds (cX ops i) then(vD ops j i || vD ops i j || R1 ops (cX ops j) (cX ops i) (nm i))&&(!tV ops i j || dc (cX ops j) i) else true)
def EV(ops:Array Oper)(ds:List Nat):List (Nat × List Nat)->Bool
 | []=>true
 | k::l=>Nat.blt k.1 ops.size&&!qi l k.1&&((cX ops k.1).after.toList.all λe=>!Region.binds .any e || !(Nat.beq k.1 e.on || qi l e.on)) &&
  (oy ds (cX ops k.1) || ((l.all λj=>vD ops j.1 k.1)&&(below ops.size λp=>!oy ds (cX ops p) || qi l p || vD ops k.1 p || k.2.any (Nat.beq p))&&(!(l.any λj=>oy ds (cX ops j.1)) || (Ry (cX ops k.1)&&(Qu (cX ops k.1).op || pd (cX ops k.1).op)))))&&EV ops ds l
def B4(ops:Array Oper)(ds:List Nat)(sch:List (Nat × List Nat)):Bool:=
 (below ops.size λj=>((cX ops j).after.toList.all λe=>!Region.binds .any e || Nat.blt e.on j)&&qi sch j&&(!oy ds (cX ops j) || (match nH (cX ops j).op with|none=>true|some p=>!jr ops (cX ops j) p.2 || ds.any (Nat.beq p.2)))&&below ops.size λi=>Nat.beq i j || A7 ops ds (RG sch) i j)&&Nat.beq sch.length ops.size&&EV ops ds sch
def nQ(tb:List (Nat × Nat × List Nat))(id:Nat)(ops:Array Oper):Bool:=
 match yF tb id with
 | some (m,ds)=>bif Nat.ble 65536 m then true else bif Nat.ble 256 m then B4 ops (ds.take (m - 256)) (dec (ds.drop (m - 256))) else(Nat.ble m ops.size&&below m λj=>match(cX ops j).dst with|some d=>ds.any (Nat.beq d)|none=>true)&&Bq ops m
 | none=>false
def lz(P:Program)(TE:Nat->Option TI)(N:fC)(ops:Array Oper)(o:Oper)(K:(Nat->AV)->Prop)(F:Nat->AV):Prop:=
 match GQ F o with
 | some p=>(match o.dst with|some d=>bif jr ops o p.2 then Rb TE N F d p.1 p.2 K else False|none=>False)
 | none=>gL P TE N ops o K F
def L1(P:Program)(TE:Nat->Option TI)(N:fC)(ops:Array Oper):Nat->List Oper->((Nat->AV)->Prop)->(Nat->AV)->Prop
 | 0,l,K,F=>JB P TE N ops l K F
 | _+1,[],K,F=>K F
 | m+1,o::l,K,F=>lz P TE N ops o (L1 P TE N ops m l K) F
def Pc(ds:List Nat)(t:Nat):Bool:=ds.any (Nat.beq t)
def RN(ds:List Nat):AV->AV
 | .ref t off st=>bif Pc ds t then .dead else .ref t off st
 | .c2 t off st ag=>bif Pc ds t then .dead else .c2 t off st ag
 | .fn f caps=>bif caps.any (Pc ds) then .dead else .fn f caps
 | .H k cs=>.H k cs
 | .iref r off=>.iref r off
 | .fv Ok=>.fv Ok
 | .dead=>.dead
def clr(ds:List Nat)(F:Nat->AV):Nat->AV:=λt=>RN ds (F t)
theorem BF(ds:List Nat)(F:Nat->AV)(t:Nat):clr ds F t=bif ds.any (λd=>(F t).uses d) then .dead else F t:=by
 unfold clr;cases F t with
 | dead=>cases ds.any λd=>AV.uses d .dead<;>rfl
 | H k i=>
  have:ds.any (λd=>(AV.H k i).uses d)=false:=by
   rw[<-C5,Y3]
   rintro⟨d,_,h⟩
   cases h
  rw[this];rfl
 | iref r a=>
  have:ds.any (λd=>(AV.iref r a).uses d)=false:=by
   rw[<-C5,Y3]
   rintro⟨d,_,h⟩
   cases h
  rw[this];rfl
 | fv Ok=>
  have:ds.any (λd=>(AV.fv Ok).uses d)=false:=by
   rw[<-C5,Y3]
   rintro⟨d,_,h⟩
   cases h
  rw[this];rfl
 | ref j a l=>rfl
 | c2 j a l n=>rfl
 | fn f caps=>
  have:ds.any (λd=>(AV.fn f caps).uses d)=caps.any (Pc ds):=by
   rw[V4,Y3,Y3];constructor
   ·rintro⟨d,b,h⟩
    simp only[AV.uses,Y3]at h;obtain⟨c,e,g⟩:=h;exact⟨c,e,Y3.2 ⟨d,b,g⟩⟩
   rintro⟨c,e,h⟩
   obtain⟨d,b,g⟩:=Y3.1 h;exact⟨d,b,by simp only[AV.uses,Y3];exact⟨c,e,g⟩⟩
  rw[this];rfl
inductive Sm(a b:AV)(K:Prop):Prop
 |mk_ (h:a=b/\K)
theorem Sm.rf{a:AV}{K:Prop}(h:K):Sm a a K:=.mk_ ⟨rfl,h⟩
theorem CB:type_of% @Sm.rf:=@Sm.rf
theorem Sm.out{a b:AV}{K:Prop}(h:Sm a b K):a=b/\K:=h.1
def Ro(P:Program)(TE:Nat->Option TI)(ops:Array Oper)(p:Nat)(K:Prop)(F:Nat->AV):Prop:=
 match(cX ops p).dst with
 | none=>False
 | some d=>(match GQ F (cX ops p) with
   | some _=>False
   | none=>dn P TE F (cX ops p).op λa=>Sm a (F d) K)
def N1(P:Program)(TE:Nat->Option TI)(ops:Array Oper):List Nat->Prop->(Nat->AV)->Prop
 | [],K,_=>K
 | p::l,K,F=>Ro P TE ops p (N1 P TE ops l K F) F
def L2(P:Program)(TE:Nat->Option TI)(N:fC)(ops:Array Oper)(nm:Bool)(o:Oper)(K:(Nat->AV)->Prop)(F:Nat->AV):Prop:=
 match nm with
 | false=>lz P TE N ops o K F
 | true=>(match GQ F o with
   | some _=>False
   | none=>gL P TE N ops o K F)
def Ki(P:Program)(TE:Nat->Option TI)(N:fC)(ops:Array Oper)(ds:List Nat)(nm:Nat->Bool):List (Nat × List Nat)->((Nat->AV)->Prop)->(Nat->AV)->Prop
 | [],K,F=>K F
 | k::l,K,F=>bif oy ds (cX ops k.1) then L2 P TE N ops (nm k.1) (cX ops k.1) (Ki P TE N ops ds nm l K) F else iN P TE N ops (cX ops k.1) (λa=>N1 P TE ops k.2 (Ki P TE N ops ds nm l K a) a) F
def PZ:List Nat->(List Nat->Prop)->Prop
 | [],K=>K []
 | a::l,K=>PZ l λb=>K (a::b)
theorem HC:∀(l:List Nat)(K:List Nat->Prop),PZ l K=K l
 | [],_=>rfl
 | a::l,K=>by rw[PZ,HC l]
def BI(l:List Nat)(j:Nat):Bool:=l.any (Nat.beq j)
def Nq(ops:Array Oper)(done:List Nat):List Nat:=(List.range ops.size).filter λj=>!BI done j&&((cX ops j).after.toList.all λe=>!Region.binds .any e || BI done e.on)
def RR(p:Nat->Prop):Nat->List Nat->Prop
 | i,[]=>p i
 | i,j::l=>p i/\RR p j l
def RW(l:List Nat)(K:Prop)(p:Nat->Prop):Prop:=match l with
 | []=>K
 | i::l=>RR p i l
def QQ(P:Program)(TE:Nat->Option TI)(N:fC)(ops:Array Oper)(K:(Nat->AV)->Prop):Nat->List Nat->(Nat->AV)->Prop
 | 0,done,F=>RW (Nq ops done) (K F) λ_=>False
 | n+1,done,F=>RW (Nq ops done) (K F) λi=>iN P TE N ops (cX ops i) (QQ P TE N ops K n (i::done)) F
def DD(P:Program)(TE:Nat->Option TI)(N:fC)(tb:List (Nat × Nat × List Nat))(id:Nat)(ops:Array Oper)(K:(Nat->AV)->Prop)(F:Nat->AV):Prop:=
 match yF tb id with
 | some (m,ds)=>bif Nat.ble 65536 m then QQ P TE N ops K ops.size [] F else bif Nat.ble 256 m then PZ (ds.take (m - 256)) λa=>Ki P TE N ops a (RG (dec (ds.drop (m - 256)))) (dec (ds.drop (m - 256))) K (clr a F) else L1 P TE N ops m ops.toList K (clr ds F)
 | none=>False
theorem gJ{n:Nat}{p:Nat->Bool}(h:below n p=true){i:Nat}(a:i<n):p i=true:=Z3.1 h i (List.mem_range.2 a)
theorem cr{o:Oper}{i:Nat} : dc o i=true↔∃e,e∈o.after/\Region.binds .any e=true/\e.on=i:=by
 unfold dc;rw[Y3];constructor
 ·rintro⟨e,b,a⟩
  simp only[I0]at a;exact⟨e,by simpa using b,a.1,Z1 a.2⟩
 rintro⟨e,b,a,rfl⟩
 exact⟨e,by simpa using b,by rw[a,Nat.beq_refl];rfl⟩
theorem aZ{ops:Array Oper}{i:Nat}{o:Oper}(h:ops[i]? = some o):cX ops i=o:=by simp[cX,I6,h]
section
variable{P:Program}{w0 w w1:World}{M S0 S:ah}{N:fC}{φ:Nat->ah}{F:Nat->AV}{a:Act}{TE:Nat->Option TI}{ops:Array Oper}
theorem uh{d:Nat}{b:Bool}(a:F d=.H .one [.v (.bool b)]):E6 F d b=F:=by
 funext t
 unfold E6;cases c:Nat.beq t d with
 | true=>have:=Z1 c;subst this;rw[a];rfl
 | false=>rfl
theorem gg(o:Oper)(t:Nat)(h:t∈dd o.op):t∈o.looksAt ops:=by
 unfold Oper.looksAt;refine List.mem_append_left _ ?_;unfold dd at h;obtain⟨x,b,a⟩:=List.mem_flatMap.1 h;refine List.mem_filterMap.2 ⟨x,b,?_⟩;cases x with
 | tmp c=>simp[tm]at a;subst a;rfl
 | _=>simp[tm]at a
structure Tl(P:Program)(TE:Nat->Option TI)(N:fC)(ops:Array Oper)(o:Oper)(F:Nat->AV)(d:Nat)(av:AV):Prop where
 dst:o.dst=some d
 lt:N.free d=true
 self:av.uses d=false
 from_:eE F (o.looksAt ops) av
 at_:∀F':Nat->AV,jq F F' (o.looksAt ops)->∀K':(Nat->AV)->Prop,K' (put F' d av)->gL P TE N ops o K' F'
theorem jq.refl(F:Nat->AV)(ts:List Nat):jq F F ts:=λ_ _=>⟨rfl,λ_ _ _ _ h=>h⟩
theorem wS{o:Oper}{K:(Nat->AV)->Prop}(h:gL P TE N ops o K F):∃d av,Tl P TE N ops o F d av/\K (put F d av):=by
 cases i:o.dst with
 | none=>
  exfalso;unfold gL at h;rw[i]at h;unfold fQ at h;cases q:o.guard with
  | none=>rw[q]at h;exact h
  | some p=>
   obtain⟨j,want⟩:=p;rw[q]at h;simp only at h;cases A:(ops[j]?).bind (·.dst) with
   | none=>rw[A]at h;exact h
   | some D=>
    rw[A]at h;simp only at h;split at h
    ·rename_i b _
     replace h:=Bf.out h;cases b<;>cases want<;>exact h
    ·exact h
    exact h
 | some d=>
  have put1:∀{a:Nat->AV}{av:AV}{c:(Nat->AV)->Prop},N.free d=true->av.uses d=false->c (put a d av)->bQ N a d av c:=λB C H=>by unfold bQ;rw[B,C];exact H
  have put2:∀{a:Nat->AV}{av:AV}{c:(Nat->AV)->Prop},bQ N a d av c->N.free d=true/\av.uses d=false/\c (put a d av):=fun {a av c} n=>by
   unfold bQ at n;cases E:(N.free d&&!av.uses d) with
   | false=>rw[E]at n;exact n.elim
   | true=>
    rw[E]at n;simp only[I0,Bool.not_eq_true']at E;exact⟨E.1,E.2,n⟩
  have pure1:dn P TE F o.op (λav=>bQ N F d av K)->∃av,N.free d=true/\av.uses d=false/\K (put F d av)/\eE F (o.looksAt ops) av/\∀a:Nat->AV,jq F a (o.looksAt ops)->∀c:(Nat->AV)->Prop,c (put a d av)->dn P TE a o.op (λav=>bQ N a d av c):=λn=>by
   obtain⟨av,B,C,H⟩:=jY n;obtain⟨k,l,r⟩:=put2 B;refine⟨av,k,l,r,C.mono λt J=>gg o t J,λa f c u=>?_⟩;exact H a (f.mono λt J=>gg o t J) _ (put1 k l u)
  unfold gL at h;rw[i]at h;unfold fQ at h;cases q:o.guard with
  | none=>
   rw[q]at h;obtain⟨av,k,l,r,L,M⟩:=pure1 h;exact⟨d,av,⟨i,k,l,L,λa f c u=>by unfold gL fQ;rw[q,i];exact M a f c u⟩,r⟩
  | some p=>
   obtain⟨j,want⟩:=p;rw[q]at h;simp only at h;cases A:(ops[j]?).bind (·.dst) with
   | none=>rw[A]at h;exact h.elim
   | some D=>
    rw[A]at h;simp only at h;have G:D∈o.looksAt ops:=by
     unfold Oper.looksAt;rw[q];simp only[A,Option.toList_some];simp
    split at h
    case h_3=>exact h.elim
    case h_2=>
     rename_i Q R w;obtain⟨k,l,r⟩:=put2 h;refine⟨d,.H (.tup []) [],⟨i,k,l,(λd i=>by cases i),λa f c u=>?_⟩,r⟩;unfold gL fQ;rw[q,i];simp only;rw[A];simp only;rw[(f D G).1.trans w];exact put1 k l u
    rename_i b w;have same:∀{a:Nat->AV},jq F a (o.looksAt ops)->a D=.H .one [.v (.bool b)]:=λf=>(f D G).1.trans w
    have back:∀{a:Nat->AV}{c:(Nat->AV)->Prop},jq F a (o.looksAt ops)->(b=want->dn P TE a o.op (λav=>bQ N a d av c))->(b = !want->bQ N a d (.H (.tup []) []) c)->gL P TE N ops o c a:=fun {a c} f B C=>by
     unfold gL fQ;rw[q,i];simp only;rw[A];simp only;rw[same f];simp only;refine Bf.P (λO=>?_) (λO=>?_)
     ·subst O
      rw[uh (same f)];cases want with
      | true=>exact B rfl
      | false=>exact C rfl
     subst O;rw[uh (same f)];cases want with
     | true=>exact C rfl
     | false=>exact B rfl
    have g:=uh w;replace h:=Bf.out h;by_cases y:b=want
    ·have n:dn P TE F o.op (λav=>bQ N F d av K):=by
      subst y;cases b with
      | true=>have:=h;rw[g]at this;exact this
      | false=>have:=h;rw[g]at this;exact this
     obtain⟨av,k,l,r,L,M⟩:=pure1 n;exact⟨d,av,⟨i,k,l,L,λa f c u=>back f (λ_=>M a f c u) (λe=>by subst y;cases b<;>cases e)⟩,r⟩
    have n:bQ N F d (.H (.tup []) []) K:=by
     cases b<;>cases want<;>first|exact absurd rfl y|skip
     ·have:=h;rw[g]at this;exact this
     have:=h;rw[g]at this;exact this
    obtain⟨k,l,r⟩:=put2 n;exact⟨d,.H (.tup []) [],⟨i,k,l,(λd i=>by cases i),λa f c u=>back f (λe=>absurd e y) (λ_=>put1 k l u)⟩,r⟩
def aft:AV->AV
 | .H k a=>.H k (splice a 0 (List.replicate a.length .x))
 | _=>.H .one [.x]
theorem LX(v:AV)(e:Nat):(aft v).uses e=false:=by unfold aft;split<;>rfl
def eff(a:Option Nat)(d:Nat)(av:AV)(F:Nat->AV):Nat->AV:=λt=>if t=d then av else if a=some t then aft (F t) else F t
theorem BR{d:Nat}(av:AV)(a:∀t,(F t).uses d=false):put F d av=eff none d av F:=by
 funext t
 unfold eff;by_cases h:t=d
 ·subst h;rw[mN,C9 rfl]
 rw[gT _ _ h,C8 h,C8 (λe=>by cases e),Ar,a t];rfl
theorem Q8{s:Nat}{v:AV}(h:v.uses s=false):t6 s v=v:=by
 cases v with
 | c2 t a b c=>simp only[AV.uses]at h;simp[t6,h]
 | ref t a b=>simp only[AV.uses]at h;cases b<;>simp[t6,h]
 | _=>rfl
theorem N8{d s:Nat}{k:Kd}{cs:List C}(av:AV)(b:F s=.H k cs)(c:∀t,(F t).uses d=false)(f:∀t,(F t).uses s=false):put (updH F s k (splice cs 0 (List.replicate cs.length .x))) d av=eff (some s) d av F:=by
 funext t
 unfold eff;by_cases h:t=d
 ·subst h;rw[mN,C9 rfl]
 rw[gT _ _ h,C8 h];by_cases a:t=s
 ·subst a;rw[gR,C9 rfl,b];rfl
 rw[C8 (λe=>a (by simpa using e.symm))];unfold updH;rw[show Nat.beq t s=false by rw[<-C5,Nat.beq_eq];exact a];simp only[cond_false];rw[Q8 (f t),Ar,c t];rfl
theorem Hs{d T s:Nat}{k:Kd}{c:C}{K:(Nat->AV)->Prop}(n:k=.one\/k=.agg)(o:F s=.H k [c])(p:eg c=true)(h:gh TE N F d T 1 [(0,.tmp s)] K) :
  ∃av,N.free d=true/\(∀e,av.uses e=false)/\K (put (updH F s k [.x]) d av)/\∀(F':Nat->AV)(K':(Nat->AV)->Prop),F' s=.H k [c]->K' (put (updH F' s k [.x]) d av)->gh TE N F' d T 1 [(0,.tmp s)] K':=by
 have key:∀F':Nat->AV,F' s=.H k [c]->∀K':(Nat->AV)->Prop,gh TE N F' d T 1 [(0,.tmp s)] K'=HY TE T λ_ a=>bif Nat.ble (1*a.size) 16777216 then(bif Nat.beq 1 a.size&&Nat.ble (0*a.size+a.size) (rep a.zero 1).length then bQ N (updH F' s k [.x]) d (.H .one [.s .own (chunk a.size 1 (splice (rep a.zero 1) (0*a.size) [c]))]) K' else False) else False:=by
  intro F' g K';unfold gh
  congr 1
  funext e a
  rcases n with rfl|rfl<;>simp only[dm,fillW,RY,vw,mT,g,i7,aY,p,cond_true,cond_false,hB,oR,List.length_singleton,List.replicate]
  all_goals rfl
 rw[key F o]at h;obtain⟨e,a,b,l⟩:=jI h;cases f:Nat.ble (1*a.size) 16777216 with
 | false=>rw[f]at b;exact b.elim
 | true=>
  cases i:(Nat.beq 1 a.size&&Nat.ble (0*a.size+a.size) (rep a.zero 1).length) with
  | false=>rw[f,i]at b;exact b.elim
  | true=>
   rw[f,i]at b;simp only[cond_true]at b;unfold bQ at b;cases j:N.free d with
   | false=>rw[j]at b;exact b.elim
   | true=>
    rw[j]at b;refine⟨_,rfl,λ_=>rfl,b,λF' K' g q=>?_⟩;rw[key F' g];refine l _ ?_;simp only[f,i,cond_true];unfold bQ;rw[j];exact q
theorem QJ{d s:Nat}{T:Option Nat}{k:Kd}{cs:List C}{K:(Nat->AV)->Prop}(j:F s=.H k cs)(a:own1 T k cs=true)(h:Rb TE N F d T s K) :
  ∃av,N.free d=true/\(∀e,av.uses e=false)/\K (put (updH F s k (splice cs 0 (List.replicate cs.length .x))) d av)/\∀(F':Nat->AV)(K':(Nat->AV)->Prop),F' s=.H k cs->K' (put (updH F' s k (splice cs 0 (List.replicate cs.length .x))) d av)->Rb TE N F' d T s K':=by
 cases T with
 | some T=>
  have i:(k=.one\/k=.agg)/\∃c,cs=[c]/\eg c=true:=by
   unfold own1 at a;cases k with
   | one=>match cs,a with|[c],a=>exact⟨.inl rfl,c,rfl,a⟩
   | agg=>match cs,a with|[c],a=>exact⟨.inr rfl,c,rfl,a⟩
   | _=>cases a
  obtain⟨l,c,rfl,n⟩:=i;exact Hs l j n h
 | none=>
  have i:∃b,k=.tup b/\aY cs=false:=by
   unfold own1 at a;cases k with
   | tup b=>exact⟨b,rfl,by simpa using a⟩
   | _=>cases a
  obtain⟨b,rfl,o⟩:=i;have key:∀F':Nat->AV,F' s=.H (.tup b) cs->∀K',Rb TE N F' d none s K'=bQ N (updH F' s (.tup b) (splice cs 0 (List.replicate cs.length .x))) d (.H (.tup b) cs) K':=λF' f K'=>by
   simp only[Rb,iU,f,o,cond_false]
  rw[key F j]at h;unfold bQ at h;cases g:N.free d with
  | false=>rw[g]at h;exact h.elim
  | true=>
   rw[g]at h;refine⟨_,rfl,λ_=>rfl,h,λF' K' f p=>?_⟩;rw[key F' f];unfold bQ;rw[g];exact p
structure Yl(P:Program)(TE:Nat->Option TI)(N:fC)(ops:Array Oper)(o:Oper)(F:Nat->AV)(mv:Option Nat)(d:Nat)(av:AV):Prop where
 dst:o.dst=some d
 lt:N.free d=true
 self:av.uses d=false
 from_:eE F (o.looksAt ops) av
 mvl:∀s,mv=some s->o.guard=none/\(∃T,nH o.op=some (T,s))/\jr ops o s=true
 at_:∀F':Nat->AV,jq F F' (o.looksAt ops)->(∀t,(F' t).uses d=false)->(∀s,mv=some s->∀t,(F' t).uses s=false)->∀K':(Nat->AV)->Prop,K' (eff mv d av F')->lz P TE N ops o K' F'
theorem J3{o:Op}{T:Option Nat}{s:Nat}(h:nH o=some (T,s)):(∃a ps,T=some a/\o=.buildSlice a 1 ps/\ps.toList=[(0,.tmp s)])\/(T=none/\o=.move (.tmp s)):=by
 unfold nH at h;split at h
 ·split at h
  ·rename_i a ps c b
   simp only[X0,Prod.mk.injEq]at h;obtain⟨rfl,rfl⟩:=h;exact .inl ⟨_,_,rfl,rfl,b⟩
  cases h
 ·simp only[X0,Prod.mk.injEq]at h
  obtain⟨rfl,rfl⟩:=h;exact .inr ⟨rfl,rfl⟩
 cases h
theorem db{o:Oper}{T:Option Nat}{s:Nat}(h:nH o.op=some (T,s)):s∈o.looksAt ops:=by
 refine gg o s ?_;unfold dd;refine List.mem_flatMap.2 ⟨.tmp s,?_,by simp[tm]⟩;rcases J3 h with⟨d,b,-,a,c⟩|⟨-,a⟩
 ·rw[a]
  simp only[Op.operands];have:b = #[(0,.tmp s)]:=Array.ext' (by rw[c]);subst this;simp
 rw[a];simp[Op.operands]
theorem ES{o:Oper}{p:Option Nat × Nat}(h:GQ F o=some p):o.guard=none/\nH o.op=some p/\∃k cs,F p.2=.H k cs/\own1 p.1 k cs=true:=by
 unfold GQ at h;split at h
 ·cases h
 rename_i b;split at h
 ·cases h
 rename_i c d;split at h
 case h_1=>
  rename_i k cs e;cases a:own1 c.1 k cs with
  | false=>rw[a]at h;cases h
  | true=>
   rw[a]at h;simp only[cond_true,X0]at h;subst h;exact⟨b,d,_,_,e,a⟩
 all_goals cases h
theorem vX{F':Nat->AV}{o:Oper}(a:jq F F' (o.looksAt ops)):GQ F' o=GQ F o:=by
 unfold GQ;cases c:o.guard with
 | some _=>rfl
 | none=>
  cases b:nH o.op with
  | none=>rfl
  | some p=>simp only;rw[(a p.2 (db b)).1]
theorem tc{o:Oper}{K:(Nat->AV)->Prop}(e:GQ F o=none)(h:gL P TE N ops o K F)(f:∀d,o.dst=some d->∀t,(F t).uses d=false):∃d av,Yl P TE N ops o F none d av/\K (eff none d av F):=by
 obtain⟨d,av,a,g⟩:=wS h;refine⟨d,av,⟨a.dst,a.lt,a.self,a.from_,λs i=>(by cases i),λj c k _ l b=>?_⟩,by rw[<-BR av (f d a.dst)];exact g⟩;unfold lz;rw[vX c,e];exact a.at_ j c l (by rw[BR av k];exact b)
theorem pJ{o:Oper}{K:(Nat->AV)->Prop}(h:lz P TE N ops o K F)(w:∀d,o.dst=some d->∀t,(F t).uses d=false)(i:∀T s,o.guard=none->nH o.op=some (T,s)->jr ops o s=true->∀t,(F t).uses s=false) :
  ∃y d av,Yl P TE N ops o F y d av/\K (eff y d av F):=by
 unfold lz at h;cases c:GQ F o with
 | none=>
  rw[c]at h;obtain⟨d,av,l⟩:=tc c h w;exact⟨none,d,av,l⟩
 | some p=>
  rw[c]at h;obtain⟨A,b,k,J,j,f⟩:=ES c;simp only at h;cases g:o.dst with
  | none=>rw[g]at h;exact h.elim
  | some d=>
   rw[g]at h;simp only at h;cases a:jr ops o p.2 with
   | false=>rw[a]at h;exact h.elim
   | true=>
    rw[a]at h;simp only[cond_true]at h;obtain⟨av,l,B,D,E⟩:=QJ j f h;refine⟨some p.2,d,av,⟨g,l,B d,λe C=>(by rw[B e]at C;cases C),λs i=>?_,λG n q r H u=>?_⟩,?_⟩
    ·simp only[X0]at i
     subst i;exact⟨A,⟨p.1,b⟩,a⟩
    ·unfold lz
     rw[vX n,c];simp only;rw[g];simp only;rw[a];refine E G H ((n p.2 (db b)).1.trans j) ?_;rw[N8 av ((n p.2 (db b)).1.trans j) q (r p.2 rfl)];exact u
    rw[<-N8 av j (w d g) (i p.1 p.2 A b a)];exact D
theorem J9{nm:Bool}{o:Oper}{K:(Nat->AV)->Prop}(h:L2 P TE N ops nm o K F)(g:∀d,o.dst=some d->∀t,(F t).uses d=false)(i:∀T s,o.guard=none->nH o.op=some (T,s)->jr ops o s=true->∀t,(F t).uses s=false) :
  ∃a d av,Yl P TE N ops o F a d av/\K (eff a d av F)/\(nm=true->a=none):=by
 unfold L2 at h;cases nm with
 | false=>
  obtain⟨a,d,av,b,c⟩:=pJ h g i;exact⟨a,d,av,b,c,λe=>(by cases e)⟩
 | true=>
  cases f:GQ F o with
  | some p=>simp only[f]at h
  | none=>
   simp only[f]at h;obtain⟨d,av,b,c⟩:=tc f h g;exact⟨none,d,av,b,c,λ_=>rfl⟩
end
section
variable{P:Program}{w0 w w1:World}{M S0 S:ah}{N:fC}{φ:Nat->ah}{F:Nat->AV}{a:Act}{TE:Nat->Option TI}{ops:Array Oper}
def y3(P:Program)(TE:Nat->Option TI)(N:fC)(ops:Array Oper)(m i:Nat)(K:(Nat->AV)->Prop)(F:Nat->AV):Prop:=
 match ops[i]? with
 | none=>K F
 | some o=>if i<m then lz P TE N ops o K F else iN P TE N ops o K F
def Hn(P:Program)(TE:Nat->Option TI)(N:fC)(ops:Array Oper)(m:Nat)(K:(Nat->AV)->Prop):Nat->Array Bool->(Nat->AV)->Prop
 | 0,listed,F=>Region.ready .any ops listed=[]/\K F
 | fuel+1,listed,F=>(Region.ready .any ops listed=[]->K F)/\∀i,i∈Region.ready .any ops listed->y3 P TE N ops m i (Hn P TE N ops m K fuel (listed.setIfInBounds i true)) F
theorem bj.oneP0(h:bj w0 M S0 N S φ F a w)(g:∀t i,TE t=some i->bP P t i){o:Oper}{K:(Nat->AV)->Prop}(b:gL P TE N ops o K F){Kc:Act->World->Prop}{Q:Exit->Act->World->Prop}(n:∀F' p f,K F'->St w0 M S0 N F' p f->Kc p f) :
  if Region.wanted o (yielded ops a.tmps) then o.wp P a w Kc Q else Kc (a.put o.dst undef) w:=by
 unfold gL at b;rcases yr h b with⟨j,b⟩|⟨j,b⟩
 ·rw[j,C9 rfl]
  cases e:o.dst with
  | none=>rw[e]at b;exact b.elim
  | some d=>
   rw[e]at b;obtain⟨av,k,q⟩:=h.pure_ g b;refine q Kc Q λv f r=>?_
   obtain⟨F',l,c⟩:=h.putD_new r k;rw[e];exact n F' _ f l c
 rw[j,C8 (by simp)];cases e:o.dst with
 | none=>rw[e]at b;exact b.elim
 | some d=>
  rw[e]at b;obtain⟨F',k,c⟩:=h.putD_new (v:=undef) (lL.same (av:=.H (.tup []) []) Mq) b;exact n F' _ w k c
theorem Kh{o:Oper}{p:Option Nat × Nat}{d:Nat}{K:(Nat->AV)->Prop}(f:GQ F o=some p)(c:o.dst=some d)(h:Rb TE N F d p.1 p.2 K):iN P TE N ops o K F:=by
 obtain⟨e,a,-⟩:=ES f;obtain⟨T,s⟩:=p;rcases J3 a with⟨i,j,rfl,b,g⟩|⟨rfl,b⟩
 ·unfold iN fQ
  rw[e];simp only;rw[b];simp only[D0];rw[c];simp only[mX,g];exact h
 unfold iN fQ;rw[e];simp only;rw[b];simp only[D0];rw[c];simp only[mX];exact h
theorem bj.oneP(h:bj w0 M S0 N S φ F a w)(c:∀t i,TE t=some i->bP P t i){o:Oper}{K:(Nat->AV)->Prop}(b:lz P TE N ops o K F){Kc:Act->World->Prop}{Q:Exit->Act->World->Prop}(j:∀F' k l,K F'->St w0 M S0 N F' k l->Kc k l) :
  if Region.wanted o (yielded ops a.tmps) then o.wp P a w Kc Q else Kc (a.put o.dst undef) w:=by
 unfold lz at b;cases g:GQ F o with
 | none=>rw[g]at b;exact h.oneP0 c b j
 | some p=>
  rw[g]at b;simp only at b;cases f:o.dst with
  | none=>rw[f]at b;exact b.elim
  | some d=>
   rw[f]at b;simp only at b;cases e:jr ops o p.2 with
   | false=>rw[e]at b;exact b.elim
   | true=>
    rw[e]at b;have:=h.one c (Kh (P:=P) (ops:=ops) g f b) (Q:=Q) j;rw[f]at this;exact this
theorem GE(c:∀t i,TE t=some i->bP P t i){m i:Nat}{K:(Nat->AV)->Prop}(b:y3 P TE N ops m i K F)(f:St w0 M S0 N F a w){Kc:Act->World->Prop}{Q:Exit->Act->World->Prop}(d:∀F' g j,K F'->St w0 M S0 N F' g j->Kc g j):wpOp P ops Q i Kc a w:=by
 unfold y3 at b;unfold wpOp;cases k:ops[i]? with
 | none=>rw[k]at b;exact d F a w b f
 | some o=>
  rw[k]at b;simp only at b |-;obtain⟨S,φ,h⟩:=f;have:if Region.wanted o (yielded ops a.tmps) then o.wp P a w Kc Q else Kc (a.put o.dst undef) w:=by
   split at b
   ·exact h.oneP c b d
   exact h.one c b d
  split
  ·rename_i e;rw[C9 e]at this;exact .inl this
  rename_i e;rw[C8 e]at this;exact this
theorem AO(b:∀t i,TE t=some i->bP P t i){m:Nat}{K:(Nat->AV)->Prop}{Q:Exit->Act->World->Prop}(g:∀F' d e,K F'->St w0 M S0 N F' d e->Q .normal d e) :
  ∀(fuel:Nat)(listed:Array Bool)(F:Nat->AV)(a:Act)(w:World),Hn P TE N ops m K fuel listed F->St w0 M S0 N F a w->wpAny P .any ops Q fuel listed a w
 | 0,_,F,a,w,c,f=>⟨c.1,g F a w c.2 f⟩
 | fuel+1,_,F,a,w,c,f=>⟨λj=>g F a w (c.1 j) f,λi k=>GE b (c.2 i k) f λF' d e l h=>AO b g fuel _ F' d e l h⟩
structure AP(ops:Array Oper)(m:Nat)(F:Nat->AV)(listed:Array Bool):Prop where
 dst:∀j o d,j<m->ops[j]? = some o->listed.getD j true=false->o.dst=some d->∀t,(F t).uses d=false
 mv:∀j o T s,j<m->ops[j]? = some o->listed.getD j true=false->o.guard=none->nH o.op=some (T,s)->jr ops o s=true->∀t,(F t).uses s=false
def DC(ops:Array Oper)(listed:Array Bool):Prop:=∀j a,ops[j]? = some a->listed.getD j false=true->∀k,dc a k=true->listed.getD k false=true
theorem PD{d e:Nat}{v:AV}(h:(kl d v).uses e=true):v.uses e=true/\v.uses d=false:=by
 rw[Ar]at h;cases a:v.uses d with
 | true=>rw[a]at h;cases h
 | false=>rw[a]at h;exact⟨h,rfl⟩
theorem xj{α:Type}{p:α->Bool} : ∀{l:List α}{i j:Nat}{x y:α},(l.filter p).length<=1->l[i]? = some x->l[j]? = some y->p x=true->p y=true->i=j
 | [],_,_,_,_,_,h,_,_,_=>by simp at h
 | a::l,0,0,_,_,_,_,_,_,_=>rfl
 | a::l,i+1,j+1,x,y,h,b,c,d,e=>by
  rw[xj (l:=l) (W4 (List.Sublist.length_le ((List.sublist_cons_self a l).filter p)) h) b c d e]
 | a::l,0,j+1,x,y,h,b,c,d,e=>by
  simp only[List.getElem?_cons_zero,X0]at b;subst b;rw[List.filter_cons_of_pos d]at h;have:y∈l.filter p:=I4.2 ⟨W1 c,e⟩;have:=List.length_pos_of_mem this;rw[List.length_cons]at h;omega
 | a::l,i+1,0,x,y,h,b,c,d,e=>by
  simp only[List.getElem?_cons_zero,X0]at c;subst c;rw[List.filter_cons_of_pos e]at h;have:x∈l.filter p:=I4.2 ⟨W1 b,d⟩;have:=List.length_pos_of_mem this;rw[List.length_cons]at h;omega
theorem iF{listed:Array Bool}{j a:Nat}(c:(listed.setIfInBounds j true).getD a true=false):a≠j:=λe=>by
 subst e;have b:a<listed.size:=by
  rcases Nat.lt_or_ge a listed.size with h|h
  ·exact h
  simp[I6,Array.getElem?_eq_none (show(listed.setIfInBounds a true).size<=a by simpa using h)]at c
 simp[I6,b]at c
theorem jP{b:Option Nat}{d e t:Nat}{av:AV}(a:av.uses e=false)(c:(F t).uses e=false):(eff b d av F t).uses e=false:=by
 unfold eff;split
 ·exact a
 split
 ·exact LX _ _
 exact c
theorem AP.put{m j d:Nat}{r:Option Nat}{listed:Array Bool}{av:AV}(h:AP ops m F listed)(o:∀a b g,a<m->a≠j->ops[a]? = some b->listed.getD a true=false->b.dst=some g->av.uses g=false)(p:∀a b T s,a<m->a≠j->ops[a]? = some b->listed.getD a true=false->b.guard=none->nH b.op=some (T,s)->jr ops b s=true->av.uses s=false) :
  AP ops m (eff r d av F) (listed.setIfInBounds j true):=by
 refine⟨λa b g i c f k t=>?_,λa b T s i c f q l n t=>?_⟩
 ·have e:=iF f
  rw[getD_set_ne true (Ne.symm e)]at f;exact jP (o a b g i e c f k) (h.dst a b g i c f k t)
 have e:=iF f;rw[getD_set_ne true (Ne.symm e)]at f;exact jP (p a b T s i e c f q l n) (h.mv a b T s i c f q l n t)
inductive oh(ops:Array Oper):Nat->Nat->Prop
 |one {j i:Nat} (h:dc (cX ops j) i=true):oh ops j i
 |step {j k i:Nat} (h:dc (cX ops j) k=true) (h2:oh ops k i):oh ops j i
theorem oh.trans{i j k:Nat}(h:oh ops j k)(a:oh ops k i):oh ops j i:=by
 induction h with
 | one h=>exact .step h a
 | step h _ b=>exact .step h (b a)
theorem Ef{i:Nat} : ∀{a:List Nat},(Fc a).testBit i=true->i∈a
 | [],h=>by simp[Fc]at h
 | k::a,h=>by
  rw[Fc,Nat.testBit_or,Y5]at h;rcases h with h|h
  ·rw[Nat.testBit_two_pow]at h
   rw[C0]at h;rw[h];exact V1
  exact z5 _ (Ef h)
theorem yl{o:Oper}{i:Nat}(h:(Fc (ons o)).testBit i=true):dc o i=true:=by
 have:=Ef h;unfold ons at this;obtain⟨e,a,rfl⟩:=C4.1 this;rw[I4]at a;exact cr.2 ⟨e,by simpa using a.1,a.2,rfl⟩
theorem rW{j:Nat} : ∀(k S:Nat),(∀i,S.testBit i=true->oh ops j i)->∀i,(clo ops k S).testBit i=true->oh ops j i
 | 0,_,h,i,a=>h i a
 | k+1,S,h,i,a=>by
  rw[clo,Mv]at a;cases c:S.testBit k with
  | false=>rw[c]at a;exact rW k S h i a
  | true=>
   rw[c]at a;refine rW k _ (λe b=>?_) i a;rw[Nat.testBit_or,Y5]at b;rcases b with d|d
   ·exact h e d
   exact(h k c).trans (.one (yl d))
theorem nq{listed:Array Bool}(d:DC ops listed)(b:∀j o,ops[j]? = some o->∀e∈o.after,Region.binds .any e=true->e.on<j){j i:Nat}(p:oh ops j i):j<ops.size->(∀k,dc (cX ops j) k=true->listed.getD k false=true)->listed.getD i false=true:=by
 induction p with
 | one h=>exact λ_ f=>f _ h
 | @step j k i h h2 ih=>
  intro g f;have r:k<j:=by
   have c:=(show ops[j]? = some ops[j] from Z5 g)
   rw[aZ c]at h;obtain⟨e,l,n,rfl⟩:=cr.1 h;exact b j _ c e l n
  have a:k<ops.size:=ω
  have c:=(show ops[k]? = some ops[k] from Z5 a)
  exact ih a λq a=>d k _ c (f k h) q (by rw[aZ c]at a;exact a)
theorem DC.put{listed:Array Bool}(h:DC ops listed){j:Nat}(n:j∈Region.ready .any ops listed):DC ops (listed.setIfInBounds j true):=by
 obtain⟨p,q,d,a⟩:=mem_ready.1 n;intro k ok c i e l;by_cases b:k=j
 ·subst b
  rw[d]at c;simp only[X0]at c;subst c;obtain⟨o,f,g,rfl⟩:=cr.1 l;exact getD_set_true (a o f g)
 rw[getD_set_ne false (Ne.symm b)]at i;exact getD_set_true (h k ok c i e l)
theorem gr{o:Oper}{s:Nat}(h:jr ops o s=true):(∃k ok,dc o k=true/\ops[k]? = some ok/\ok.dst=some s)/\∀(i j:Nat)(b c:Oper),ops[i]? = some b->ops[j]? = some c->s∈b.looksAt ops->s∈c.looksAt ops->i=j:=by
 unfold jr at h;rw[I0]at h;obtain⟨w,y⟩:=h;constructor
 ·obtain⟨k,A,g⟩:=Y3.1 w
  have n:=List.mem_range.1 A;have t:=(show ops[k]? = some ops[k] from Z5 n)
  rw[I0,aZ t]at g;refine⟨k,_,g.1,t,?_⟩;have:=g.2;cases u:ops[k].dst with
  | none=>rw[u]at this;cases this
  | some a=>rw[u]at this;simp only at this;rw[Z1 this]
 intro i j b c B C q r;have d:=C1 y;have e:ops.toList[i]? = some b:=by simpa using B
 have f:ops.toList[j]? = some c:=by simpa using C
 have D:(b.looksAt ops).any (Nat.beq s)=true:=Y3.2 ⟨s,q,Nat.beq_refl s⟩;have E:(c.looksAt ops).any (Nat.beq s)=true:=Y3.2 ⟨s,r,Nat.beq_refl s⟩;generalize ops.toList=l at d e f;exact xj (p:=λk:Oper=>(k.looksAt ops).any (Nat.beq s)) d e f D E
structure RQ(ops:Array Oper)(m:Nat):Prop where
 back:∀j oj,ops[j]? = some oj->∀e∈oj.after,Region.binds .any e=true->e.on<j
 tail:∀j,m<=j->j<ops.size->∀i,i<j->oh ops j i
 apart:∀i j oi oj,i<m->j<m->i≠j->ops[i]? = some oi->ops[j]? = some oj->dc oj i=true\/dc oi j=true\/oi.apart ops oj=true
 look:∀i j oi oj d,i<m->j<m->i≠j->ops[i]? = some oi->ops[j]? = some oj->oi.dst=some d->d∈oj.looksAt ops->dc oj i=true
theorem DZ{m:Nat}(h:Bq ops m=true):RQ ops m:=by
 have n:∀j b,ops[j]? = some b->_:=λj b a=>gJ h (T3.1 a).1
 refine⟨λj b a e t p=>?_,λj A a i l=>?_,λi j u b l a f o k=>?_,λi j u b d l a f o k w y=>?_⟩
 ·have:=n j b a
  rw[aZ a]at this;simp only[I0]at this;have:=Z3.1 this.1 e (by simpa using t);rw[p]at this;simpa[Nat.blt_eq] using this
 ·have q:=(show ops[j]? = some ops[j] from Z5 a)
  have:=n j _ q;simp only[I0]at this;have c:=this.2;rw[show Nat.blt j m=false by rw[<-C5,Nat.blt_eq];omega]at c;simp only[cond_false,Mv]at c;exact rW j _ (λB r=>.one (yl r)) i (gJ c l)
 ·have:=n j b k
  rw[aZ k]at this;simp only[I0]at this;have c:=this.2;rw[show Nat.blt j m=true by simpa[Nat.blt_eq] using a]at c;have g:=gJ c l;rw[aZ o,show Nat.beq i j=false by rw[<-C5,Nat.beq_eq];exact f]at g;simp only[Bool.false_or,I0,Y5]at g;rcases g.1 with(h|h)|h
  ·exact .inl h
  ·exact .inr (.inl h)
  exact .inr (.inr h)
 have:=n j b k;rw[aZ k]at this;simp only[I0]at this;have c:=this.2;rw[show Nat.blt j m=true by simpa[Nat.blt_eq] using a]at c;have g:=gJ c l;rw[aZ o,show Nat.beq i j=false by rw[<-C5,Nat.beq_eq];exact f]at g;simp only[Bool.false_or,I0,Y5]at g;rcases g.2 with h|h
 ·exfalso
  unfold tV at h;rw[aZ o,w]at h;simp only at h;rw[aZ k]at h;have:(b.looksAt ops).any (Nat.beq d)=true:=Y3.2 ⟨d,y,Nat.beq_refl d⟩;rw[this]at h;cases h
 exact h
theorem Kg{m:Nat}(W:RQ ops m){i d:Nat}{o:Oper}{y:Option Nat}{av:AV}{K:(Nat->AV)->Prop}(G:ops[i]? = some o)(r:i<m) :
  ∀(fuel:Nat)(listed:Array Bool)(F:Nat->AV),i∈Region.ready .any ops listed->AP ops m F listed->DC ops listed->Yl P TE N ops o F y d av->Hn P TE N ops m K fuel (listed.setIfInBounds i true) (eff y d av F)->Hn P TE N ops m K (fuel+1) listed F:=by
 have self:∀(listed:Array Bool)(F:Nat->AV),i∈Region.ready .any ops listed->AP ops m F listed->Yl P TE N ops o F y d av->∀K':(Nat->AV)->Prop,K' (eff y d av F)->lz P TE N ops o K' F:=λlisted F D a p K' hK=>by
  have b:=(mem_ready.1 D).1;refine p.at_ F (jq.refl _ _) (a.dst i o d r G b p.dst) (λs hs=>?_) K' hK;obtain⟨A,⟨T,V⟩,h3⟩:=p.mvl s hs;exact a.mv i o T s r G b A V h3
 intro fuel
 induction fuel with
 | zero=>
  intro listed F D a hdc p H;refine⟨λh=>(by rw[h]at D;cases D),λj hj=>?_⟩;by_cases l:j=i
  ·subst l
   unfold y3;rw[G];simp only[C9 r];exact self listed F D a p _ H
  have:=ready_mono hj l;rw[H.1]at this;cases this
 | succ fuel ih=>
  intro listed F D a hdc p H;refine⟨λh=>(by rw[h]at D;cases D),λj hj=>?_⟩;by_cases l:j=i
  ·subst l
   unfold y3;rw[G];simp only[C9 r];exact self listed F D a p _ H
  have A:=H.2 j (ready_mono hj l);obtain⟨J,n,c,hall⟩:=mem_ready.1 hj;have b:=(mem_ready.1 D).1;have unl:∀k,listed.getD k true=false->listed.getD k false=true->False:=λk A V=>by
   rcases Nat.lt_or_ge k listed.size with h'|h'
   ·simp[h']at A V;rw[A]at V;cases V
   simp[Array.getElem?_eq_none h']at V
  have noedge:∀k ok,ops[k]? = some ok->listed.getD k true=false->dc n k=false:=λk ok hk L=>by
   rw[<-C5];intro he;obtain⟨e,M,O,he3⟩:=cr.1 he;exact unl k L (he3 ▸ hall e M O)
  have noedge':∀k ok,ops[k]? = some ok->listed.getD k true=false->dc o k=false:=λk ok hk L=>by
   rw[<-C5];intro he;obtain⟨e,M,O,he3⟩:=cr.1 he;obtain⟨-,oi',Q,hall'⟩:=mem_ready.1 D;rw[G]at Q;simp only[X0]at Q;subst Q;exact unl k L (he3 ▸ hall' e M O)
  have R:j<m:=by
   rcases Nat.lt_or_ge j m with h|h
   ·exact h
   have hjlt:=(T3.1 c).1;refine(unl i b (nq hdc W.back (W.tail j h hjlt i ω) hjlt λk hk=>?_)).elim;rw[aZ c]at hk;obtain⟨e,M,O,rfl⟩:=cr.1 hk;exact hall e M O
  have hap:o.apart ops n=true:=by
   rcases W.apart i j o n r R (Ne.symm l) G c with h|h|h
   ·rw[noedge i o G b]at h;cases h
   ·rw[noedge' j n c J]at h;cases h
   exact h
  obtain⟨ap1,ap2,ap3⟩:=Oper.apart_spec hap;unfold y3 at A |-;rw[c]at A |-;simp only[C9 R]at A |-;have hdl:d∉n.looksAt ops:=ap1 d p.dst;have cd:∀t,(F t).uses d=false:=a.dst i o d r G b p.dst
  have cdj':∀f,n.dst=some f->∀t,(F t).uses f=false:=λf S=>a.dst j n f R c J S
  have cmv:∀s,y=some s->(∀t,(F t).uses s=false)/\s∉n.looksAt ops/\s∈o.looksAt ops:=λs hs=>by
   obtain⟨U,⟨T,q⟩,E⟩:=p.mvl s hs;exact⟨a.mv i o T s r G b U q E,λhl=>l ((gr E).2 i j o n G c (db q) hl).symm,db q⟩
  have cmvj:∀T s,n.guard=none->nH n.op=some (T,s)->jr ops n s=true->(∀t,(F t).uses s=false)/\s∉o.looksAt ops/\s∈n.looksAt ops:=λT s U q E=>
   ⟨a.mv j n T s R c J U q E,λhl=>l ((gr E).2 i j o n G c hl (db q)).symm,db q⟩
  have avno:∀e,e∉o.looksAt ops->(∀t,(F t).uses e=false)->av.uses e=false:=λe A V=>by
   cases w:av.uses e with
   | false=>rfl
   | true=>
    rcases p.from_ e w with h|⟨t,_,h⟩
    ·exact absurd h A
    rw[V t]at h;cases h
  obtain⟨mvj,f,avj,B,hKj⟩:=pJ A (λf S t=>jP (avno f (ap3 f S) (cdj' f S)) (cdj' f S t)) (λT s U q E t=>by
    obtain⟨c1,c2,-⟩:=cmvj T s U q E;exact jP (avno s c2 c1) (c1 t))
  have hdne:d≠f:=λe=>ap2 d p.dst (by rw[B.dst,e])
  have hdjl:f∉o.looksAt ops:=ap3 f B.dst;have cdj:∀t,(F t).uses f=false:=cdj' f B.dst
  have cmj:∀s,mvj=some s->(∀t,(F t).uses s=false)/\s∉o.looksAt ops/\s∈n.looksAt ops:=λs hs=>by
   obtain⟨U,⟨T,q⟩,E⟩:=B.mvl s hs;exact cmvj T s U q E
  have lookj:∀t,t∈n.looksAt ops->eff y d av F t=F t:=λt u=>by
   unfold eff;have X:t≠d:=λe=>hdl (e ▸ u)
   have e2:y≠some t:=λe=>(cmv t e).2.1 u
   rw[C8 X,C8 e2]
  have looki:∀t,t∈o.looksAt ops->eff mvj f avj F t=F t:=λt u=>by
   unfold eff;have X:t≠f:=λe=>hdjl (e ▸ u)
   have e2:mvj≠some t:=λe=>(cmj t e).2.1 u
   rw[C8 X,C8 e2]
  have avjno:∀e,e∉n.looksAt ops->(∀t,(F t).uses e=false)->avj.uses e=false:=λe A V=>by
   cases w:avj.uses e with
   | false=>rfl
   | true=>
    rcases B.from_ e w with h|⟨t,u,h⟩
    ·exact absurd h A
    rw[lookj t u,V t]at h;cases h
  have agrj:jq (eff y d av F) F (n.looksAt ops):=λt u=>by
   rw[lookj t u];refine⟨rfl,λt' w k cs hh=>?_⟩;have g:t'≠d:=λe=>by rw[e,cd t]at w;cases w
   have hnm:y≠some t':=λe=>by rw[(cmv t' e).1 t]at w;cases w
   unfold eff at hh;rw[C8 g,C8 hnm]at hh;exact hh
  refine B.at_ F agrj cdj (λs hs=>(cmj s hs).1) _ (ih (listed.setIfInBounds j true) (eff mvj f avj F) (ready_mono D (Ne.symm l)) (a.put (λj' o' d' Y g C Z hd'=>?_) (λj' o' T s Y g C Z U q E=>?_)) (hdc.put hj) ?_ ?_)
  ·refine avjno d' (λh=>?_) (a.dst j' o' d' Y C Z hd')
   have:=W.look j' j o' n d' Y R g C c hd' h;rw[noedge j' o' C Z]at this;cases this
  ·exact avjno s (λh=>g ((gr E).2 j' j o' n C c (db q) h)) (a.mv j' o' T s Y C Z U q E)
  ·refine⟨p.dst,p.lt,p.self,λe he=>?_,p.mvl,λF' hA hd' hs' K' hK=>p.at_ F' (λt u=>?_) hd' hs' K' hK⟩
   ·rcases p.from_ e he with h|⟨t,u,h⟩
    ·exact .inl h
    exact .inr ⟨t,u,by rw[looki t u];exact h⟩
   obtain⟨a1,a2⟩:=hA t u;rw[looki t u]at a1 a2;refine⟨a1,λt' w k cs hh=>a2 t' w k cs ?_⟩;have g:t'≠f:=λe=>by rw[e,cdj t]at w;cases w
   have hnm:mvj≠some t':=λe=>by rw[(cmj t' e).1 t]at w;cases w
   unfold eff;rw[C8 g,C8 hnm];exact hh
  rw[Array.setIfInBounds_comm _ _ l];have:eff y d av (eff mvj f avj F)=eff mvj f avj (eff y d av F):=by
   funext t
   unfold eff;by_cases X:t=d
   ·have U:t≠f:=λe=>hdne (X.symm.trans e)
    have q:mvj≠some t:=λe=>hdl (X ▸ (cmj t e).2.2)
    simp only[C9 X,C8 U,C8 q]
   rw[C8 X];by_cases e2:t=f
   ·have q:y≠some t:=λe=>hdjl (e2 ▸ (cmv t e).2.2)
    simp only[C9 e2,C8 q]
   simp only[C8 e2,C8 X];by_cases e3:y=some t
   ·by_cases e4:mvj=some t
    ·simp only[C9 e3,C9 e4]
    simp only[C9 e3,C8 e4]
   by_cases e4:mvj=some t
   ·simp only[C8 e3,C9 e4]
   simp only[C8 e3,C8 e4]
  rw[this];exact hKj
theorem uP{o:Op}{K K':AV->Prop}(h:dn P TE F o K)(a:∀av,K av->K' av):dn P TE F o K':=by
 obtain⟨av,b,-,c⟩:=jY h;exact c F (jq.refl _ _) K' (a av b)
theorem bw{d:Nat}{av:AV}{K K':(Nat->AV)->Prop}(h:bQ N F d av K)(b:∀F',K F'->K' F'):bQ N F d av K':=by
 unfold bQ at h |-;cases a:(N.free d&&!av.uses d) with
 | false=>rw[a]at h;exact h.elim
 | true=>rw[a]at h;exact b _ h
theorem gq{y:Operand}{K K':(Nat->AV)->Option Nat->List C->Prop}(h:hB F y K)(b:∀F' ag cs,K F' ag cs->K' F' ag cs):hB F y K':=by
 cases y with
 | tmp t=>
  simp only[hB]at h |-;cases c:F t with
  | H k cs=>
   rw[c]at h;cases k with
   | one=>exact b _ _ _ h
   | agg=>exact b _ _ _ h
   | _=>exact h.elim
  | c2 e d f ag=>
   rw[c]at h;cases f with
   | cons s f=>
    simp only at h |-;cases a:F e with
    | H k cs=>
     rw[a]at h;obtain⟨r,j,i,l,n,o⟩:=Lq.out h;exact .mk_ ⟨r,j,_,_,i,l,n,rfl,rfl,b _ _ _ o⟩
    | _=>rw[a]at h;exact h.elim
   | nil=>
    simp only at h |-;cases a:F e with
    | H k cs=>
     rw[a]at h;simp only at h |-;cases g:Nat.ble (d+ag.getD 1) cs.length with
     | false=>rw[g]at h;exact h.elim
     | true=>rw[g]at h;exact b _ _ _ h
    | _=>rw[a]at h;exact h.elim
  | _=>rw[c]at h;exact h.elim
 | _=>exact h.elim
theorem AS{x:Operand}{K K':AV->Prop}(h:br F x K)(a:∀av,K av->K' av):br F x K':=by
 obtain⟨av,b,-,c⟩:=jT h;exact c F (jq.refl _ _) K' (a av b)
theorem Fx{d:Nat}{x:Operand}{K K':(Nat->AV)->Prop}(h:kB N F d x K)(n:∀F',K F'->K' F'):kB N F d x K':=by
 have a:∀y,br F y (λj=>bQ N F d j K)->br F y (λj=>bQ N F d j K'):=λy h=>AS h λj h=>bw h n
 have l:∀y,hB F y (λF' i c=>bQ N F' d (.H (lK i) c) K)->hB F y (λF' i c=>bQ N F' d (.H (lK i) c) K'):=λy h=>gq h λF' i c h=>bw h n
 cases x with
 | tmp t=>
  unfold kB at h |-;simp only at h |-;cases e:F t with
  | H k c=>
   rw[e]at h;cases k with
   | one=>
    simp only at h |-;cases b:aY c with
    | true=>rw[b]at h;exact a (.tmp t) h
    | false=>rw[b]at h;exact l (.tmp t) h
   | agg=>
    simp only at h |-;cases b:aY c with
    | true=>rw[b]at h;exact a (.tmp t) h
    | false=>rw[b]at h;exact l (.tmp t) h
   | tup p=>exact a _ h
   | box=>exact a _ h
  | c2 q o r i=>
   rw[e]at h;simp only at h |-;cases b:N.al d with
   | true=>rw[b]at h;exact a (.tmp t) h
   | false=>rw[b]at h;exact l (.tmp t) h
  | dead=>rw[e]at h;exact a _ h
  | ref=>rw[e]at h;exact a _ h
  | iref=>rw[e]at h;exact a _ h
  | fn=>rw[e]at h;exact a _ h
  | fv=>rw[e]at h;exact a _ h
 | const v=>exact a (.const v) h
 | global g=>exact a (.global g) h
 | func f=>exact a (.func f) h
theorem Ni{d:Nat}{x:Operand}{K K':(Nat->AV)->Prop}(h:Dq N F d x K)(b:∀F',K F'->K' F'):Dq N F d x K':=by
 unfold Dq at h |-;cases a:Kq N d x with
 | true=>rw[a]at h;exact bw h b
 | false=>
 rw[a]at h;simp only[cond_false]at h |-;unfold J4 at h |-;cases c:BQ N F d x with
 | none=>rw[c]at h;exact Fx h b
 | some p=>rw[c]at h;exact bw h b
theorem u6{x:Operand}{cs:List C}{K K':(Nat->AV)->Prop}(h:qA F x cs K)(d:∀F',K F'->K' F'):qA F x cs K':=by
 cases x with
 | tmp t=>
  simp only[qA]at h |-;cases e:F t with
  | H k c=>
   rw[e]at h;cases k with
   | box=>
    simp only at h |-;cases b:Nat.ble cs.length c.length with
    | false=>rw[b]at h;exact h.elim
    | true=>rw[b]at h;simp only[cond_true,dm]at h |-;exact d _ h
   | _=>exact h.elim
  | ref g f i=>
   rw[e]at h;cases i with
   | cons s i=>
    simp only at h |-;cases a:F g with
    | H k c=>
     rw[a]at h;obtain⟨r,j,l,n,o,p⟩:=Pu.out h;exact Pu.mk l n o rfl (d _ p)
    | _=>rw[a]at h;exact h.elim
   | nil=>
    simp only at h |-;cases a:F g with
    | H k c=>
     rw[a]at h;cases k with
     | box=>
      simp only at h |-;cases b:Nat.ble (f+cs.length) c.length with
      | false=>rw[b]at h;exact h.elim
      | true=>rw[b]at h;simp only[cond_true,dm]at h |-;exact d _ h
     | _=>exact h.elim
    | _=>rw[a]at h;exact h.elim
  | _=>rw[e]at h;exact h.elim
 | _=>exact h.elim
theorem y2{T:Nat}{x y:Operand}{K K':(Nat->AV)->Prop}(h:mi TE F T x y K)(d:∀F',K F'->K' F'):mi TE F T x y K':=by
 unfold mi at h |-;split at h
 ·rename_i i l
  obtain⟨n,e,a,j⟩:=cw h;refine j F (jq.refl _ _) _ ?_;cases f:Nat.beq e.length i.size with
  | false=>rw[f]at a;exact a.elim
  | true=>
   rw[f]at a;simp only[cond_true]at a |-;cases g:aY e with
   | true=>rw[g]at a;exact u6 a d
   | false=>
    rw[g]at a;simp only[cond_false]at a |-;refine gq a λF' k c h=>?_
    cases b:Nat.beq c.length i.size with
    | false=>rw[b]at h;exact h.elim
    | true=>rw[b]at h;exact u6 h d
 exact h.elim
theorem G5{g:Option (Nat × Bool)}{a c K1' K0':(Nat->AV)->Prop}(h:fQ F ops g a c)(h1:∀F,a F->K1' F)(e:∀F,c F->K0' F):fQ F ops g K1' K0':=by
 unfold fQ at h |-;split at h
 ·exact h1 _ h
 rename_i j want;split at h
 ·rename_i d f
  split at h
  ·rename_i b i
   replace h:=Bf.out h;cases b<;>cases want<;>first|exact .in_ (h1 _ h)|exact .in_ (e _ h)
  ·exact e _ h
  exact h.elim
 exact h.elim
theorem uE{x:Operand}{K K':(Nat->AV)->Option Nat->List C->Prop}(h:vw F x K)(b:∀F' ag cs,K F' ag cs->K' F' ag cs):vw F x K':=by
 obtain⟨ag,cs,a,d⟩:=cw h;refine d F (jq.refl _ _) _ ?_;cases c:aY cs with
 | true=>rw[c]at a;exact b _ _ _ a
 | false=>rw[c]at a;exact gq a b
theorem j7{b:Nat->Option (Nat × Nat)} : ∀{parts:List (Nat × Operand)}{cs:List C}{K K':(Nat->AV)->List C->Prop}{F:Nat->AV},fillW b parts cs K F->(∀F' cs,K F' cs->K' F' cs)->fillW b parts cs K' F
 | [],cs,K,K',F,h,a=>a _ _ h
 | p::rest,cs,K,K',F,h,a=>by
  simp only[fillW]at h |-;split at h
  case h_2=>exact h.elim
  rename_i q d;refine uE h λF' e xs h=>?_
  cases c:(Nat.beq xs.length q.2&&Nat.ble (q.1+q.2) cs.length) with
  | false=>rw[c]at h;exact h.elim
  | true=>
   rw[c]at h;simp only[cond_true,dm]at h |-;exact j7 h a
theorem DM{d T:Nat}{parts:List (Nat × Operand)}{K K':(Nat->AV)->Prop}(h:kK TE N F d T parts K)(b:∀F',K F'->K' F'):kK TE N F d T parts K':=by
 unfold kK at h |-;split at h
 case h_2=>exact h.elim
 rename_i size bytes zero flds c;cases a:xn TE flds with
 | false=>rw[a]at h;exact h.elim
 | true=>rw[a]at h;exact j7 h λF' e h=>bw h b
theorem BE{d T n:Nat}{parts:List (Nat × Operand)}{K K':(Nat->AV)->Prop}(h:gh TE N F d T n parts K)(a:∀F',K F'->K' F'):gh TE N F d T n parts K':=by
 obtain⟨e,c,h,f⟩:=jI h;refine f _ ?_;cases b:Nat.ble (n*c.size) 16777216 with
 | false=>rw[b]at h;exact h.elim
 | true=>
  rw[b]at h;simp only[cond_true]at h |-;split at h
  ·exact bw h a
  ·rw[dm]at h |-
   refine j7 h λF' g h=>?_
   rw[oR]at h |-;exact bw h a
  exact h.elim
theorem Fs{y:Operand}{K K':Bool->(Nat->AV)->List (List C)->Prop}(h:Bp F y K)(a:∀b F' xr,K b F' xr->K' b F' xr):Bp F y K':=by
 unfold Bp at h |-;split at h
 ·refine gq h λF' c d h=>?_
  match c,d,h with
  | none,[.s .own rows],h=>exact a _ _ _ h
 obtain⟨c,d,e,f⟩:=cw h;refine f F (jq.refl _ _) _ ?_
 match c,d,e with
 | none,[.s o rows],h=>exact a _ _ _ h
 | none,[.z],h=>exact a _ _ _ h
theorem AB{x:Operand}{K K':(Nat->AV)->List (List C)->Prop}(h:Ai F x K)(c:∀F' xr,K F' xr->K' F' xr):Ai F x K':=by
 obtain⟨a,b,d,e⟩:=cw h;refine e F (jq.refl _ _) _ ?_
 match a,b,d with
 | none,[.z],h=>exact c _ _ h
 | none,[.s .own _],h=>
  refine gq h λF' a b h=>?_
  match a,b,h with
  | none,[.s .own rows],h=>exact c _ _ h
theorem KV{d T:Nat}{x y:Operand}{K K':(Nat->AV)->Prop}(h:AK TE N F d T x y K)(c:∀F',K F'->K' F'):AK TE N F d T x y K':=by
 obtain⟨e,o,h,f⟩:=jI h;refine f _ (Fs h λb F' p h=>AB h λF'' a h=>?_);obtain⟨g,i,j,k,l,n⟩:=h.out;exact CT g i j k l rfl (bw n c)
theorem Fw{d T:Nat}{x:Operand}{K K':(Nat->AV)->Prop}(h:pU TE N F d T x K)(a:∀F',K F'->K' F'):pU TE N F d T x K':=by
 unfold pU at h |-;split at h
 case h_2=>exact h.elim
 refine gq h λF' b c h=>?_
 split at h
 ·exact bw h a
 exact h.elim
theorem G3{d:Nat}{x:Operand}{K K':(Nat->AV)->Prop}(h:iU N F d x K)(b:∀F',K F'->K' F'):iU N F d x K':=by
 have std:∀{y:Operand},br F y (λa=>bQ N F d a K)->br F y (λa=>bQ N F d a K'):=λh=>AS h λa h=>bw h b
 cases x with
 | tmp t=>
  simp only[iU]at h |-;split at h
  ·rename_i i e j
   cases c:aY e with
   | true=>rw[c]at h;exact bw h b
   | false=>rw[c]at h;exact bw h b
  all_goals exact std h
 | const v=>simp only[iU]at h |-;exact std h
 | global g=>simp only[iU]at h |-;exact std h
 | func f=>simp only[iU]at h |-;exact std h
theorem Hd{d:Nat}{x:Operand}{K K':(Nat->AV)->Prop}(h:ux N F d x K)(a:∀F',K F'->K' F'):ux N F d x K':=by
 unfold ux at h |-;split at h
 case h_2=>exact h.elim
 split at h
 case h_2=>exact h.elim
 obtain⟨b,c⟩:=h.out;exact Nt.mk (λe=>bw (b e) a) λf k g e=>bw (c f k g e) a
theorem E2{d:Nat}{x:Operand}{K K':(Nat->AV)->Prop}(h:qe N F d x K)(a:∀F',K F'->K' F'):qe N F d x K':=by
 unfold qe at h |-;split at h
 case h_2=>exact h.elim
 split at h
 case h_2=>exact h.elim
 exact bw h a
theorem FG{d:Nat}{b:Op}{K K':(Nat->AV)->Prop}(h:mX P TE N d b K F)(a:∀F',K F'->K' F'):mX P TE N d b K' F:=by
 cases b with
 | assign x=>exact Ni h a
 | box T x=>simp only[mX,N9]at h |-;exact uE h λF' i j h=>bw h a
 | build T f=>exact DM h a
 | buildSlice T n f=>exact BE h a
 | range T x=>exact Fw h a
 | move x=>exact G3 h a
 | next x str=>
  cases str with
  | true=>exact h.elim
  | false=>exact Hd h a
 | entry x=>exact E2 h a
 | call c=>
  simp only[mX]at h |-;cases e:p7 c with
  | none=>rw[e]at h;exact uP h λg h=>bw h a
  | some p=>rw[e]at h;exact KV h a
 | _=>simp only[mX]at h |-;exact uP h λg h=>bw h a
theorem f7{t off n:Nat}{st:cB}{K K':(Nat->AV)->List C->Prop}(h:lendAt F t off st n K)(a:∀F' cs,K F' cs->K' F' cs):lendAt F t off st n K':=by
 unfold lendAt at h |-;split at h
 case h_2=>exact h.elim
 split at h
 ·rename_i k c _ _
  cases b:Nat.ble (off+n) c.length with
  | false=>rw[b]at h;exact h.elim
  | true=>
   rw[b]at h;simp only[cond_true,dm]at h |-;exact a _ _ h
 obtain⟨r,j,d,e,f,g⟩:=Lq.out h;refine .mk_ ?_;exact⟨r,j,_,_,d,e,f,rfl,rfl,a _ _ g⟩
theorem cq:∀{xs:List (Operand × Nat)}{K K':(Nat->AV)->List (MA × rv)->Prop}{F:Nat->AV},lendP xs K F->(∀F' l,K F' l->K' F' l)->lendP xs K' F
 | [],K,K',F,h,a=>a _ _ h
 | (x,0)::xs,K,K',F,h,a=>cq (xs:=xs) h λF' l h=>a _ _ h
 | (x,1)::xs,K,K',F,h,a=>by
  simp only[lendP]at h |-;split at h
  case h_2=>exact h.elim
  split at h
  ·exact f7 h λF' b h=>cq h λF'' l h=>a _ _ h
  ·exact f7 h λF' b h=>cq h λF'' l h=>a _ _ h
  ·exact f7 h λF' b h=>cq h λF'' l h=>a _ _ h
  exact h.elim
 | (x,n+2)::xs,K,K',F,h,a=>by
  simp only[lendP]at h |-;split at h
  case h_2=>exact h.elim
  split at h
  ·split at h
   ·exact cq h λF'' l h=>a _ _ h
   exact h.elim
  ·exact cq h λF'' l h=>a _ _ h
  exact h.elim
theorem j9:∀{l:List (MA × rv)}{xs:List Operand}{K K':Bool->List MA->Prop},valsP F l xs K->(∀b A,K b A->K' b A)->valsP F l xs K'
 | [],[],K,K',h,a=>a _ _ h
 | (m,.no)::l,x::xs,K,K',h,a=>by
  obtain⟨g,d,e,f⟩:=cw h;refine f F (jq.refl _ _) _ (j9 e λb A h=>?_);cases c:aY d with
  | true=>rw[c]at h;exact a _ _ h
  | false=>rw[c]at h;exact a _ _ h
 | (m,.at_ t off st)::l,x::xs,K,K',h,a=>j9 (l:=l) (xs:=xs) h λb A h=>a _ _ h
 | (m,.box t)::l,x::xs,K,K',h,a=>j9 (l:=l) (xs:=xs) h λb A h=>a _ _ h
 | [],_::_,K,K',h,a=>h.elim
 | (m,.no)::l,[],K,K',h,a=>h.elim
 | (m,.at_ t off st)::l,[],K,K',h,a=>h.elim
 | (m,.box t)::l,[],K,K',h,a=>h.elim
theorem dq{K K':(Nat->AV)->Prop}(a:∀F',K F'->K' F'):∀{l:List (MA × rv)}{B:List MA}{F:Nat->AV},gY l B K F->gY l B K' F
 | [],[],F,h=>a _ h
 | [],_::_,F,h=>h.elim
 | (m,.no)::l,[],F,h=>h.elim
 | (m,.at_ t off st)::l,[],F,h=>h.elim
 | (m,.box t)::l,[],F,h=>h.elim
 | (m,.no)::l,.val _ _::B,F,h=>dq a (l:=l) (B:=B) h
 | (m,.no)::l,.mut _ _::B,F,h=>dq a (l:=l) (B:=B) h
 | (m,.no)::l,.ptr _::B,F,h=>dq a (l:=l) (B:=B) h
 | (m,.at_ t off st)::l,.val _ _::B,F,h=>h.elim
 | (m,.at_ t off st)::l,.ptr _::B,F,h=>h.elim
 | (m,.box t)::l,.val _ _::B,F,h=>h.elim
 | (m,.box t)::l,.mut _ _::B,F,h=>h.elim
 | (m,.at_ t off st)::l,.mut ag out::B,F,h=>by
  simp only[gY]at h |-;split at h
  case h_2=>exact h.elim
  split at h
  ·rename_i k c _ _
   cases b:Nat.ble (off+out.length) c.length with
   | false=>rw[b]at h;exact h.elim
   | true=>
    rw[b]at h;simp only[cond_true,dm]at h |-;exact dq a h
  obtain⟨r,j,d,e,f,g⟩:=Pu.out h;exact Pu.mk d e f rfl (dq a g)
 | (m,.box t)::l,.ptr out::B,F,h=>by
  simp only[gY]at h |-;split at h
  ·exact dq a h
  exact h.elim
theorem GC{d:Option Nat}{f:Nat}{args:List Operand}{modes:List Nat}{K K':(Nat->AV)->Prop}(h:l9 P N F d f args modes K)(a:∀F',K F'->K' F'):l9 P N F d f args modes K':=by
 unfold l9 at h |-;refine cq h λF' l h=>?_
 cases c:(vf l&&Nat.beq args.length modes.length) with
 | false=>rw[c]at h;exact h.elim
 | true=>
  rw[c]at h;refine j9 h λb A h=>?_
  obtain⟨j,B,k,rcs,e,g,i⟩:=cH.out h;refine CJ e g (dq (λF'' h=>?_) i);cases d with
  | none=>exact a _ h
  | some d=>exact bw h a
theorem kV{F:Nat->AV}{x:Operand}{K K':Nat->Nat->Prop}(h:zI F x K)(a:∀t o,K t o->K' t o):zI F x K':=by
 obtain⟨s,t,b,rfl,c,d⟩:=tj h;simp only[zI,c];exact a _ _ d
theorem KU{d:Option Nat}{t:Nat}{cs:List C}{c a e b:Nat}{K K':(Nat->AV)->Prop}{k:Kd}{rcs:List C}{B:List MA}(h:yd N F d t cs c a e b K k rcs B)(f:∀F',K F'->K' F'):yd N F d t cs c a e b K' k rcs B:=by
 unfold yd at h |-;split at h
 case h_2=>exact h.elim
 rename_i i j;cases g:(Nat.beq i.length a&&Nat.beq j.length b) with
 | false=>rw[g]at h;exact h.elim
 | true=>
  rw[g]at h;simp only[cond_true,dm]at h |-;cases d with
  | none=>exact f _ h
  | some d=>exact bw h f
theorem Gn{d:Option Nat}{f:Nat}{args:List Operand}{a b:Nat}{K K':(Nat->AV)->Prop}(h:kq P N F d f args a b K)(g:∀F',K F'->K' F'):kq P N F d f args a b K':=by
 unfold kq at h |-;split at h
 case h_2=>exact h.elim
 refine kV h λt i h=>kV h λj c h=>?_
 split at h
 case h_2=>exact h.elim
 rename_i l q;cases e:(Nat.beq j t&&Nat.ble (i+a) c&&Nat.ble (c+b) l.length) with
 | false=>rw[e]at h;exact h.elim
 | true=>
  rw[e]at h;simp only[cond_true,dm]at h |-;obtain⟨r,B,k,rcs,n,o,p⟩:=cH.out h;exact CJ n o (KU p g)
theorem rd{d:Option Nat}{f:Nat}{args:List Operand}{modes:List Nat}{K K':(Nat->AV)->Prop}(h:ku P N F d f args modes K)(b:∀F',K F'->K' F'):ku P N F d f args modes K':=by
 unfold ku at h |-;split
 ·rename_i p a;rw[a]at h;exact Gn h b
 rename_i a;rw[a]at h;exact GC h b
theorem vg{t off:Nat}{z:Int}{v:Value}{K K':(Nat->AV)->Prop}(h:putMap F t off z v K)(d:∀F',K F'->K' F'):putMap F t off z v K':=by
 unfold putMap at h |-;cases a:F t with
 | H k e=>
  rw[a]at h;simp only at h |-;cases b:e[off]? with
  | none=>rw[b]at h;exact h.elim
  | some c=>
   rw[b]at h;cases c with
   | m f=>
    simp only at h |-;have:=h.out;refine Mu.mk rfl ?_;simp only[dm]at this |-;exact d _ this
   | _=>exact h.elim
 | _=>rw[a]at h;exact h.elim
theorem ve{T:Nat}{x y v:Operand}{K K':(Nat->AV)->Prop}(h:nM TE F T x y v K)(b:∀F',K F'->K' F'):nM TE F T x y v K':=by
 unfold nM at h |-;split at h
 case h_2=>exact h.elim
 obtain⟨z,c,d⟩:=jf h;refine d F (jq.refl F _) _ ?_;obtain⟨f,a,e⟩:=jf c;refine e F (jq.refl F _) _ ?_;split at a
 case h_2=>exact a.elim
 split at a
 case h_2=>exact a.elim
 split at a
 ·exact vg a b
 ·exact vg a b
 exact a.elim
theorem jO{o:Oper}{K K':(Nat->AV)->Prop}(h:iN P TE N ops o K F)(a:∀F',K F'->K' F'):iN P TE N ops o K' F:=by
 unfold iN at h |-;refine G5 h (λF h=>?_) (λF h=>?_)
 ·split at h
  ·rename_i p _
   have lt:tn P N F o.dst p.1 p.2.1 p.2.2 K->tn P N F o.dst p.1 p.2.1 p.2.2 K':=λh=>rd h λF' h=>by rw[nL]at h |-;exact a _ h
   cases b:N0 N o.op with
   | false=>rw[b]at h;exact lt h
   | true=>
    rw[b]at h;rcases h with h|h
    ·refine .pl ?_
     unfold ia at h |-;split at h
     ·split at h
      ·exact y2 h a
      ·exact ve h a
      exact h.elim
     exact FG h a
    exact .lt (lt h)
  split at h
  ·split at h
   ·exact y2 h a
   ·exact ve h a
   exact h.elim
  exact FG h a
 split at h
 ·exact a _ h
 exact bw h a
theorem Du{m:Nat}(c:RQ ops m){K:(Nat->AV)->Prop}(hm:m<=ops.size):∀(l:List Oper)(k:Nat)(listed:Array Bool)(F:Nat->AV),(∀j,l[j]? = ops[k+j]?)->listed.size=ops.size->(∀j,j<ops.size->listed.getD j true=decide (j<k))->AP ops m F listed->DC ops listed->
  L1 P TE N ops (m - k) l K F->Hn P TE N ops m K l.length listed F
 | [],k,listed,F,W,X,a,_,_,n=>by
  have M:ops.size<=k:=by
   rcases Nat.lt_or_ge k ops.size with h|h
   ·have:=W 0;simp[h]at this
   exact h
  refine⟨?_,?_⟩
  ·apply List.eq_nil_iff_forall_not_mem.2
   intro j L;obtain⟨y,o,ho,-⟩:=mem_ready.1 L;have A:=(T3.1 ho).1;rw[a j A]at y;simp at y;omega
  cases O:m - k with
  | zero=>rw[O]at n;exact n
  | succ x=>rw[O]at n;exact n
 | o::l,k,listed,F,W,X,a,g,B,n=>by
  have u:ops[k]? = some o:=by simpa using (W 0).symm
  have M:=(T3.1 u).1;have hready:k∈Region.ready .any ops listed:=mem_ready.2 ⟨by rw[a k M];simp,o,u,λe he hb=>by
    have:=c.back k o u e he hb;have y:=a e.on ω;rw[show decide (e.on<k)=true by simpa using this]at y;have Y:e.on<listed.size:=ω
    simp[Y]at y |-;exact y⟩
  have Q:∀j,l[j]? = ops[k+1+j]?:=λj=>by have:=W (j+1);simpa[Nat.add_assoc,Nat.add_comm 1 j] using this
  have f:∀j,j<ops.size->(listed.setIfInBounds k true).getD j true=decide (j<k+1):=λj L=>by
   by_cases C:j=k
   ·subst C;simp[X,L]
   rw[getD_set_ne true (Ne.symm C),a j L];simp only[decide_eq_decide];omega
  show Hn P TE N ops m K (l.length+1) listed F;by_cases p:k<m
  ·have e1:m - k=(m - (k+1))+1:=ω
   rw[e1]at n;obtain⟨mv,d,av,hy,n⟩:=pJ (show lz P TE N ops o (L1 P TE N ops (m - (k+1)) l K) F from n) (λd hd=>g.dst k o d p u (by rw[a k M];simp) hd) (λT s g1 Z g3=>g.mv k o T s p u (by rw[a k M];simp) g1 Z g3);refine Kg c u p l.length listed F hready g B hy (Du c hm l (k+1) _ _ Q (by simpa using X) f (g.put (λw D R i q b hl'' E=>?_) (λw D T s i q b hl'' g1 Z g3=>?_)) (B.put hready) n)
   ·cases hu:av.uses R with
    | false=>rfl
    | true=>
     rcases hy.from_ R hu with h|⟨t,_,h⟩
     ·have:=c.look w k D o R i p q b u E h
      obtain⟨e,G,H,he3⟩:=cr.1 this;have A:=c.back k o u e G H;have hj'lt:=(T3.1 b).1;rw[a w hj'lt]at hl'';simp at hl'';omega
     rw[g.dst w D R i b hl'' E t]at h;cases h
   cases hu:av.uses s with
   | false=>rfl
   | true=>
    rcases hy.from_ s hu with h|⟨t,_,h⟩
    ·exact absurd ((gr g3).2 w k D o b u (db Z) h) q
    rw[g.mv w D T s i b hl'' g1 Z g3 t]at h;cases h
  refine⟨λh=>(by rw[h]at hready;cases hready),λj L=>?_⟩;have C:j=k:=by
   obtain⟨y,oj,S,U⟩:=mem_ready.1 L;have r:=(T3.1 S).1;rw[a j r]at y;simp at y;rcases Nat.lt_or_ge k j with A|hge
   ·exfalso
    have Y:=nq B c.back (c.tail j ω r k A) r λk' V=>by
     rw[aZ S]at V;obtain⟨e,G,H,rfl⟩:=cr.1 V;exact U e G H
    have h3:=a k M;have h4:k<listed.size:=ω
    simp[h4]at Y h3;rw[Y]at h3;cases h3
   omega
  subst C;unfold y3;rw[u];simp only[C8 p];have e0:m - j=0:=ω
  rw[e0]at n;have hp':iN P TE N ops o (JB P TE N ops l K) F:=n;have J:∀F',JB P TE N ops l K F'->Hn P TE N ops m K l.length (listed.setIfInBounds j true) F':=λF' hF'=>
   Du c hm l (j+1) _ F' Q (by simpa using X) f ⟨λw D R i b hl'' E=>by
     have hj'lt:=(T3.1 b).1;rw[f w hj'lt]at hl'';simp at hl'';omega,λw D T s i b hl''=>by
     have hj'lt:=(T3.1 b).1;rw[f w hj'lt]at hl'';simp at hl'';omega⟩ (B.put hready) (by rw[show m - (j+1)=0 by omega];cases l<;>exact hF')
  exact jO hp' J
theorem St.clr(h:St w0 M S0 N F a w)(ds:List Nat):St w0 M S0 N (Ab.clr ds F) a w:=by
 obtain⟨S,φ,h⟩:=h;refine⟨S,φ,λt=>?_,h.dis,h.disS,h.ex,h.sub,h.sup,h.old,h.size,h.defers,h.par⟩;rw[BF];cases e:ds.any (λd=>(F t).uses d) with
 | true=>trivial
 | false=>
  simp only[cond_false];refine(h.slot t).keep (φ:=φ) (λt _ _ _=>h.slot t) (λc _=>⟨λk f b=>?_,rfl,λ_ _ _=>⟨rfl,rfl⟩⟩) (λ_ _ _=>⟨rfl,rfl⟩) (λ_ _ _=>⟨rfl,rfl⟩) (λ_ _ h=>h) (λ_ _ h=>h);rw[BF];have:ds.any (λd=>(F c).uses d)=false:=by
   rw[b]
   induction ds with
   | nil=>rfl
   | cons d ds g=>simp[AV.uses]
  rw[this];exact b
theorem Dn(u:∀t i,TE t=some i->bP P t i)(W:P.follows .mixedOrders=true){id m:Nat}{ds:List Nat}(b:((Nat.ble m ops.size&&below m λj=>match(cX ops j).dst with|some d=>ds.any (Nat.beq d)|none=>true)&&Bq ops m)=true){K:(Nat->AV)->Prop}{Q:Exit->Act->World->Prop}(X:L1 P TE N ops m ops.toList K (Ab.clr ds F))(Y:St w0 M S0 N F a w)(Z:∀F' O R,K F'->St w0 M S0 N F' O R->Q .normal O R):(Code.region id ops true).wp P Q a w:=by
 simp only[I0]at b;obtain⟨⟨l,y⟩,b⟩:=b;have g:m<=ops.size:=C1 l;refine wp_region_any W ?_;have A:St w0 M S0 N (Ab.clr ds F) a {w with drawn:=w.drawn+1}:=by
  have r:=Y.clr ds;obtain⟨S,φ,h⟩:=r;exact⟨S,φ,h.more (w1:={w with drawn:=w.drawn+1}) (λ_ _ h=>h) (λ_ _ h=>.inl h) ⟨rfl,rfl,rfl,z3 _,λ_ _ _=>rfl,λ_ _ _ _=>rfl,λ_ _ _ _=>rfl⟩⟩
 refine AO u (m:=m) Z ops.size (Array.replicate ops.size false) _ a _ ?_ A;have n:∀d,ds.any (Nat.beq d)=true->∀t,(Ab.clr ds F t).uses d=false:=λd p t=>by
  rw[BF];cases U:ds.any (λd=>(F t).uses d) with
  | true=>rfl
  | false=>
   simp only[cond_false];cases hu:(F t).uses d with
   | false=>rfl
   | true=>
    obtain⟨d',B,he⟩:=Y3.1 p;have C:=Z1 he;subst C;have:ds.any (λd=>(F t).uses d)=true:=Y3.2 ⟨_,B,hu⟩;rw[this]at U;cases U
 have c:∀j o d,j<m->ops[j]? = some o->o.dst=some d->ds.any (Nat.beq d)=true:=λj o d f q p=>by
  have r:=gJ y f;rw[aZ q,p]at r;exact r
 have V:=DZ b;have:=Du (P:=P) (TE:=TE) (N:=N) V (K:=K) g ops.toList 0 (Array.replicate ops.size false) (Ab.clr ds F) (by simp) (by simp) (λj f=>by simp[f]) ⟨λj o d f q _ p t=>n d (c j o d f q p) t,λj o T s f q _ _ _ g3 t=>by
   obtain⟨k,ok,D,E,G⟩:=(gr g3).1;obtain⟨e,H,J,rfl⟩:=cr.1 D;have:=V.back j o q e H J;exact n s (c e.on ok s ω E G) t⟩ (λj oj f hl=>by
   have L:=(T3.1 f).1;simp[L]at hl) X
 simpa using this
end
section
variable{P:Program}{w0 w w1:World}{M S0 S:ah}{N:fC}{φ:Nat->ah}{F:Nat->AV}{a:Act}{TE:Nat->Option TI}{ops:Array Oper}{ds:List Nat}{nm:Nat->Bool}
def QH(P:Program)(TE:Nat->Option TI)(ops:Array Oper)(p:Nat)(F:Nat->AV):Prop:=∃d,(cX ops p).dst=some d/\GQ F (cX ops p)=none/\dn P TE F (cX ops p).op λa=>a=F d
def vu(P:Program)(TE:Nat->Option TI)(N:fC)(ops:Array Oper)(ds:List Nat)(listed:Array Bool)(i:Nat)(K:(Nat->AV)->Prop)(F:Nat->AV):Prop:=
 match ops[i]? with
 | none=>K F
 | some o=>if oy ds o=true then lz P TE N ops o K F else iN P TE N ops o (λa=>(∀p,listed.getD p false=true->oy ds (cX ops p)=true->vD ops i p=false->QH P TE ops p a)/\K a) F
def FC(P:Program)(TE:Nat->Option TI)(N:fC)(ops:Array Oper)(ds:List Nat)(K:(Nat->AV)->Prop):Nat->Array Bool->(Nat->AV)->Prop
 | 0,listed,F=>Region.ready .any ops listed=[]/\K F
 | fuel+1,listed,F=>(Region.ready .any ops listed=[]->K F)/\∀i,i∈Region.ready .any ops listed->vu P TE N ops ds listed i (FC P TE N ops ds K fuel (listed.setIfInBounds i true)) F
theorem EX(c:∀t i,TE t=some i->bP P t i){listed:Array Bool}{i:Nat}{K:(Nat->AV)->Prop}(b:vu P TE N ops ds listed i K F)(f:St w0 M S0 N F a w){Kc:Act->World->Prop}{Q:Exit->Act->World->Prop}(d:∀F' g j,K F'->St w0 M S0 N F' g j->Kc g j):wpOp P ops Q i Kc a w:=by
 unfold vu at b;unfold wpOp;cases k:ops[i]? with
 | none=>rw[k]at b;exact d F a w b f
 | some o=>
  rw[k]at b;simp only at b |-;obtain⟨S,φ,h⟩:=f;have:if Region.wanted o (yielded ops a.tmps) then o.wp P a w Kc Q else Kc (a.put o.dst undef) w:=by
   split at b
   ·exact h.oneP c b d
   exact h.one c (jO b λF' h=>h.2) d
  split
  ·rename_i e;rw[C9 e]at this;exact .inl this
  rename_i e;rw[C8 e]at this;exact this
theorem rF(b:∀t i,TE t=some i->bP P t i){K:(Nat->AV)->Prop}{Q:Exit->Act->World->Prop}(g:∀F' d e,K F'->St w0 M S0 N F' d e->Q .normal d e) :
  ∀(fuel:Nat)(listed:Array Bool)(F:Nat->AV)(a:Act)(w:World),FC P TE N ops ds K fuel listed F->St w0 M S0 N F a w->wpAny P .any ops Q fuel listed a w
 | 0,_,F,a,w,c,f=>⟨c.1,g F a w c.2 f⟩
 | fuel+1,_,F,a,w,c,f=>⟨λj=>g F a w (c.1 j) f,λi k=>EX b (c.2 i k) f λF' d e l h=>rF b g fuel _ F' d e l h⟩
def bU(ts:List Nat)(F F1:Nat->AV):Prop:=∀t e,(F1 t).uses e=true->e∈ts\/∃a,(F a).uses e=true
theorem bU.refl(ts:List Nat)(F:Nat->AV):bU ts F F:=λt _ h=>.inr ⟨t,h⟩
theorem bU.trans{ts:List Nat}{F F1 a:Nat->AV}(h1:bU ts F F1)(b:bU ts F1 a):bU ts F a:=λt e h=>by
 rcases b t e h with h|⟨c,h⟩
 ·exact .inl h
 exact h1 c e h
theorem bU.clean{ts:List Nat}{F1:Nat->AV}{d:Nat}(h:bU ts F F1)(a:d∉ts)(b:∀t,(F t).uses d=false):∀t,(F1 t).uses d=false:=λt=>by
 cases c:(F1 t).uses d with
 | false=>rfl
 | true=>
  rcases h t d c with h|⟨e,h⟩
  ·exact absurd h a
  rw[b e]at h;cases h
theorem bU.put{ts:List Nat}{dj:Nat}{av:AV}(h:∀e,av.uses e=true->e∈ts\/∃c,(F c).uses e=true):bU ts F (put F dj av):=λt e a=>by
 by_cases b:t=dj
 ·subst b;rw[mN]at a;exact h e a
 rw[gT _ _ b]at a;exact .inr ⟨t,(PD a).1⟩
theorem LI{t e:Nat}{v:AV}(h:(t6 t v).uses e=true):v.uses e=true:=by
 cases v with
 | c2 a b d f=>simp only[t6]at h;cases c:Nat.beq a t<;>rw[c]at h<;>first|exact h|cases h
 | ref a b d=>cases d<;>simp only[t6]at h<;>first|exact h|(cases c:Nat.beq a t<;>rw[c]at h<;>first|exact h|cases h)
 | _=>exact h
theorem bU.updH{ts:List Nat}{t:Nat}{k:Kd}{cs:List C} : bU ts F (updH F t k cs):=λs e a=>by
 unfold Ab.updH at a;cases b:Nat.beq s t with
 | true=>rw[b]at a;cases a
 | false=>rw[b]at a;exact .inr ⟨s,LI a⟩
theorem LO{t e:Nat}{v:AV}(h:(NL t v).uses e=true):v.uses e=true:=by
 cases v with
 | c2 a b d f=>simp only[NL]at h;cases c:Nat.beq a t<;>rw[c]at h<;>first|exact h|cases h
 | ref a b d=>simp only[NL]at h;cases c:Nat.beq a t<;>rw[c]at h<;>first|exact h|cases h
 | _=>exact h
theorem bU.kill{ts:List Nat}{t:Nat} : bU ts F (kill F t):=λs e a=>by
 unfold Ab.kill at a;cases b:Nat.beq s t with
 | true=>rw[b]at a;cases a
 | false=>rw[b]at a;exact .inr ⟨s,LO a⟩
theorem bE{d t:Nat}{av:AV}(h:t≠d):eff none d av F t=F t:=by unfold eff;rw[C8 h,C8 (λe=>by cases e)]
theorem hO{d:Nat}{a:Option Nat}{av:AV} : eff a d av F d=av:=by unfold eff;rw[C9 rfl]
theorem Lz{d:Nat} : eff none d (F d) F=F:=by
 funext t
 by_cases h:t=d
 ·subst h;rw[hO]
 rw[bE h]
theorem nO{d:Nat}{av:AV}{ts:List Nat}(b:d∉ts)(c:∀t,(F t).uses d=false):jq (eff none d av F) F ts:=λt f=>by
 have g:t≠d:=λe=>b (e ▸ f)
 rw[bE g];refine⟨rfl,λh a k l i=>?_⟩;have j:h≠d:=λe=>by rw[e,c t]at a;cases a
 rwa [bE j]at i
theorem QF{d dj:Nat}{v av:AV}(a:dj≠d):put (eff none d v F) dj av=eff none d (kl dj v) (put F dj av):=by
 funext t
 by_cases b:t=dj
 ·subst b;rw[mN,bE a,mN]
 rw[gT _ _ b];by_cases c:t=d
 ·subst c;rw[hO,hO]
 rw[bE c,bE c,gT _ _ b]
theorem nP{d t:Nat}{e:Kd}{v:AV}{a:List C}(b:t≠d):updH (eff none d v F) t e a=eff none d (t6 t v) (updH F t e a):=by
 funext s
 by_cases c:s=d
 ·subst c
  rw[hO];unfold updH;rw[show Nat.beq s t=false by rw[<-C5,Nat.beq_eq];exact Ne.symm b,hO];rfl
 rw[bE c];unfold updH;rw[bE c]
theorem xX{d t:Nat}{c:Kd}{a:List C}(b:t≠d):updH F t c a d=t6 t (F d):=by
 unfold updH;rw[show Nat.beq d t=false by rw[<-C5,Nat.beq_eq];exact Ne.symm b];rfl
theorem HQ{d t:Nat}{e:Kd}{v:AV}{a:List C}(b:t≠d):updN (eff none d v F) t e a=eff none d (NI t v) (updN F t e a):=by
 funext s
 by_cases c:s=d
 ·subst c
  rw[hO];unfold updN;rw[show Nat.beq s t=false by rw[<-C5,Nat.beq_eq];exact Ne.symm b,hO];rfl
 rw[bE c];unfold updN;rw[bE c]
theorem FP{d t:Nat}{c:Kd}{a:List C}(b:t≠d):updN F t c a d=NI t (F d):=by
 unfold updN;rw[show Nat.beq d t=false by rw[<-C5,Nat.beq_eq];exact Ne.symm b];rfl
theorem M9{t e:Nat}{v:AV}(h:(NI t v).uses e=true):v.uses e=true:=by
 cases v with
 | c2 b c a f=>
  cases a with
  | nil=>exact h
  | cons s a=>simp only[NI]at h;cases d:Nat.beq b t<;>rw[d]at h<;>first|exact h|cases h
 | ref b c a=>
  cases a with
  | nil=>exact h
  | cons s a=>simp only[NI]at h;cases d:Nat.beq b t<;>rw[d]at h<;>first|exact h|cases h
 | _=>exact h
theorem bU.updN{ts:List Nat}{t:Nat}{k:Kd}{cs:List C} : bU ts F (updN F t k cs):=λs e a=>by
 unfold Ab.updN at a;cases b:Nat.beq s t with
 | true=>rw[b]at a;cases a
 | false=>rw[b]at a;exact .inr ⟨s,M9 a⟩
def Fq(d:Nat)(ts:List Nat)(v:AV)(F:Nat->AV)(K:(Nat->AV)->Prop)(F1:Nat->AV):Prop:=∃a,(v=F d->a=F1 d)/\K (eff none d a F1)/\bU ts F F1
def RE(d:Nat)(ts:List Nat)(v:AV)(F:Nat->AV)(K:(Nat->AV)->Option Nat->List C->Prop)(F1:Nat->AV)(ag:Option Nat)(cs:List C):Prop:=∃a,(v=F d->a=F1 d)/\K (eff none d a F1) ag cs/\bU ts F F1
theorem Fq.trans{d:Nat}{ts:List Nat}{v v1:AV}{F1 a:Nat->AV}{K:(Nat->AV)->Prop}(h1:v=F d->v1=F1 d)(b:bU ts F F1)(h:Fq d ts v1 F1 K a):Fq d ts v F K a:=by
 obtain⟨c,f,g,i⟩:=h;exact⟨c,λe=>f (h1 e),g,b.trans i⟩
theorem ix{d dj:Nat}{ts:List Nat}{v av:AV}{K:(Nat->AV)->Prop}(h:bQ N (eff none d v F) dj av K)(a:dj≠d)(b:∀e,av.uses e=true->e∈ts\/∃f,(F f).uses e=true):bQ N F dj av (Fq d ts v F K):=by
 unfold bQ at h |-;cases c:(N.free dj&&!av.uses dj) with
 | false=>rw[c]at h;exact h.elim
 | true=>
  rw[c]at h;simp only[cond_true]at h |-;rw[QF a]at h;exact⟨kl dj v,λe=>by rw[gT _ _ (Ne.symm a),e],h,bU.put b⟩
theorem jh{ts:List Nat}{k:Kd}{cs:List C} : ∀e,(AV.H k cs).uses e=true->e∈ts\/∃a,(F a).uses e=true:=λe h=>by cases h
theorem BL{p:(Nat->AV)->(AV->Prop)->Prop}{d dj:Nat}{v:AV}{ts0 ts:List Nat}{K:(Nat->AV)->Prop}(h:oq p (eff none d v F) ts0 λav=>bQ N (eff none d v F) dj av K)(a:dj≠d)(b:∀t,t∈ts0->t∈ts)(c:d∉ts)(f:∀t,(F t).uses d=false) :
  p F λav=>bQ N F dj av (Fq d ts v F K):=by
 obtain⟨av,g,i,j⟩:=h;refine j F (nO (λk=>c (b d k)) f) _ (ix g a λe l=>?_);rcases i e l with h|⟨t,n,h⟩
 ·exact .inl (b e h)
 have a:t≠d:=λe=>c (e ▸ b t n)
 rw[bE a]at h;exact .inr ⟨t,h⟩
theorem tg{d:Nat}{ts:List Nat}{v:AV}{y:Operand}{K:(Nat->AV)->Option Nat->List C->Prop}(h:hB (eff none d v F) y K)(w:d∉tm y)(A:∀t,(F t).uses d=false):hB F y (RE d ts v F K):=by
 have fin:∀{t:Nat}{k:Kd}{f:List C}{b:Option Nat}{xs:List C},t≠d->K (updH (eff none d v F) t k f) b xs->RE d ts v F K (updH F t k f) b xs:=fun {t k f b xs} c h=>by
  rw[nP c]at h;exact⟨_,λe=>by rw[xX c,e],h,bU.updH⟩
 have vB:∀{t:Nat}{k:Kd}{f:List C}{b:Option Nat}{xs:List C},t≠d->K (updN (eff none d v F) t k f) b xs->RE d ts v F K (updN F t k f) b xs:=fun {t k f b xs} c h=>by
  rw[HQ c]at h;exact⟨_,λe=>by rw[FP c,e],h,bU.updN⟩
 cases y with
 | tmp t=>
  have c:t≠d:=λe=>w (by simp[tm,e])
  simp only[hB]at h |-;rw[bE c]at h;cases g:F t with
  | H l n=>
   rw[g]at h;cases l with
   | one=>exact fin c h
   | agg=>exact fin c h
   | _=>exact h.elim
  | c2 o p q b=>
   rw[g]at h;have i:o≠d:=λe=>by have:=A t;rw[g,e]at this;simp[AV.uses]at this
   cases q with
   | cons s q=>
    simp only at h |-;rw[bE i]at h;cases a:F o with
    | H l n=>
     rw[a]at h;obtain⟨r,j,B,D,E,G⟩:=Lq.out h;exact .mk_ ⟨r,j,_,_,B,D,E,rfl,rfl,vB i G⟩
    | _=>rw[a]at h;exact h.elim
   | nil=>
    simp only at h |-;rw[bE i]at h;cases a:F o with
    | H l n=>
     rw[a]at h;simp only at h |-;cases u:Nat.ble (p+b.getD 1) n.length with
     | false=>rw[u]at h;exact h.elim
     | true=>rw[u]at h;exact vB i h
    | _=>rw[a]at h;exact h.elim
  | _=>rw[g]at h;exact h.elim
 | _=>exact h.elim
theorem Ph{d:Nat}{ts:List Nat}{v:AV}{y:Operand}{K:(Nat->AV)->Option Nat->List C->Prop}(h:vw (eff none d v F) y K)(b:d∉tm y)(c:∀t,(F t).uses d=false):vw F y (RE d ts v F K):=by
 obtain⟨i,xs,a,g⟩:=cw h;refine g F (nO b c) _ ?_;cases f:aY xs with
 | true=>rw[f]at a;exact⟨v,λe=>e,a,bU.refl _ _⟩
 | false=>rw[f]at a;exact tg a b c
def Ti(d:Nat)(ts:List Nat)(v:AV)(F:Nat->AV)(K:(Nat->AV)->List C->Prop)(F1:Nat->AV)(cs:List C):Prop:=∃a,(v=F d->a=F1 d)/\K (eff none d a F1) cs/\bU ts F F1
theorem wF{d:Nat}{ts:List Nat}{f:Nat->Option (Nat × Nat)}(a:d∉ts):∀{parts:List (Nat × Operand)}{cs:List C}{K:(Nat->AV)->List C->Prop}{F:Nat->AV}{v:AV},fillW f parts cs K (eff none d v F)->(∀p,p∈parts->d∉tm p.2)->(∀t,(F t).uses d=false)->
  fillW f parts cs (Ti d ts v F K) F
 | [],cs,K,F,v,h,_,b=>⟨v,λe=>e,h,bU.refl _ _⟩
 | p::rest,cs,K,F,v,h,g,b=>by
  simp only[fillW]at h |-;split at h
  case h_2=>exact h.elim
  rename_i q y;refine uE (Ph (ts:=ts) h (g p V1) b) λA B xs h=>?_
  obtain⟨D,k,h,i⟩:=h;cases j:(Nat.beq xs.length q.2&&Nat.ble (q.1+q.2) cs.length) with
  | false=>rw[j]at h;exact h.elim
  | true=>
   rw[j]at h;simp only[cond_true,dm]at h |-;refine j7 (wF a h (λl c=>g l (z5 _ c)) (i.clean a b)) λE cs2 n=>?_
   obtain⟨o,r,u,w⟩:=n;exact⟨o,λe=>r (k e),u,i.trans w⟩
theorem JO{d dj T:Nat}{ts:List Nat}{v:AV}{parts:List (Nat × Operand)}{K:(Nat->AV)->Prop}(h:kK TE N (eff none d v F) dj T parts K)(a:dj≠d)(b:d∉ts)(e:∀p,p∈parts->d∉tm p.2)(f:∀t,(F t).uses d=false) :
  kK TE N F dj T parts (Fq d ts v F K):=by
 unfold kK at h |-;split at h
 case h_2=>exact h.elim
 rename_i size bytes zero flds k;cases c:xn TE flds with
 | false=>rw[c]at h;exact h.elim
 | true=>
  rw[c]at h;refine j7 (wF b h e f) λl n h=>?_
  obtain⟨o,g,h,i⟩:=h;exact bw (ix (ts:=ts) h a jh) λq j=>Fq.trans g i j
theorem GW{d dj T n:Nat}{ts:List Nat}{v:AV}{parts:List (Nat × Operand)}{K:(Nat->AV)->Prop}(h:gh TE N (eff none d v F) dj T n parts K)(a:dj≠d)(c:d∉ts)(g:∀p,p∈parts->d∉tm p.2)(i:∀t,(F t).uses d=false) :
  gh TE N F dj T n parts (Fq d ts v F K):=by
 unfold gh at h |-;obtain⟨e,j,h,b⟩:=jI h;refine b _ ?_;cases f:Nat.ble (n*j.size) 16777216 with
 | false=>rw[f]at h;exact h.elim
 | true=>
  rw[f]at h;simp only[cond_true]at h |-;cases n with
  | zero=>
   cases parts with
   | nil=>exact ix h a jh
   | cons=>exact h.elim
  | succ n=>
   simp only[dm]at h |-;refine j7 (wF c h g i) λq r h=>?_
   obtain⟨u,k,h,l⟩:=h;rw[oR]at h |-;exact bw (ix (ts:=ts) h a jh) λw o=>Fq.trans k l o
theorem LL{d dj t:Nat}{ts:List Nat}{v:AV}{K:(Nat->AV)->Prop}(h:iU N (eff none d v F) dj (.tmp t) K)(a:dj≠d)(c:d∉ts)(g:t∈ts)(k:∀t,(F t).uses d=false):iU N F dj (.tmp t) (Fq d ts v F K):=by
 have b:t≠d:=λe=>c (e ▸ g)
 have std:br (eff none d v F) (.tmp t) (λf=>bQ N (eff none d v F) dj f K)->br F (.tmp t) (λf=>bQ N F dj f (Fq d ts v F K)):=λh=>
  BL (p:=λF K=>br F (.tmp t) K) (jT h) a (λo i=>by simp[tm]at i;exact i ▸ g) c k
 simp only[iU]at h |-;rw[bE b]at h;split at h
 ·rename_i l xs q
  cases j:aY xs with
  | true=>rw[j]at h;exact ix h a jh
  | false=>
   rw[j]at h;simp only[cond_false]at h |-;rw[nP b]at h;exact bw (ix (ts:=ts) h a jh) λr n=>Fq.trans (F1:=updH F t (.tup l) _) (λe=>by rw[xX b,e]) bU.updH n
 all_goals exact std h
theorem Ka{d dj:Nat}{ts:List Nat}{v:AV}{x:Operand}{K:(Nat->AV)->Prop}(h:kB N (eff none d v F) dj x K)(o:dj≠d)(j:d∉ts)(a:∀t,t∈tm x->t∈ts)(C:∀t,(F t).uses d=false):kB N F dj x (Fq d ts v F K):=by
 have b:∀y,(∀t,t∈tm y->t∈ts)->br (eff none d v F) y (λu=>bQ N (eff none d v F) dj u K)->br F y (λu=>bQ N F dj u (Fq d ts v F K)):=λy w h=>BL (p:=λF K=>br F y K) (jT h) o w j C
 have A:∀y,(∀t,t∈tm y->t∈ts)->hB (eff none d v F) y (λr q l=>bQ N r dj (.H (lK q) l) K)->hB F y (λr q l=>bQ N r dj (.H (lK q) l) (Fq d ts v F K)):=λy w h=>
  gq (tg (ts:=ts) h (λD=>j (w d D)) C) λr q l h=>by
   obtain⟨L,E,h,G⟩:=h;exact bw (ix (ts:=ts) h o jh) λM H=>Fq.trans E G H
 cases x with
 | tmp t=>
  have B:t≠d:=λe=>j (e ▸ a t (by simp[tm]))
  unfold kB at h |-;simp only at h |-;rw[bE B]at h;cases n:F t with
  | H k l=>
   rw[n]at h;cases k with
   | one=>
    simp only at h |-;cases i:aY l with
    | true=>rw[i]at h;exact b (.tmp t) a h
    | false=>rw[i]at h;exact A (.tmp t) a h
   | agg=>
    simp only at h |-;cases i:aY l with
    | true=>rw[i]at h;exact b (.tmp t) a h
    | false=>rw[i]at h;exact A (.tmp t) a h
   | tup O=>exact b _ a h
   | box=>exact b _ a h
  | c2 P J Q q=>
   rw[n]at h;simp only at h |-;cases i:N.al dj with
   | true=>rw[i]at h;exact b (.tmp t) a h
   | false=>rw[i]at h;exact A (.tmp t) a h
  | dead=>rw[n]at h;exact b _ a h
  | ref=>rw[n]at h;exact b _ a h
  | iref=>rw[n]at h;exact b _ a h
  | fn=>rw[n]at h;exact b _ a h
  | fv=>rw[n]at h;exact b _ a h
 | const c=>exact b (.const c) a h
 | global g=>exact b (.global g) a h
 | func f=>exact b (.func f) a h
theorem Bk{d t:Nat}{v:AV}(b:t≠d):kill (eff none d v F) t=eff none d (NL t v) (kill F t):=by
 funext s
 by_cases e:s=d
 ·subst e
  rw[hO,iD _ (Ne.symm b),hO]
 rw[bE e];by_cases a:s=t
 ·subst a;rw[mG,mG]
 rw[iD _ a,iD _ a,bE e]
theorem QB{d dj:Nat}{ts:List Nat}{v:AV}{x:Operand}{K:(Nat->AV)->Prop}(h:Dq N (eff none d v F) dj x K)(b:dj≠d)(c:d∉ts)(g:∀t,t∈tm x->t∈ts)(k:∀t,(F t).uses d=false):Dq N F dj x (Fq d ts v F K):=by
 have i:BQ N (eff none d v F) dj x=BQ N F dj x:=by
  cases x with
  | tmp t=>
   have a:t≠d:=λe=>c (e ▸ g t (by simp[tm]))
   have l:eff none d v F t=F t:=bE a;unfold BQ;simp only;rw[l]
  | _=>rfl
 unfold Dq at h |-;cases f:Kq N dj x with
 | true=>
  rw[f]at h;simp only[cond_true]at h |-;exact ix (ts:=ts) h b jh
 | false=>
 rw[f]at h;simp only[cond_false]at h |-;unfold J4 at h |-;rw[i]at h;cases j:BQ N F dj x with
 | none=>rw[j]at h;exact Ka h b c g k
 | some p=>
  rw[j]at h;simp only at h |-;obtain⟨rfl,o⟩:=AN j;have a:p.1≠d:=λe=>c (e ▸ g p.1 (by simp[tm]))
  rw[Bk a]at h;exact bw (ix (ts:=ts) h b jh) λq n=>Fq.trans (F1:=kill F p.1) (λe=>by rw[iD _ (Ne.symm a),e]) bU.kill n
theorem J1{d:Nat}{ts:List Nat}{v:AV}{x:Operand}{cs:List C}{K:(Nat->AV)->Prop}(h:qA (eff none d v F) x cs K)(p:d∉tm x)(q:∀t,(F t).uses d=false):qA F x cs (Fq d ts v F K):=by
 have fin:∀{t:Nat}{k:Kd}{cs:List C},t≠d->K (updH (eff none d v F) t k cs)->Fq d ts v F K (updH F t k cs):=fun {t k cs} a h=>by
  rw[nP a]at h;exact⟨_,λe=>by rw[xX a,e],h,bU.updH⟩
 have vB:∀{t:Nat}{k:Kd}{cs:List C},t≠d->K (updN (eff none d v F) t k cs)->Fq d ts v F K (updN F t k cs):=fun {t k cs} a h=>by
  rw[HQ a]at h;exact⟨_,λe=>by rw[FP a,e],h,bU.updN⟩
 have finP:∀{t:Nat}{k:Kd}{cs:List C},t≠d->K (Qb (eff none d v F) t k cs)->Fq d ts v F K (Qb F t k cs):=fun {t k cs} a h=>by
  cases k with
  | box=>exact fin a h
  | _=>exact vB a h
 cases x with
 | tmp t=>
  have a:t≠d:=λe=>p (by simp[tm,e])
  simp only[qA]at h |-;rw[bE a]at h;cases f:F t with
  | H k g=>
   rw[f]at h;cases k with
   | box=>
    simp only at h |-;cases c:Nat.ble cs.length g.length with
    | false=>rw[c]at h;exact h.elim
    | true=>rw[c]at h;simp only[cond_true,dm]at h |-;exact fin a h
   | _=>exact h.elim
  | ref l n o=>
   rw[f]at h;have i:l≠d:=λe=>by have:=q t;rw[f,e]at this;simp[AV.uses]at this
   cases o with
   | cons s o=>
    simp only at h |-;rw[bE i]at h;cases b:F l with
    | H k g=>
     rw[b]at h;obtain⟨r,j,u,w,y,A⟩:=Pu.out h;exact Pu.mk u w y rfl (finP i A)
    | _=>rw[b]at h;exact h.elim
   | nil=>
    simp only at h |-;rw[bE i]at h;cases b:F l with
    | H k g=>
     rw[b]at h;cases k with
     | box=>
      simp only at h |-;cases c:Nat.ble (n+cs.length) g.length with
      | false=>rw[c]at h;exact h.elim
      | true=>rw[c]at h;simp only[cond_true,dm]at h |-;exact fin i h
     | _=>exact h.elim
    | _=>rw[b]at h;exact h.elim
  | _=>rw[f]at h;exact h.elim
 | _=>exact h.elim
theorem Nf{d T:Nat}{ts:List Nat}{v:AV}{x y:Operand}{K:(Nat->AV)->Prop}(h:mi TE (eff none d v F) T x y K)(e:d∉ts)(j:d∉tm x)(k:d∉tm y)(c:∀t,(F t).uses d=false):mi TE F T x y (Fq d ts v F K):=by
 unfold mi at h |-;split at h
 ·rename_i i r
  obtain⟨u,l,a,f⟩:=cw h;refine f F (nO k c) _ ?_;cases n:Nat.beq l.length i.size with
  | false=>rw[n]at a;exact a.elim
  | true=>
   rw[n]at a;simp only[cond_true]at a |-;cases o:aY l with
   | true=>rw[o]at a;exact J1 a j c
   | false=>
    rw[o]at a;simp only[cond_false]at a |-;refine gq (tg (ts:=ts) a k c) λw q g h=>?_
    obtain⟨A,a,h,p⟩:=h;cases b:Nat.beq g.length i.size with
    | false=>rw[b]at h;exact h.elim
    | true=>rw[b]at h;exact u6 (J1 (ts:=ts) h j (p.clean e c)) λB f=>Fq.trans a p f
 exact h.elim
theorem Q5{d:Nat}{v:AV}{y:Operand}(a:d∉tm y):mT (eff none d v F) y=mT F y:=by
 cases y with
 | tmp t=>exact bE λe=>a (by simp[tm,e])
 | _=>rfl
theorem QO{d:Nat}{ts:List Nat}{v:AV}{y:Operand}{K:Bool->(Nat->AV)->List (List C)->Prop}(h:Bp (eff none d v F) y K)(c:d∉tm y)(f:∀t,(F t).uses d=false):Bp F y λg F1 rows=>∃v1,(v=F d->v1=F1 d)/\K g (eff none d v1 F1) rows/\bU ts F F1:=by
 have b:=Q5 (F:=F) (v:=v) c;unfold Bp at h |-;rw[b]at h;split at h
 ·refine gq (tg (ts:=ts) h c f) λF1 i l h=>?_
  obtain⟨v1,a,h,j⟩:=h;split at h
  ·exact⟨v1,a,h,j⟩
  exact h.elim
 rw[<-b]at h;obtain⟨i,xs,a,k⟩:=cw h;refine k F (nO c f) _ ?_;split at a
 ·exact⟨v,λe=>e,a,bU.refl _ _⟩
 ·exact⟨v,λe=>e,a,bU.refl _ _⟩
 exact a.elim
theorem Qf{d:Nat}{ts:List Nat}{v:AV}{y:Operand}{K:(Nat->AV)->List (List C)->Prop}(h:Ai (eff none d v F) y K)(b:d∉tm y)(c:∀t,(F t).uses d=false):Ai F y λF1 rows=>∃v1,(v=F d->v1=F1 d)/\K (eff none d v1 F1) rows/\bU ts F F1:=by
 obtain⟨f,xs,a,g⟩:=cw h;refine g F (nO b c) _ ?_;split at a
 ·exact⟨v,λe=>e,a,bU.refl _ _⟩
 ·refine gq (tg (ts:=ts) a b c) λF1 f j h=>?_
  obtain⟨v1,a,h,i⟩:=h;split at h
  ·exact⟨v1,a,h,i⟩
  exact h.elim
 exact a.elim
theorem PO{d dj T:Nat}{ts:List Nat}{v:AV}{x y:Operand}{K:(Nat->AV)->Prop}(h:AK TE N (eff none d v F) dj T x y K)(b:dj≠d)(c:d∉ts)(j:d∉tm x)(k:d∉tm y)(f:∀t,(F t).uses d=false):AK TE N F dj T x y (Fq d ts v F K):=by
 obtain⟨e,B,h,a⟩:=jI h;refine a _ (Fs (QO (ts:=ts) h k f) λC D E h=>?_);obtain⟨G,l,h,g⟩:=h;refine AB (Qf (ts:=ts) h j (g.clean c f)) λH i h=>?_
 obtain⟨J,n,h,o⟩:=h;obtain⟨p,q,r,u,w,h⟩:=Ap.out h;refine CT p q r u w rfl (bw (ix (ts:=ts) h b jh) λL A=>?_);exact Fq.trans l g (Fq.trans n o A)
theorem M8{f:Oper}{d:Nat}{v:AV}{K:(Nat->AV)->Prop}(E:f.guard=none)(u:Qu f.op=true)(q:f.dst≠some d)(j:d∉f.looksAt ops)(r:∀t,(F t).uses d=false)(h:iN P TE N ops f K (eff none d v F)) :
  iN P TE N ops f (Fq d (f.looksAt ops) v F K) F:=by
 unfold iN fQ at h |-;rw[E]at h |-;simp only at h |-;have l:∀t,t∈dd f.op->t∈f.looksAt ops:=λt w=>gg f t w
 have pur:∀b,b≠d->dn P TE (eff none d v F) f.op (λA=>bQ N (eff none d v F) b A K)->dn P TE F f.op λA=>bQ N F b A (Fq d (f.looksAt ops) v F K):=λb q h=>
  BL (p:=λF K=>dn P TE F f.op K) (jY h) q l j r
 have dne:∀b,f.dst=some b->b≠d:=λb a e=>q (e ▸ a)
 have tmI:∀x,x∈f.op.operands.toList->∀t,t∈tm x->t∈f.looksAt ops:=λx G t w=>l t (List.mem_flatMap.2 ⟨x,G,w⟩)
 cases g:f.op with
 | store T x y=>
  rw[g]at h tmI;simp only[D0]at h |-;cases a:f.dst with
  | some b=>rw[a]at h;simp only[mX]at h;exact h.elim
  | none=>
   rw[a]at h;simp only at h |-;exact Nf h j (λk=>j (tmI x (by simp[Op.operands]) d k)) (λk=>j (tmI y (by simp[Op.operands]) d k)) r
 | move x=>
  rw[g]at h tmI;cases a:f.dst with
  | none=>rw[a]at h;exact h.elim
  | some b=>
   rw[a]at h;cases x with
   | tmp t=>
    simp only[D0,mX]at h |-;exact LL h (dne b a) j (tmI (.tmp t) (by simp[Op.operands]) t (by simp[tm])) r
   | _=>rw[g]at u;cases u
 | assign x=>
  rw[g]at h tmI;cases a:f.dst with
  | none=>rw[a]at h;exact h.elim
  | some b=>
   rw[a]at h;simp only[D0,mX]at h |-;exact QB h (dne b a) j (tmI x (by simp[Op.operands])) r
 | build T H=>
  rw[g]at h tmI;cases a:f.dst with
  | none=>rw[a]at h;exact h.elim
  | some b=>
   rw[a]at h;simp only[D0,mX]at h |-;refine JO h (dne b a) j (λp B k=>j (tmI p.2 ?_ d k)) r;simp only[Op.operands];simpa using ⟨p.1,by simpa using B⟩
 | buildSlice T n H=>
  rw[g]at h tmI;cases a:f.dst with
  | none=>rw[a]at h;exact h.elim
  | some b=>
   rw[a]at h;simp only[D0,mX]at h |-;refine GW h (dne b a) j (λp B k=>j (tmI p.2 ?_ d k)) r;simp only[Op.operands];simpa using ⟨p.1,by simpa using B⟩
 | extract x i=>rw[g]at h pur;cases a:f.dst with|none=>rw[a]at h;exact h.elim|some b=>rw[a]at h;exact pur b (dne b a) h
 | load T x=>rw[g]at h pur;cases a:f.dst with|none=>rw[a]at h;exact h.elim|some b=>rw[a]at h;exact pur b (dne b a) h
 | fieldAddr T x i=>rw[g]at h pur;cases a:f.dst with|none=>rw[a]at h;exact h.elim|some b=>rw[a]at h;exact pur b (dne b a) h
 | field T x i=>rw[g]at h pur;cases a:f.dst with|none=>rw[a]at h;exact h.elim|some b=>rw[a]at h;exact pur b (dne b a) h
 | binOp o T x y J=>rw[g]at h pur;cases a:f.dst with|none=>rw[a]at h;exact h.elim|some b=>rw[a]at h;exact pur b (dne b a) h
 | unOp o T x=>rw[g]at h pur;cases a:f.dst with|none=>rw[a]at h;exact h.elim|some b=>rw[a]at h;exact pur b (dne b a) h
 | call c=>
  rw[g]at u h tmI;cases C:p7 c with
  | none=>simp[Qu,C]at u
  | some p=>
   have D:=yB C;subst D;cases a:f.dst with
   | none=>rw[a]at h;exact h.elim
   | some b=>
    rw[a]at h;simp only[D0,mX,C]at h |-;exact PO h (dne b a) j (λk=>j (tmI p.2.1 (by simp[Op.operands,Call.operands]) d k)) (λk=>j (tmI p.2.2 (by simp[Op.operands,Call.operands]) d k)) r
 | _=>rw[g]at u;cases u
theorem QY{a:Oper}{d:Nat}{K:(Nat->AV)->Prop}(f:a.guard=none)(g:Qu a.op=true)(b:a.dst≠some d)(i:d∉a.looksAt ops)(j:∀t,(F t).uses d=false)(h:iN P TE N ops a K F) :
  iN P TE N ops a (λF1=>K F1/\bU (a.looksAt ops) F F1) F:=by
 refine jO (M8 (d:=d) (v:=F d) f g b i j (by rw[Lz];exact h)) λF1 k=>?_
 obtain⟨l,e,c,u⟩:=k;rw[e rfl,Lz]at c;exact⟨c,u⟩
theorem bU.setH{ts:List Nat}{t:Nat}{k:Kd}{cs:List C} : bU ts F (setH F t (.H k cs)):=λs e a=>by
 unfold Ab.setH at a;cases b:Nat.beq s t with
 | true=>rw[b]at a;cases a
 | false=>rw[b]at a;exact .inr ⟨s,a⟩
theorem HK{ts:List Nat}{d:Nat}{k:Kd}{rcs:List C}{K:(Nat->AV)->Prop}(h:bQ N F d (.H k rcs) K):bQ N F d (.H k rcs) λF1=>K F1/\bU ts F F1:=by
 unfold bQ at h |-;cases a:(N.free d&&!(AV.H k rcs).uses d) with
 | false=>rw[a]at h;exact h.elim
 | true=>rw[a]at h;exact⟨h,bU.put λe b=>by cases b⟩
theorem uw{ts:List Nat}{t off n:Nat}{st:cB}{K:(Nat->AV)->List C->Prop}(h:lendAt F t off st n K):lendAt F t off st n λF1 cs=>K F1 cs/\bU ts F F1:=by
 unfold lendAt at h |-;split at h
 case h_2=>exact h.elim
 split at h
 ·rename_i k b _ _
  cases a:Nat.ble (off+n) b.length with
  | false=>rw[a]at h;exact h.elim
  | true=>
   rw[a]at h;simp only[cond_true,dm]at h |-;exact⟨h,bU.updH⟩
 obtain⟨r,j,c,d,e,f⟩:=Lq.out h;refine .mk_ ?_;exact⟨r,j,_,_,c,d,e,rfl,rfl,f,bU.updH⟩
theorem lI{ts:List Nat} : ∀{xs:List (Operand × Nat)}{K:(Nat->AV)->List (MA × rv)->Prop}{F:Nat->AV},lendP xs K F->lendP xs (λF1 l=>K F1 l/\bU ts F F1) F
 | [],K,F,h=>⟨h,bU.refl _ _⟩
 | (x,0)::xs,K,F,h=>lI (xs:=xs) h
 | (x,1)::xs,K,F,h=>by
  simp only[lendP]at h |-;split at h
  case h_2=>exact h.elim
  split at h
  ·exact f7 (uw (ts:=ts) h) λF1 c h=>cq (lI (ts:=ts) h.1) λb l a=>⟨a.1,h.2.trans a.2⟩
  ·exact f7 (uw (ts:=ts) h) λF1 c h=>cq (lI (ts:=ts) h.1) λb l a=>⟨a.1,h.2.trans a.2⟩
  ·exact f7 (uw (ts:=ts) h) λF1 c h=>cq (lI (ts:=ts) h.1) λb l a=>⟨a.1,h.2.trans a.2⟩
  exact h.elim
 | (x,n+2)::xs,K,F,h=>by
  simp only[lendP]at h |-;split at h
  case h_2=>exact h.elim
  split at h
  ·split at h
   ·exact cq (lI (ts:=ts) h) λb l a=>⟨a.1,bU.kill.trans a.2⟩
   exact h.elim
  ·exact cq (lI (ts:=ts) h) λb l a=>⟨a.1,bU.kill.trans a.2⟩
  exact h.elim
theorem l8{ts:List Nat}{K:(Nat->AV)->Prop} : ∀{l:List (MA × rv)}{B:List MA}{F:Nat->AV},gY l B K F->gY l B (λF1=>K F1/\bU ts F F1) F
 | [],[],F,h=>⟨h,bU.refl _ _⟩
 | [],_::_,F,h=>h.elim
 | (m,.no)::l,[],F,h=>h.elim
 | (m,.at_ t off st)::l,[],F,h=>h.elim
 | (m,.box t)::l,[],F,h=>h.elim
 | (m,.no)::l,.val _ _::B,F,h=>l8 (l:=l) (B:=B) h
 | (m,.no)::l,.mut _ _::B,F,h=>l8 (l:=l) (B:=B) h
 | (m,.no)::l,.ptr _::B,F,h=>l8 (l:=l) (B:=B) h
 | (m,.at_ t off st)::l,.val _ _::B,F,h=>h.elim
 | (m,.at_ t off st)::l,.ptr _::B,F,h=>h.elim
 | (m,.box t)::l,.val _ _::B,F,h=>h.elim
 | (m,.box t)::l,.mut _ _::B,F,h=>h.elim
 | (m,.at_ t off st)::l,.mut ag out::B,F,h=>by
  simp only[gY]at h |-;split at h
  case h_2=>exact h.elim
  split at h
  ·rename_i k d _ _
   cases b:Nat.ble (off+out.length) d.length with
   | false=>rw[b]at h;exact h.elim
   | true=>
    rw[b]at h;simp only[cond_true,dm]at h |-;exact dq (λc a=>⟨a.1,bU.updH.trans a.2⟩) (l8 (ts:=ts) h)
  obtain⟨r,j,e,f,g,i⟩:=Pu.out h;exact Pu.mk e f g rfl (dq (λc a=>⟨a.1,bU.updH.trans a.2⟩) (l8 (ts:=ts) i))
 | (m,.box t)::l,.ptr out::B,F,h=>by
  simp only[gY]at h |-;split at h
  ·exact dq (λc a=>⟨a.1,bU.setH.trans a.2⟩) (l8 (ts:=ts) h)
  exact h.elim
theorem NG{ts:List Nat}{d:Option Nat}{f:Nat}{args:List Operand}{modes:List Nat}{K:(Nat->AV)->Prop}(h:l9 P N F d f args modes K):l9 P N F d f args modes λF1=>K F1/\bU ts F F1:=by
 unfold l9 at h |-;refine cq (lI (ts:=ts) h) λn l h=>?_
 obtain⟨h,c⟩:=h;cases e:(vf l&&Nat.beq args.length modes.length) with
 | false=>rw[e]at h;exact h.elim
 | true=>
  rw[e]at h;refine j9 h λb A h=>?_
  obtain⟨o,B,k,rcs,i,a,j⟩:=cH.out h;refine CJ i a (dq (λF'' h=>?_) (l8 (ts:=ts) j));obtain⟨h,g⟩:=h;cases d with
  | none=>exact⟨h,c.trans g⟩
  | some d=>exact bw (HK (ts:=ts) h) λp a=>⟨a.1,(c.trans g).trans a.2⟩
theorem PH{ts:List Nat}{d:Option Nat}{t:Nat}{cs:List C}{c a e b:Nat}{K:(Nat->AV)->Prop}{k:Kd}{rcs:List C}{B:List MA}(h:yd N F d t cs c a e b K k rcs B):yd N F d t cs c a e b (λF1=>K F1/\bU ts F F1) k rcs B:=by
 unfold yd at h |-;split at h
 case h_2=>exact h.elim
 rename_i i j;cases f:(Nat.beq i.length a&&Nat.beq j.length b) with
 | false=>rw[f]at h;exact h.elim
 | true=>
  rw[f]at h;simp only[cond_true,dm]at h |-;cases d with
  | none=>exact⟨h,bU.kill.trans bU.setH⟩
  | some d=>exact bw (HK (ts:=ts) h) λl g=>⟨g.1,(bU.kill.trans bU.setH).trans g.2⟩
theorem Mr{ts:List Nat}{d:Option Nat}{f:Nat}{args:List Operand}{a b:Nat}{K:(Nat->AV)->Prop}(h:kq P N F d f args a b K):kq P N F d f args a b λF1=>K F1/\bU ts F F1:=by
 unfold kq at h |-;split at h
 case h_2=>exact h.elim
 refine kV h λt g h=>kV h λi c h=>?_
 split at h
 case h_2=>exact h.elim
 rename_i j p;cases e:(Nat.beq i t&&Nat.ble (g+a) c&&Nat.ble (c+b) j.length) with
 | false=>rw[e]at h;exact h.elim
 | true=>
  rw[e]at h;simp only[cond_true,dm]at h |-;obtain⟨q,B,k,rcs,l,n,o⟩:=cH.out h;exact CJ l n (PH o)
theorem Ms{ts:List Nat}{d:Option Nat}{f:Nat}{args:List Operand}{modes:List Nat}{K:(Nat->AV)->Prop}(h:ku P N F d f args modes K):ku P N F d f args modes λF1=>K F1/\bU ts F F1:=by
 unfold ku at h |-;split
 ·rename_i p a;rw[a]at h;exact Mr h
 rename_i a;rw[a]at h;exact NG h
theorem QP{ts:List Nat}{dj:Option Nat}{s:Nat}{b:Nat->AV}(u:bU ts F b):bU ts F (rv1 F dj s b):=by
 unfold rv1;split
 case h_2=>exact u
 rename_i t d f;cases g:(dne dj s&&dne dj t) with
 | false=>exact u
 | true=>
  simp only[cond_true];split
  case h_2=>exact u
  split
  case h_2=>exact u
  intro q e a;by_cases c:q=s
  ·subst c
   rw[pH]at a;exact .inr ⟨q,by rw[f];exact a⟩
  rw[fA _ _ c]at a;exact u q e a
theorem Hu{ts:List Nat}{dj:Option Nat} : ∀{l:List Nat}{a:Nat->AV},bU ts F a->bU ts F (rvE F dj l a)
 | [],_,u=>u
 | _::l,_,u=>Hu (l:=l) (QP u)
theorem NS{a:Oper}{K:(Nat->AV)->Prop}(k:a.guard=none)(i:pd a.op=true)(h:iN P TE N ops a K F):iN P TE N ops a (λF1=>K F1/\bU (a.looksAt ops) F F1) F:=by
 have pur:∀d,a.dst=some d->dn P TE F a.op (λj=>bQ N F d j K)->dn P TE F a.op λj=>bQ N F d j λF1=>K F1/\bU (a.looksAt ops) F F1:=λd f h=>by
  have A:gL P TE N ops a K F:=by unfold gL fQ;rw[k,f];exact h
  obtain⟨G,j,l,B⟩:=wS A;have g:=l.dst;rw[f]at g;simp only[X0]at g;subst g;have n:=l.at_ F (jq.refl _ _) (λF1=>K F1/\bU (a.looksAt ops) F F1) ⟨B,bU.put λe C=>(l.from_ e C).imp id λ⟨t,_,h⟩=>⟨t,h⟩⟩;unfold gL fQ at n;rw[k,f]at n;exact n
 unfold iN fQ at h |-;rw[k]at h |-;simp only at h |-;cases b:a.op with
 | call c=>
  rw[b]at h i;have o:p7 c=none:=by
   simp only[pd]at i;unfold p7;cases D:c.callee with
   | value=>rfl
   | _=>simp[D]at i
  have pl:ia P TE N a K F->ia P TE N a (λF1=>K F1/\bU (a.looksAt ops) F F1) F:=λh=>by
   unfold ia at h |-;rw[b]at h |-;cases f:a.dst with
   | none=>rw[f]at h;exact h.elim
   | some d=>
    rw[f]at h;simp only[mX,o]at h |-;have r:=pur d f;rw[b]at r;exact r h
  cases w:D0 N F (.call c) with
  | some p=>
   rw[w]at h;simp only at h |-;have lt:tn P N F a.dst p.1 p.2.1 p.2.2 K->tn P N F a.dst p.1 p.2.1 p.2.2 λF1=>K F1/\bU (a.looksAt ops) F F1:=λh=>rd (Ms (ts:=a.looksAt ops) h) λF1 ⟨h,u⟩=>by
    rw[nL]at h |-;exact⟨h,Hu u⟩
   cases y:N0 N (.call c) with
   | false=>rw[y]at h;exact lt h
   | true=>
    rw[y]at h;rcases h with h|h
    ·exact .pl (pl h)
    exact .lt (lt h)
  | none=>
   rw[w]at h;have E:ia P TE N a K F:=by unfold ia;rw[b];exact h
   have q:=pl E;unfold ia at q;rw[b]at q;exact q
 | _=>rw[b]at i;cases i
theorem NZ{a:Oper}{d:Nat}{K:(Nat->AV)->Prop}(e:a.guard=none)(b:(Qu a.op || pd a.op)=true)(c:a.dst≠some d)(f:d∉a.looksAt ops)(g:∀t,(F t).uses d=false)(h:iN P TE N ops a K F) :
  iN P TE N ops a (λF1=>K F1/\bU (a.looksAt ops) F F1) F:=by
 rw[Y5]at b;rcases b with b|b
 ·exact QY e b c f g h
 exact NS e b h
def Gq(d:Nat)(ts:List Nat)(F:Nat->AV)(K:(Nat->AV)->Prop)(F1:Nat->AV):Prop:=∃a,K (eff none d a F1)/\bU ts F F1
theorem Gq.trans{d:Nat}{ts:List Nat}{F1 a:Nat->AV}{K:(Nat->AV)->Prop}(b:bU ts F F1)(h:Gq d ts F1 K a):Gq d ts F K a:=by
 obtain⟨c,e,f⟩:=h;exact⟨c,e,b.trans f⟩
theorem Be{d t:Nat}{v av:AV}(a:t≠d):setH (eff none d v F) t av=eff none d v (setH F t av):=by
 funext s
 by_cases b:s=d
 ·subst b
  rw[hO,fA _ _ (Ne.symm a),hO]
 rw[bE b];unfold setH;rw[bE b]
theorem tY{ts:List Nat}{d t off n:Nat}{v:AV}{st:cB}{K:(Nat->AV)->List C->Prop}(h:lendAt (eff none d v F) t off st n K)(a:t≠d):lendAt F t off st n λF1 cs=>∃v1,K (eff none d v1 F1) cs/\bU ts F F1:=by
 unfold lendAt at h |-;rw[bE a]at h;split at h
 case h_2=>exact h.elim
 split at h
 ·rename_i k e _ _
  cases b:Nat.ble (off+n) e.length with
  | false=>rw[b]at h;exact h.elim
  | true=>
   rw[b]at h;simp only[cond_true,dm]at h |-;rw[nP a]at h;exact⟨_,h,bU.updH⟩
 obtain⟨r,j,f,g,i,c⟩:=Lq.out h;refine .mk_ ?_;rw[nP a]at c;exact⟨r,j,_,_,f,g,i,rfl,rfl,_,c,bU.updH⟩
theorem mP{ts:List Nat}{d:Nat}(a:d∉ts):∀{xs:List (Operand × Nat)}{K:(Nat->AV)->List (MA × rv)->Prop}{F:Nat->AV}{v:AV},lendP xs K (eff none d v F)->(∀x,x∈xs->d∉tm x.1)->(∀t,(F t).uses d=false)->
  lendP xs (λF1 l=>(∃v1,K (eff none d v1 F1) l/\bU ts F F1)/\∀q,q∈l->d∉q.2.slot) F
 | [],K,F,v,h,_,_=>⟨⟨v,h,bU.refl _ _⟩,λq b=>by cases b⟩
 | (x,0)::xs,K,F,v,h,f,g=>by
  simp only[lendP]at h |-;refine cq (mP a h (λx i=>f x (z5 _ i)) g) λF1 l h=>⟨h.1,λq b=>?_⟩
  rcases List.mem_cons.1 b with rfl|b
  ·exact λA=>by cases A
  exact h.2 q b
 | (x,1)::xs,K,F,v,h,f,g=>by
  simp only[lendP]at h |-;split at h
  case h_2=>exact h.elim
  rename_i s;have k:s≠d:=λe=>f _ V1 (by simp[tm,e])
  rw[bE k]at h;have y:∀{t:Nat}{F1:Nat->AV}{l:List (MA × rv)}{m:MA}{j:Nat}{B:cB}{K2:(Nat->AV)->List (MA × rv)->Prop},t≠d->((∃v1,K2 (eff none d v1 F1) ((m,.at_ t j B)::l)/\bU ts F F1)/\∀q,q∈l->d∉q.2.slot)->(∃v1,K2 (eff none d v1 F1) ((m,.at_ t j B)::l)/\bU ts F F1)/\∀q,q∈(m,rv.at_ t j B)::l->d∉q.2.slot:=λc h=>⟨h.1,λq b=>by
    rcases List.mem_cons.1 b with rfl|b
    · exact λA=>c (I1.1 A).symm
    exact h.2 q b⟩
  split at h
  ·exact f7 (tY (ts:=ts) h k) λF1 p h=>by
    obtain⟨v1,h,o⟩:=h;exact cq (mP a h (λx i=>f x (z5 _ i)) (o.clean a g)) λD l h=>by
     obtain⟨⟨r,h,u⟩,w⟩:=h;exact y (K2:=K) k ⟨⟨r,h,o.trans u⟩,w⟩
  ·exact f7 (tY (ts:=ts) h k) λF1 p h=>by
    obtain⟨v1,h,o⟩:=h;exact cq (mP a h (λx i=>f x (z5 _ i)) (o.clean a g)) λD l h=>by
     obtain⟨⟨r,h,u⟩,w⟩:=h;exact y (K2:=K) k ⟨⟨r,h,o.trans u⟩,w⟩
  ·rename_i t j B H E
   have c:t≠d:=λe=>by have:=g s;rw[E,e]at this;simp[AV.uses]at this
   exact f7 (tY (ts:=ts) h c) λF1 p h=>by
    obtain⟨v1,h,o⟩:=h;exact cq (mP a h (λx i=>f x (z5 _ i)) (o.clean a g)) λD l h=>by
     obtain⟨⟨r,h,u⟩,w⟩:=h;exact y (K2:=K) c ⟨⟨r,h,o.trans u⟩,w⟩
  exact h.elim
 | (x,n+2)::xs,K,F,v,h,f,g=>by
  simp only[lendP]at h |-;split at h
  case h_2=>exact h.elim
  rename_i s;have k:s≠d:=λe=>f _ V1 (by simp[tm,e])
  rw[bE k]at h;have y:∀{t:Nat}{p:List C},t≠d->lendP xs (λG l=>K G ((.ptr p,.box t)::l)) (kill (eff none d v F) t)->lendP xs (λF1 l=>(∃v1,K (eff none d v1 F1) ((.ptr p,.box t)::l)/\bU ts F F1)/\∀q,q∈(MA.ptr p,rv.box t)::l->d∉q.2.slot) (kill F t):=fun {t p} c h=>by
   rw[Bk c]at h;refine cq (mP a h (λx i=>f x (z5 _ i)) ((bU.kill (ts:=ts)).clean a g)) λD l h=>?_
   obtain⟨⟨r,h,u⟩,w⟩:=h;refine⟨⟨r,h,bU.kill.trans u⟩,λq b=>?_⟩;rcases List.mem_cons.1 b with rfl|b
   ·exact λA=>c (I1.1 A).symm
   exact w q b
  split at h
  ·rename_i t E
   have c:t≠d:=λe=>by have:=g s;rw[E,e]at this;simp[AV.uses]at this
   rw[bE c]at h;split at h
   ·exact y c h
   exact h.elim
  ·exact y k h
  exact h.elim
theorem sr{d:Nat}{v:AV}(c:∀t,(F t).uses d=false):∀{l:List (MA × rv)}{xs:List Operand}{K:Bool->List MA->Prop},valsP (eff none d v F) l xs K->(∀x,x∈xs->d∉tm x)->valsP F l xs K
 | [],[],K,h,_=>h
 | (m,.no)::l,x::xs,K,h,a=>by
  obtain⟨g,i,e,f⟩:=cw h;exact f F (nO (a x V1) c) _ (sr c e λx b=>a x (z5 _ b))
 | (m,.at_ t off st)::l,x::xs,K,h,a=>sr (l:=l) (xs:=xs) c h λx b=>a x (z5 _ b)
 | (m,.box t)::l,x::xs,K,h,a=>sr (l:=l) (xs:=xs) c h λx b=>a x (z5 _ b)
 | [],_::_,K,h,_=>h.elim
 | (m,.no)::l,[],K,h,_=>h.elim
 | (m,.at_ t off st)::l,[],K,h,_=>h.elim
 | (m,.box t)::l,[],K,h,_=>h.elim
theorem kY{ts:List Nat}{d:Nat}{K:(Nat->AV)->Prop} : ∀{l:List (MA × rv)}{B:List MA}{F:Nat->AV}{v:AV},gY l B K (eff none d v F)->(∀q,q∈l->d∉q.2.slot)->gY l B (Gq d ts F K) F
 | [],[],F,v,h,_=>⟨v,h,bU.refl _ _⟩
 | [],_::_,F,v,h,_=>h.elim
 | (m,.no)::l,[],F,v,h,_=>h.elim
 | (m,.at_ t off st)::l,[],F,v,h,_=>h.elim
 | (m,.box t)::l,[],F,v,h,_=>h.elim
 | (m,.no)::l,.val _ _::B,F,v,h,a=>kY (l:=l) (B:=B) h λq b=>a q (z5 _ b)
 | (m,.no)::l,.mut _ _::B,F,v,h,a=>kY (l:=l) (B:=B) h λq b=>a q (z5 _ b)
 | (m,.no)::l,.ptr _::B,F,v,h,a=>kY (l:=l) (B:=B) h λq b=>a q (z5 _ b)
 | (m,.at_ t off st)::l,.val _ _::B,F,v,h,_=>h.elim
 | (m,.at_ t off st)::l,.ptr _::B,F,v,h,_=>h.elim
 | (m,.box t)::l,.val _ _::B,F,v,h,_=>h.elim
 | (m,.box t)::l,.mut _ _::B,F,v,h,_=>h.elim
 | (m,.at_ t off st)::l,.mut ag out::B,F,v,h,a=>by
  have f:t≠d:=λe=>a _ V1 (by simp[rv.slot,e])
  have c:∀q,q∈l->d∉q.2.slot:=λq b=>a q (z5 _ b)
  simp only[gY]at h |-;rw[bE f]at h;split at h
  case h_2=>exact h.elim
  split at h
  ·rename_i k p _ _
   cases i:Nat.ble (off+out.length) p.length with
   | false=>rw[i]at h;exact h.elim
   | true=>
    rw[i]at h;simp only[cond_true,dm]at h |-;rw[nP f]at h;exact dq (λn g=>Gq.trans bU.updH g) (kY (ts:=ts) h c)
  obtain⟨r,j,u,w,y,o⟩:=Pu.out h;rw[nP f]at o;exact Pu.mk u w y rfl (dq (λn g=>Gq.trans bU.updH g) (kY (ts:=ts) o c))
 | (m,.box t)::l,.ptr out::B,F,v,h,a=>by
  have f:t≠d:=λe=>a _ V1 (by simp[rv.slot,e])
  have c:∀q,q∈l->d∉q.2.slot:=λq b=>a q (z5 _ b)
  simp only[gY]at h |-;rw[bE f]at h;split at h
  ·rw[Be f]at h
   exact dq (λn g=>Gq.trans bU.setH g) (kY (ts:=ts) h c)
  exact h.elim
theorem Na{ts:List Nat}{d:Nat}{dj:Option Nat}{v:AV}{f:Nat}{args:List Operand}{modes:List Nat}{K:(Nat->AV)->Prop}(h:l9 P N (eff none d v F) dj f args modes K)(c:dj≠some d)(a:d∉ts)(j:∀x,x∈args->d∉tm x)(n:∀t,(F t).uses d=false) :
  l9 P N F dj f args modes (Gq d ts F K):=by
 unfold l9 at h |-;refine cq (mP a h (λx q=>j _ (List.of_mem_zip q).1) n) λG l h=>?_
 obtain⟨⟨H,h,g⟩,r⟩:=h;cases o:(vf l&&Nat.beq args.length modes.length) with
 | false=>rw[o]at h;exact h.elim
 | true=>
  rw[o]at h;refine j9 (sr (g.clean a n) h j) λb A h=>?_
  obtain⟨J,B,k,rcs,u,i,w⟩:=cH.out h;refine CJ u i (dq (λF'' h=>?_) (kY (ts:=ts) w r));obtain⟨y,h,p⟩:=h;cases dj with
  | none=>exact⟨y,h,g.trans p⟩
  | some dj=>
   refine bw (ix (ts:=ts) h (λe=>c (by rw[e])) jh) λL i=>?_
   obtain⟨C,-,D,E⟩:=i;exact⟨C,D,(g.trans p).trans E⟩
theorem Pw{ts:List Nat}{d:Nat}{dj:Option Nat}{v:AV}{t:Nat}{cs:List C}{f a g b:Nat}{K:(Nat->AV)->Prop}{k:Kd}{rcs:List C}{B:List MA}(i:t≠d)(c:dj≠some d)(h:yd N (eff none d v F) dj t cs f a g b K k rcs B):yd N F dj t cs f a g b (Gq d ts F K) k rcs B:=by
 unfold yd at h |-;split at h
 case h_2=>exact h.elim
 rename_i l n;cases j:(Nat.beq l.length a&&Nat.beq n.length b) with
 | false=>rw[j]at h;exact h.elim
 | true=>
  rw[j]at h;simp only[cond_true,dm]at h |-;rw[Bk i,Be i]at h;cases dj with
  | none=>exact⟨_,h,bU.kill.trans bU.setH⟩
  | some dj=>
   refine bw (ix (ts:=ts) h (λe=>c (by rw[e])) jh) λu o=>?_
   obtain⟨p,-,q,r⟩:=o;exact⟨p,q,(bU.kill.trans bU.setH).trans r⟩
theorem H7{d:Nat}{v:AV}{x:Operand}{K:Nat->Nat->Prop}(b:d∉tm x)(c:∀t,(F t).uses d=false)(h:zI (eff none d v F) x K):zI F x λt o=>t≠d/\K t o:=by
 obtain⟨s,t,f,rfl,a,g⟩:=tj h;have i:s≠d:=λe=>b (by simp[tm,e])
 rw[bE i]at a;have j:t≠d:=λe=>by have:=c s;rw[a,e]at this;simp[AV.uses]at this
 simp only[zI,a];exact⟨j,g⟩
theorem Me{ts:List Nat}{d:Nat}{dj:Option Nat}{v:AV}{f:Nat}{args:List Operand}{a b:Nat}{K:(Nat->AV)->Prop}(h:kq P N (eff none d v F) dj f args a b K)(c:dj≠some d)(e:∀x,x∈args->d∉tm x)(g:∀t,(F t).uses d=false) :
  kq P N F dj f args a b (Gq d ts F K):=by
 unfold kq at h |-;split at h
 case h_2=>exact h.elim
 refine kV (H7 (e _ (by simp)) g h) λt n h=>?_
 obtain⟨i,h⟩:=h;refine kV (H7 (e _ (by simp)) g h) λo j h=>?_
 replace h:=h.2;rw[bE i]at h;split at h
 case h_2=>exact h.elim
 rename_i p w;cases l:(Nat.beq o t&&Nat.ble (n+a) j&&Nat.ble (j+b) p.length) with
 | false=>rw[l]at h;exact h.elim
 | true=>
  rw[l]at h;simp only[cond_true,dm]at h |-;obtain⟨y,B,k,rcs,q,r,u⟩:=cH.out h;exact CJ q r (Pw i c u)
theorem M3{ts:List Nat}{d:Nat}{dj:Option Nat}{v:AV}{f:Nat}{args:List Operand}{modes:List Nat}{K:(Nat->AV)->Prop}(h:ku P N (eff none d v F) dj f args modes K)(a:dj≠some d)(b:d∉ts)(e:∀x,x∈args->d∉tm x)(g:∀t,(F t).uses d=false) :
  ku P N F dj f args modes (Gq d ts F K):=by
 unfold ku at h |-;split
 ·rename_i p c;rw[c]at h;exact Me h a e g
 rename_i c;rw[c]at h;exact Na h a b e g
theorem P8{dj:Option Nat}{s q:Nat}{F1:Nat->AV}(a:q≠s):rv1 F dj s F1 q=F1 q:=by
 unfold rv1;cases F s with
 | ref t b c=>
  cases c with
  | cons=>rfl
  | nil=>
   simp only;cases(dne dj s&&dne dj t) with
   | false=>rfl
   | true=>
    simp only[cond_true];cases F1 t with
    | H k d=>
     cases k with
     | box=>
      simp only;cases F1 s with
      | dead=>exact fA _ _ a
      | _=>rfl
     | _=>rfl
    | _=>rfl
 | _=>rfl
theorem Q4{d:Nat}{dj:Option Nat}{v v1:AV}{s:Nat}{F1:Nat->AV}(f:∀t,(F t).uses d=false):∃b,rv1 (eff none d v F) dj s (eff none d v1 F1)=eff none d b (rv1 F dj s F1):=by
 by_cases c:s=d
 ·subst c
  have g:∃b,rv1 (eff none s v F) dj s (eff none s v1 F1)=eff none s b F1:=by
   unfold rv1;rw[hO];have set:∀x:AV,setH (eff none s v1 F1) s x=eff none s x F1:=λx=>by
    funext q
    by_cases a:q=s
    ·subst a;rw[pH,hO]
    rw[fA _ _ a,bE a,bE a]
   split
   case h_2=>exact⟨v1,rfl⟩
   cases h:(dne dj s&&dne dj _) with
   | false=>exact⟨v1,rfl⟩
   | true=>
    simp only[cond_true];split
    case h_2=>exact⟨v1,rfl⟩
    split
    case h_2=>exact⟨v1,rfl⟩
    exact⟨_,set _⟩
  obtain⟨b,i⟩:=g;refine⟨b,i.trans ?_⟩
  funext q
  by_cases a:q=s
  ·subst a;rw[hO,hO]
  rw[bE a,bE a,P8 a]
 refine⟨v1,?_⟩;unfold rv1;rw[bE c];cases j:F s with
 | ref t l n=>
  cases n with
  | cons=>rfl
  | nil=>
   have o:t≠d:=λe=>by have:=f s;rw[j,e]at this;simp[AV.uses]at this
   simp only;cases h:(dne dj s&&dne dj t) with
   | false=>rfl
   | true=>
    simp only[cond_true];rw[bE o,bE c];cases F1 t with
    | H k p=>
     cases k with
     | box=>
      simp only;cases F1 s with
      | dead=>exact Be c
      | _=>rfl
     | _=>rfl
    | _=>rfl
 | _=>rfl
theorem L0{d:Nat}{dj:Option Nat}{v:AV}(a:∀t,(F t).uses d=false):∀{l:List Nat}{v1:AV}{F1:Nat->AV},∃b,rvE (eff none d v F) dj l (eff none d v1 F1)=eff none d b (rvE F dj l F1)
 | [],v1,_=>⟨v1,rfl⟩
 | s::l,v1,F1=>by
  simp only[rvE];obtain⟨b,e⟩:=Q4 (dj:=dj) (v:=v) (v1:=v1) (s:=s) (F1:=F1) a;rw[e];exact L0 a
theorem NY{a:Oper}{d:Nat}{v:AV}{K:(Nat->AV)->Prop}(M:a.guard=none)(i:pd a.op=true)(j:a.dst≠some d)(w:d∉a.looksAt ops)(g:∀t,(F t).uses d=false)(h:iN P TE N ops a K (eff none d v F)) :
  iN P TE N ops a (Gq d (a.looksAt ops) F K) F:=by
 have k:∀t,t∈dd a.op->t∈a.looksAt ops:=λt A=>gg a t A
 have tmI:∀x,x∈a.op.operands.toList->∀t,t∈tm x->t∈a.looksAt ops:=λx q t A=>k t (List.mem_flatMap.2 ⟨x,q,A⟩)
 have pur:∀dj,dj≠d->dn P TE (eff none d v F) a.op (λr=>bQ N (eff none d v F) dj r K)->dn P TE F a.op λr=>bQ N F dj r (Fq d (a.looksAt ops) v F K):=λdj j h=>
  BL (p:=λF K=>dn P TE F a.op K) (jY h) j k w g
 unfold iN fQ at h |-;rw[M]at h |-;simp only at h |-;cases b:a.op with
 | call c=>
  rw[b]at h i tmI;have B:p7 c=none:=by
   simp only[pd]at i;unfold p7;cases g:c.callee with
   | value=>rfl
   | _=>simp[g]at i
  have C:D0 N (eff none d v F) (.call c)=D0 N F (.call c):=by
   simp only[pd]at i;simp only[D0];cases g:c.callee with
   | value x=>
    cases x with
    | func f=>rfl
    | _=>simp[g]at i
   | _=>rfl
  rw[C]at h;have pl:ia P TE N a K (eff none d v F)->ia P TE N a (Gq d (a.looksAt ops) F K) F:=λh=>by
   unfold ia at h |-;rw[b]at h |-;cases D:a.dst with
   | none=>rw[D]at h;exact h.elim
   | some dj=>
    rw[D]at h;simp only[mX,B]at h |-;have J:=pur dj (λe=>j (by rw[D,e]));rw[b]at J;obtain⟨r,O,-,Q⟩:=jY (J h);exact Q F (jq.refl _ _) _ (bw O λU E=>by
      obtain⟨v1,-,R,u⟩:=E;exact⟨v1,R,u⟩)
  cases n:D0 N F (.call c) with
  | some p=>
   rw[n]at h;simp only at h |-;have o:∀x,x∈p.2.1->d∉tm x:=λx q G=>by
    have S:p.2.1=c.args.toList:=by
     simp only[pd]at i;simp only[D0]at n;cases g:c.callee with
     | value y=>
      cases y with
      | func f=>
       rw[g]at n;simp only at n;split at n
       ·cases n;rfl
       cases n
      | _=>simp[g]at i
     | _=>simp[g]at i
    rw[S]at q;refine w (tmI x ?_ d G);simp only[Op.operands,Call.operands];simp
    first|exact .inr (by simpa using q)
   have lt:tn P N (eff none d v F) a.dst p.1 p.2.1 p.2.2 K->tn P N F a.dst p.1 p.2.1 p.2.2 (Gq d (a.looksAt ops) F K):=λh=>rd (M3 (ts:=a.looksAt ops) h j w o g) λF1 h=>by
    obtain⟨v1,h,u⟩:=h;rw[nL]at h |-;obtain⟨T,e⟩:=L0 (dj:=a.dst) (v:=v) (l:=RD N.mo) (v1:=v1) (F1:=F1) g;rw[e]at h;exact⟨T,h,Hu u⟩
   cases L:N0 N (.call c) with
   | false=>rw[L]at h;exact lt h
   | true=>
    rw[L]at h;rcases h with h|h
    ·exact .pl (pl h)
    exact .lt (lt h)
  | none=>
   rw[n]at h;have E:ia P TE N a K (eff none d v F):=by unfold ia;rw[b];exact h
   have H:=pl E;unfold ia at H;rw[b]at H;exact H
 | _=>rw[b]at i;cases i
theorem NR{a:Oper}{d:Nat}{v:AV}{K:(Nat->AV)->Prop}(e:a.guard=none)(b:(Qu a.op || pd a.op)=true)(c:a.dst≠some d)(f:d∉a.looksAt ops)(g:∀t,(F t).uses d=false)(h:iN P TE N ops a K (eff none d v F)) :
  iN P TE N ops a (Gq d (a.looksAt ops) F K) F:=by
 rw[Y5]at b;rcases b with b|b
 ·refine jO (M8 e b c f g h) λl i=>?_
  obtain⟨j,-,k,u⟩:=i;exact⟨j,k,u⟩
 exact NY e b c f g h
structure mj(ops:Array Oper)(ds:List Nat)(F:Nat->AV)(listed:Array Bool):Prop where
 dst:∀(j:Nat)(o:Oper)(d:Nat),oy ds o=true->ops[j]? = some o->listed.getD j true=false->o.dst=some d->∀t,(F t).uses d=false
 mv:∀(j:Nat)(o:Oper)(T:Option Nat)(s:Nat),oy ds o=true->ops[j]? = some o->listed.getD j true=false->o.guard=none->nH o.op=some (T,s)->jr ops o s=true->∀t,(F t).uses s=false
theorem mj.put{j d:Nat}{r:Option Nat}{listed:Array Bool}{av:AV}(h:mj ops ds F listed)(o:∀b a g,oy ds a=true->b≠j->ops[b]? = some a->listed.getD b true=false->a.dst=some g->av.uses g=false)(p:∀b a T s,oy ds a=true->b≠j->ops[b]? = some a->listed.getD b true=false->a.guard=none->nH a.op=some (T,s)->jr ops a s=true->av.uses s=false) :
  mj ops ds (eff r d av F) (listed.setIfInBounds j true):=by
 refine⟨λb a g i c f k t=>?_,λb a T s i c f q l n t=>?_⟩
 ·have e:=iF f
  rw[getD_set_ne true (Ne.symm e)]at f;exact jP (o b a g i e c f k) (h.dst b a g i c f k t)
 have e:=iF f;rw[getD_set_ne true (Ne.symm e)]at f;exact jP (p b a T s i e c f q l n) (h.mv b a T s i c f q l n t)
theorem wI{o:Oper}(h:Ry o=true):o.guard=none:=by
 unfold Ry at h;cases a:o.guard with
 | none=>rfl
 | some p=>rw[a]at h;cases h
theorem Li{ts:List Nat}{d:Nat}(h:(!ts.any (Nat.beq d))=true):d∉ts:=λa=>by
 have:ts.any (Nat.beq d)=true:=Y3.2 ⟨d,a,Nat.beq_refl d⟩;rw[this]at h;cases h
theorem ND{b c:Oper}{d:Nat}{f:Bool}(h:R1 ops b c f=true)(i:c.dst=some d):b.guard=none/\(Qu b.op || pd b.op)=true/\b.dst≠some d/\d∉b.looksAt ops/\c.guard=none/\d∉c.looksAt ops/\(f=true\/∀T s,nH c.op=some (T,s)->jr ops c s=false):=by
 unfold R1 at h;rw[i]at h;simp only[I0]at h;obtain⟨⟨⟨⟨⟨⟨j,k⟩,g⟩,l⟩,n⟩,o⟩,a⟩:=h;refine⟨wI j,k,λe=>?_,Li l,wI n,Li o,?_⟩
 ·rw[e]at g;simp at g
 rw[Y5]at a;rcases a with a|a
 ·exact .inl a
 exact .inr λT s e=>by rw[e]at a;simpa using a
theorem MU{j i:Nat}(h:vD ops j i=true):oh ops j i:=rW j _ (λ_ a=>.one (yl a)) i h
theorem HR{o:Oper}(h:oy ds o=true):∃d,o.dst=some d/\ds.any (Nat.beq d)=true:=by
 unfold oy at h;cases a:o.dst with
 | none=>rw[a]at h;cases h
 | some d=>rw[a]at h;exact⟨d,rfl,h⟩
structure R9(ops:Array Oper)(ds:List Nat)(nm:Nat->Bool):Prop where
 back:∀(j:Nat)(oj:Oper),ops[j]? = some oj->∀e∈oj.after,Region.binds .any e=true->e.on<j
 apart:∀(i j:Nat)(oi oj:Oper),oy ds oi=true->oy ds oj=true->i≠j->ops[i]? = some oi->ops[j]? = some oj->dc oj i=true\/dc oi j=true\/oi.apart ops oj=true
 look:∀(i j:Nat)(oi oj:Oper)(d:Nat),oy ds oi=true->i≠j->ops[i]? = some oi->ops[j]? = some oj->oi.dst=some d->d∈oj.looksAt ops->dc oj i=true
 differ:∀(i j:Nat)(oi oj:Oper)(d:Nat),oy ds oi=true->oy ds oj=true->i≠j->ops[i]? = some oi->ops[j]? = some oj->oi.dst=some d->oj.dst≠some d
 nf:∀(i j:Nat)(oi oj:Oper),oy ds oi=true->oy ds oj=false->i≠j->ops[i]? = some oi->ops[j]? = some oj->vD ops j i=true\/vD ops i j=true\/R1 ops oj oi (nm i)=true
 mvs:∀(j:Nat)(oj:Oper)(T:Option Nat)(s:Nat),oy ds oj=true->ops[j]? = some oj->nH oj.op=some (T,s)->jr ops oj s=true->ds.any (Nat.beq s)=true
theorem oQ{listed:Array Bool}{j i:Nat}{h:Oper}(c:R9 ops ds nm)(d:DC ops listed)(a:ops[j]? = some h)(b:∀e∈h.after,Region.binds .any e=true->listed.getD e.on false=true)(n:vD ops j i=true):listed.getD i false=true:=
 nq d c.back (MU n) (T3.1 a).1 λk l=>by
  rw[aZ a]at l;obtain⟨e,f,g,rfl⟩:=cr.1 l;exact b e f g
theorem unl{listed:Array Bool}{k:Nat}(h1:listed.getD k true=false)(a:listed.getD k false=true):False:=by
 rcases Nat.lt_or_ge k listed.size with b|b
 ·simp[b]at h1 a;rw[h1]at a;cases a
 simp[Array.getElem?_eq_none b]at a
theorem jq.trans{F1 a:Nat->AV}{ts:List Nat}(h1:jq F F1 ts)(g:jq F1 a ts):jq F a ts:=λt b=>by
 obtain⟨c,h⟩:=h1 t b;obtain⟨i,j⟩:=g t b;refine⟨i.trans c,λd e k f l=>j d (by rw[c];exact e) k f (h d e k f l)⟩
theorem mj.us{j:Nat}{f:Oper}{F1:Nat->AV}{listed:Array Bool}(r:R9 ops ds nm)(h:mj ops ds F listed)(g:ops[j]? = some f)(i:∀e∈f.after,Region.binds .any e=true->listed.getD e.on false=true)(u:bU (f.looksAt ops) F F1):mj ops ds F1 (listed.setIfInBounds j true):=by
 refine⟨λk l y q b c n=>u.clean (λd=>?_) (h.dst k l y q b ?_ n),λk l T s q b c A o p=>u.clean (λd=>?_) (h.mv k l T s q b ?_ A o p)⟩
 ·have a:=iF c
  rw[getD_set_ne true (Ne.symm a)]at c;have:=r.look k j l f y q a b g n d;obtain⟨e,t,w,rfl⟩:=cr.1 this;exact unl c (i e t w)
 ·have a:=iF c
  rwa [getD_set_ne true (Ne.symm a)]at c
 ·have a:=iF c
  exact a ((gr p).2 k j l f b g (db o) d)
 have a:=iF c
 rwa [getD_set_ne true (Ne.symm a)]at c
theorem QS{p d:Nat}{v:AV}{F1:Nat->AV}{b:Oper}(a:ops[p]? = some b)(g:d∉b.looksAt ops)(i:∀t,(F1 t).uses d=false)(c:b.dst≠some d)(h:QH P TE ops p (eff none d v F1)):QH P TE ops p F1:=by
 obtain⟨n,f,j,k⟩:=h;rw[aZ a]at f j k;refine⟨n,by rw[aZ a];exact f,?_,?_⟩
 ·rw[aZ a]
  rw[<-j];exact vX (ops:=ops) (nO g i)
 rw[aZ a];obtain⟨r,l,-,o⟩:=jY k;rw[bE (λe=>c (by rw[f,e]))]at l;exact o F1 (nO (λq=>g (gg b d q)) i) _ l
theorem GN(B:R9 ops ds nm){i d:Nat}{b:Oper}{K:(Nat->AV)->Prop}(C:ops[i]? = some b)(o:oy ds b=true) :
  ∀(fuel:Nat)(listed:Array Bool)(F:Nat->AV)(q:Option Nat)(av:AV),i∈Region.ready .any ops listed->mj ops ds F listed->DC ops listed->Yl P TE N ops b F q d av->(nm i=true->q=none)->FC P TE N ops ds K fuel (listed.setIfInBounds i true) (eff q d av F)->FC P TE N ops ds K (fuel+1) listed F:=by
 have self:∀(listed:Array Bool)(F:Nat->AV)(q:Option Nat)(av:AV),i∈Region.ready .any ops listed->mj ops ds F listed->Yl P TE N ops b F q d av->∀K':(Nat->AV)->Prop,K' (eff q d av F)->lz P TE N ops b K' F:=λlisted F q av W c f K' hK=>by
  have a:=(mem_ready.1 W).1;refine f.at_ F (jq.refl _ _) (c.dst i b d o C a f.dst) (λs hs=>?_) K' hK;obtain⟨L,⟨T,h2⟩,h3⟩:=f.mvl s hs;exact c.mv i b T s o C a L h2 h3
 intro fuel
 induction fuel with
 | zero=>
  intro listed F q av W c M f E H;refine⟨λh=>(by rw[h]at W;cases W),λj hj=>?_⟩;by_cases g:j=i
  ·subst g
   unfold vu;rw[C];simp only[C9 o];exact self listed F q av W c f _ H
  have:=ready_mono hj g;rw[H.1]at this;cases this
 | succ fuel ih=>
  intro listed F q av W c M f E H;refine⟨λh=>(by rw[h]at W;cases W),λj hj=>?_⟩;by_cases g:j=i
  ·subst g
   unfold vu;rw[C];simp only[C9 o];exact self listed F q av W c f _ H
  have L:=H.2 j (ready_mono hj g);obtain⟨G,n,l,X⟩:=mem_ready.1 hj;obtain⟨a,oi',Y,Z⟩:=mem_ready.1 W;rw[C]at Y;simp only[X0]at Y;subst Y;have noedge:∀k ok,ops[k]? = some ok->listed.getD k true=false->dc n k=false:=λk ok hk hkun=>by
   rw[<-C5];intro he;obtain⟨e,he1,he2,he3⟩:=cr.1 he;exact unl hkun (he3 ▸ X e he1 he2)
  have noedge':∀k ok,ops[k]? = some ok->listed.getD k true=false->dc b k=false:=λk ok hk hkun=>by
   rw[<-C5];intro he;obtain⟨e,he1,he2,he3⟩:=cr.1 he;exact unl hkun (he3 ▸ Z e he1 he2)
  have cd:∀t,(F t).uses d=false:=c.dst i b d o C a f.dst
  unfold vu at L |-;rw[l]at L |-;simp only at L |-;by_cases O:oy ds n=true
  case neg=>
   rw[C8 O]at L |-;have hji1:vD ops j i=false:=by
    rw[<-C5];exact λh=>unl a (oQ B M l X h)
   have hij1:vD ops i j=false:=by
    rw[<-C5];exact λh=>unl G (oQ B M C Z h)
   have hfb:R1 ops n b (nm i)=true:=by
    rcases B.nf i j b n o (by simpa using O) (Ne.symm g) C l with h|h|h
    ·rw[hji1]at h;cases h
    ·rw[hij1]at h;cases h
    exact h
   obtain⟨Q,y,J,g4,g5,g6,g7⟩:=ND hfb f.dst;have hmv:q=none:=by
    cases q with
    | none=>rfl
    | some s=>
     obtain⟨-,⟨T,q1⟩,q2⟩:=f.mvl s rfl;rcases g7 with g7|g7
     ·exact E g7
     rw[g7 T s q1]at q2;cases q2
   subst hmv;refine jO (NR Q y J g4 cd L) λF1 hF1=>?_
   obtain⟨v,⟨hchk,hrun⟩,u⟩:=hF1;have cd1:∀t,(F1 t).uses d=false:=u.clean g4 cd
   have hisz:i<listed.size:=by
    rcases Nat.lt_or_ge i listed.size with h|h
    ·exact h
    simp[Array.getElem?_eq_none h]at a
   have hrd:QH P TE ops i (eff none d v F1):=hchk i (by simp[hisz]) (by rw[aZ C];exact o) hji1;refine⟨λp hp1 hp2 hp3=>?_,ih (listed.setIfInBounds j true) F1 none v (ready_mono W (Ne.symm g)) (c.us B l X u) (M.put hj) ?_ (λ_=>rfl) (by rw[Array.setIfInBounds_comm _ _ g];exact hrun)⟩
   ·have hpi:p≠i:=λe=>by subst e;exact unl a hp1
    have hpl:p<ops.size:=by
     rcases Nat.lt_or_ge p ops.size with h|h
     ·exact h
     rw[show cX ops p=default by simp[cX,I6,Array.getElem?_eq_none h]]at hp2;cases hp2
    have h0:ops[p]? = some ops[p]:=Z5 hpl;have hp2':=hp2;rw[aZ h0]at hp2';refine QS h0 (λhlk=>?_) cd1 (B.differ i p b _ d o hp2' (Ne.symm hpi) C h0 f.dst) (hchk p (getD_set_true hp1) hp2 hp3);have:=B.look i p b _ d o (Ne.symm hpi) C h0 f.dst hlk;exact unl a (M p _ h0 hp1 i this)
   obtain⟨dp,q1,q2,q3⟩:=hrd;rw[aZ C]at q1 q2 q3;have hdp:dp=d:=by rw[f.dst]at q1;simpa using q1.symm
   subst hdp;rw[hO]at q3;obtain⟨R,e1,e2,e3⟩:=jY q3;subst e1;have agr1:jq (eff none dp R F1) F1 (b.looksAt ops):=nO g6 cd1;have fromv:eE F1 (b.looksAt ops) R:=λe he=>by
    rcases e2 e he with h|⟨t,A,h⟩
    ·exact .inl (gg b e h)
    have htl:=gg (ops:=ops) b t A;have hne:t≠dp:=λe=>g6 (e ▸ htl)
    rw[bE hne]at h;exact .inr ⟨t,htl,h⟩
   have hself:R.uses dp=false:=by
    cases D:R.uses dp with
    | false=>rfl
    | true=>
     rcases fromv dp D with h|⟨t,_,h⟩
     ·exact absurd h g6
     rw[cd1 t]at h;cases h
   refine⟨f.dst,f.lt,hself,fromv,λs hs=>(by cases hs),λF' hA S _ K' hK=>?_⟩;have agr2:=agr1.trans hA;unfold lz;rw[vX agr2,q2];simp only;unfold gL fQ;rw[g5,f.dst];simp only;refine e3 F' (agr2.mono λt A=>gg b t A) _ ?_;unfold bQ;rw[f.lt,hself];show K' (put F' dp R);rw[BR R S];exact hK
  rw[C9 O]at L |-;have hap:b.apart ops n=true:=by
   rcases B.apart i j b n o O (Ne.symm g) C l with h|h|h
   ·rw[noedge i b C a]at h;cases h
   ·rw[noedge' j n l G]at h;cases h
   exact h
  obtain⟨ap1,ap2,ap3⟩:=Oper.apart_spec hap;have hdl:d∉n.looksAt ops:=ap1 d f.dst;have cdj':∀r,n.dst=some r->∀t,(F t).uses r=false:=λr hdj=>c.dst j n r O l G hdj
  have cmv:∀s,q=some s->(∀t,(F t).uses s=false)/\s∉n.looksAt ops/\s∈b.looksAt ops:=λs hs=>by
   obtain⟨Q,⟨T,y⟩,J⟩:=f.mvl s hs;exact⟨c.mv i b T s o C a Q y J,λhl=>g ((gr J).2 i j b n C l (db y) hl).symm,db y⟩
  have cmvj:∀T s,n.guard=none->nH n.op=some (T,s)->jr ops n s=true->(∀t,(F t).uses s=false)/\s∉b.looksAt ops/\s∈n.looksAt ops:=λT s Q y J=>
   ⟨c.mv j n T s O l G Q y J,λhl=>g ((gr J).2 i j b n C l hl (db y)).symm,db y⟩
  have avno:∀e,e∉b.looksAt ops->(∀t,(F t).uses e=false)->av.uses e=false:=λe L h2=>by
   cases D:av.uses e with
   | false=>rfl
   | true=>
    rcases f.from_ e D with h|⟨t,_,h⟩
    ·exact absurd h L
    rw[h2 t]at h;cases h
  obtain⟨mvj,r,avj,U,hKj⟩:=pJ L (λr hdj t=>jP (avno r (ap3 r hdj) (cdj' r hdj)) (cdj' r hdj t)) (λT s Q y J t=>by
    obtain⟨c1,c2,-⟩:=cmvj T s Q y J;exact jP (avno s c2 c1) (c1 t))
  have hdne:d≠r:=λe=>ap2 d f.dst (by rw[U.dst,e])
  have hdjl:r∉b.looksAt ops:=ap3 r U.dst;have cdj:∀t,(F t).uses r=false:=cdj' r U.dst
  have cmj:∀s,mvj=some s->(∀t,(F t).uses s=false)/\s∉b.looksAt ops/\s∈n.looksAt ops:=λs hs=>by
   obtain⟨Q,⟨T,y⟩,J⟩:=U.mvl s hs;exact cmvj T s Q y J
  have lookj:∀t,t∈n.looksAt ops->eff q d av F t=F t:=λt A=>by
   unfold eff;have e1:t≠d:=λe=>hdl (e ▸ A)
   have e2:q≠some t:=λe=>(cmv t e).2.1 A
   rw[C8 e1,C8 e2]
  have looki:∀t,t∈b.looksAt ops->eff mvj r avj F t=F t:=λt A=>by
   unfold eff;have e1:t≠r:=λe=>hdjl (e ▸ A)
   have e2:mvj≠some t:=λe=>(cmj t e).2.1 A
   rw[C8 e1,C8 e2]
  have avjno:∀e,e∉n.looksAt ops->(∀t,(F t).uses e=false)->avj.uses e=false:=λe L h2=>by
   cases D:avj.uses e with
   | false=>rfl
   | true=>
    rcases U.from_ e D with h|⟨t,A,h⟩
    ·exact absurd h L
    rw[lookj t A,h2 t]at h;cases h
  have agrj:jq (eff q d av F) F (n.looksAt ops):=λt A=>by
   rw[lookj t A];refine⟨rfl,λt' D k cs hh=>?_⟩;have w:t'≠d:=λe=>by rw[e,cd t]at D;cases D
   have E:q≠some t':=λe=>by rw[(cmv t' e).1 t]at D;cases D
   unfold eff at hh;rw[C8 w,C8 E]at hh;exact hh
  refine U.at_ F agrj cdj (λs hs=>(cmj s hs).1) _ (ih (listed.setIfInBounds j true) (eff mvj r avj F) q av (ready_mono W (Ne.symm g)) (c.put (λj' o' d' hm' w V hl' S=>?_) (λj' o' T s hm' w V hl' Q y J=>?_)) (M.put hj) ?_ E ?_)
  ·refine avjno d' (λh=>?_) (c.dst j' o' d' hm' V hl' S)
   have:=B.look j' j o' n d' hm' w V l S h;rw[noedge j' o' V hl']at this;cases this
  ·exact avjno s (λh=>w ((gr J).2 j' j o' n V l (db y) h)) (c.mv j' o' T s hm' V hl' Q y J)
  ·refine⟨f.dst,f.lt,f.self,λe he=>?_,f.mvl,λF' hA S hs' K' hK=>f.at_ F' (λt A=>?_) S hs' K' hK⟩
   ·rcases f.from_ e he with h|⟨t,A,h⟩
    ·exact .inl h
    exact .inr ⟨t,A,by rw[looki t A];exact h⟩
   obtain⟨a1,a2⟩:=hA t A;rw[looki t A]at a1 a2;refine⟨a1,λt' D k cs hh=>a2 t' D k cs ?_⟩;have w:t'≠r:=λe=>by rw[e,cdj t]at D;cases D
   have E:mvj≠some t':=λe=>by rw[(cmj t' e).1 t]at D;cases D
   unfold eff;rw[C8 w,C8 E];exact hh
  rw[Array.setIfInBounds_comm _ _ g];have:eff q d av (eff mvj r avj F)=eff mvj r avj (eff q d av F):=by
   funext t
   unfold eff;by_cases e1:t=d
   ·have Q:t≠r:=λe=>hdne (e1.symm.trans e)
    have y:mvj≠some t:=λe=>hdl (e1 ▸ (cmj t e).2.2)
    simp only[C9 e1,C8 Q,C8 y]
   rw[C8 e1];by_cases e2:t=r
   ·have y:q≠some t:=λe=>hdjl (e2 ▸ (cmv t e).2.2)
    simp only[C9 e2,C8 y]
   simp only[C8 e2,C8 e1];by_cases e3:q=some t
   ·by_cases e4:mvj=some t
    ·simp only[C9 e3,C9 e4]
    simp only[C9 e3,C8 e4]
   by_cases e4:mvj=some t
   ·simp only[C8 e3,C9 e4]
   simp only[C8 e3,C8 e4]
  rw[this];exact hKj
theorem A3:∀{g:List Nat}{X:Prop}{F:Nat->AV},N1 P TE ops g X F->X/\∀p,p∈g->QH P TE ops p F
 | [],X,F,h=>⟨h,λp k=>by cases k⟩
 | p::l,X,F,h=>by
  simp only[N1]at h;unfold Ro at h;cases c:(cX ops p).dst with
  | none=>rw[c]at h;exact h.elim
  | some d=>
   rw[c]at h;simp only at h;cases f:GQ F (cX ops p) with
   | some q=>rw[f]at h;exact h.elim
   | none=>
    rw[f]at h;simp only at h;obtain⟨i,j,-,-⟩:=jY h;obtain⟨e,n,b⟩:=(show i=F d/\X/\∀p,p∈l->QH P TE ops p F from⟨j.out.1,A3 j.out.2⟩)
    refine⟨n,λo a=>?_⟩;rcases List.mem_cons.1 a with rfl|a
    ·exact⟨d,c,f,uP h λi h=>h.out.1⟩
    exact b o a
theorem pP{l:List (Nat × List Nat)}{i:Nat} : qi l i=true↔∃p,p∈l/\p.1=i:=by
 unfold qi;rw[Y3];exact⟨λ⟨p,a,b⟩=>⟨p,a,Z1 b⟩,λ⟨p,a,b⟩=>⟨p,a,by rw[b];exact Nat.beq_refl i⟩⟩
theorem kU{k:Nat × List Nat}{l:List (Nat × List Nat)}{i:Nat} : qi (k::l) i=(Nat.beq k.1 i || qi l i):=rfl
theorem Do(f:R9 ops ds nm){K:(Nat->AV)->Prop} : ∀(l:List (Nat × List Nat))(listed:Array Bool)(F:Nat->AV),EV ops ds l=true->listed.size=ops.size->(∀j,j<ops.size->listed.getD j true = !qi l j)->mj ops ds F listed->DC ops listed->
  Ki P TE N ops ds nm l K F->FC P TE N ops ds K l.length listed F
 | [],listed,F,_,hs,g,_,_,w=>by
  refine⟨?_,w⟩;apply List.eq_nil_iff_forall_not_mem.2;intro j hj;obtain⟨h1,o,ho,-⟩:=mem_ready.1 hj;have y:=(T3.1 ho).1;rw[g j y]at h1;cases h1
 | k::l,listed,F,Q,hs,g,n,L,w=>by
  simp only[EV,I0]at Q;obtain⟨⟨⟨⟨q1,q2⟩,q3⟩,q4⟩,q5⟩:=Q;have hk:k.1<ops.size:=by simpa[Nat.blt_eq] using q1
  have u:ops[k.1]? = some ops[k.1]:=Z5 hk;have hrf:∀i,i<ops.size->listed.getD i true=true->listed.getD i false=true:=λi hi h=>by
   have h2:i<listed.size:=ω
   simp[h2]at h |-;exact h
  have hready:k.1∈Region.ready .any ops listed:=mem_ready.2 ⟨by rw[g k.1 hk,kU,Nat.beq_refl];rfl,_,u,λe he hb=>by
    have y:=f.back k.1 _ u e he hb;have hx:=q3;rw[aZ u]at hx;have h3:=Z3.1 hx e (by simpa using he);rw[hb]at h3;refine hrf e.on ω ?_;rw[g e.on ω,kU];simpa using h3⟩
  have A:∀j,j<ops.size->(listed.setIfInBounds k.1 true).getD j true = !qi l j:=λj hj=>by
   by_cases B:j=k.1
   ·subst B
    have:qi l k.1=false:=by simpa using q2
    rw[this];simp[hs,hj]
   rw[getD_set_ne true (Ne.symm B),g j hj,kU,show Nat.beq k.1 j=false by rw[<-C5,Nat.beq_eq];exact Ne.symm B];rfl
  show FC P TE N ops ds K (l.length+1) listed F;simp only[Ki]at w;rw[aZ u]at w q4;have S:listed.getD k.1 true=false:=(mem_ready.1 hready).1;cases a:oy ds ops[k.1] with
  | true=>
   rw[a]at w;simp only[cond_true]at w;obtain⟨mv,d,av,hy,w,hnm⟩:=J9 w (λd hd=>n.dst k.1 _ d a u S hd) (λT s g1 g2 g3=>n.mv k.1 _ T s a u S g1 g2 g3);have b:∀e∈ops[k.1].after,Region.binds .any e=true->listed.getD e.on false=true:=by
    obtain⟨-,R,U,b⟩:=mem_ready.1 hready;rw[u]at U;simp only[X0]at U;subst U;exact b
   refine GN f u a l.length listed F mv av hready n L hy hnm (Do f l _ _ q5 (by simpa using hs) A (n.put (λM R d' r C c hl'' V=>?_) (λM R T s r C c hl'' g1 g2 g3=>?_)) (L.put hready) w)
   ·cases hu:av.uses d' with
    | false=>rfl
    | true=>
     rcases hy.from_ d' hu with h|⟨t,_,h⟩
     ·have:=f.look M k.1 R _ d' r C c u V h
      obtain⟨e,W,X,Y⟩:=cr.1 this;exact(unl hl'' (Y ▸ b e W X)).elim
     rw[n.dst M R d' r c hl'' V t]at h;cases h
   cases hu:av.uses s with
   | false=>rfl
   | true=>
    rcases hy.from_ s hu with h|⟨t,_,h⟩
    ·exact absurd ((gr g3).2 M k.1 R _ c u (db g2) h) C
    rw[n.mv M R T s r c hl'' g1 g2 g3 t]at h;cases h
  | false=>
   rw[a]at w q4;simp only[cond_false]at w;simp only[Bool.false_or,I0]at q4;obtain⟨⟨r1,r2⟩,r3⟩:=q4;refine⟨λh=>(by rw[h]at hready;cases hready),λj hj=>?_⟩;obtain⟨D,oj,E,b⟩:=mem_ready.1 hj;have hjlt:=(T3.1 E).1;have B:j=k.1:=by
    rw[g j hjlt,kU]at D;cases hb:Nat.beq k.1 j with
    | true=>exact(Z1 hb).symm
    | false=>
     rw[hb]at D;obtain⟨p,G,rfl⟩:=pP.1 (show qi l j=true by simpa using D);exact(unl S (oQ f L E b (Z3.1 r1 p G))).elim
   subst B;rw[u]at E;simp only[X0]at E;subst E;unfold vu;rw[u];simp only[a,C8 (show ¬false=true by decide)];have post:∀J,N1 P TE ops k.2 (Ki P TE N ops ds nm l K J) J->mj ops ds J (listed.setIfInBounds k.1 true)->(∀p,listed.getD p false=true->oy ds (cX ops p)=true->vD ops k.1 p=false->QH P TE ops p J)/\FC P TE N ops ds K l.length (listed.setIfInBounds k.1 true) J:=λJ Z hcl1=>by
    obtain⟨hrun,hrd⟩:=A3 Z;refine⟨λp G hp2 hp3=>hrd p ?_,Do f l _ _ q5 (by simpa using hs) A hcl1 (L.put hready) hrun⟩;have hpl:p<ops.size:=by
     rcases Nat.lt_or_ge p ops.size with h|h
     ·exact h
     rw[show cX ops p=default by simp[cX,I6,Array.getElem?_eq_none h]]at hp2;cases hp2
    have h4:=gJ r2 hpl;rw[hp2,hp3]at h4;have hml:qi l p=false:=by
     rw[<-C5];intro hm;have:listed.getD p true=false:=by rw[g p hpl,kU,hm];simp
     exact unl this G
    rw[hml]at h4;simp only[Bool.not_true,Bool.false_or]at h4;obtain⟨x,O,q⟩:=Y3.1 h4;exact Z1 q ▸ O
   cases hlater:l.any (λj=>oy ds (cX ops j.1)) with
   | false=>
    refine jO w λJ Z=>post J Z ⟨λM R d' r c hl'' V=>?_,λM R T s r c hl''=>?_⟩
    all_goals
     exfalso;have hj'lt:=(T3.1 c).1;rw[A M hj'lt]at hl'';obtain⟨p,G,rfl⟩:=pP.1 (show qi l M=true by simpa using hl'');have:l.any (λj=>oy ds (cX ops j.1))=true:=Y3.2 ⟨p,G,by rw[aZ c];exact r⟩;rw[this]at hlater;cases hlater
   | true=>
    rw[hlater]at r3;simp only[Bool.not_true,Bool.false_or,I0]at r3;obtain⟨x,O,q⟩:=Y3.1 hlater;have H:listed.getD x.1 true=false/\x.1<ops.size:=by
     have y:x.1<ops.size:=by
      rcases Nat.lt_or_ge x.1 ops.size with h|h
      ·exact h
      rw[show cX ops x.1=default by simp[cX,I6,Array.getElem?_eq_none h]]at q;cases q
     refine⟨?_,y⟩;rw[g x.1 y,kU,pP.2 ⟨x,O,rfl⟩];simp
    have hx0:ops[x.1]? = some ops[x.1]:=Z5 H.2;rw[aZ hx0]at q;obtain⟨d,hd,hdd⟩:=HR q;have hxk:x.1≠k.1:=λe=>by
     have:qi l k.1=true:=pP.2 ⟨x,O,e⟩;rw[this]at q2;cases q2
    refine jO (NZ (d:=d) (wI r3.1) r3.2 (λe=>?_) (λhlk=>?_) (n.dst x.1 _ d q hx0 H.1 hd) w) λJ h1=>post J h1.1 (n.us f u b h1.2)
    ·unfold oy at a
     rw[e]at a;simp only at a;rw[hdd]at a;cases a
    have:=f.look x.1 k.1 _ _ d q hxk hx0 u hd hlk;obtain⟨e,W,X,Y⟩:=cr.1 this;exact unl H.1 (Y ▸ b e W X)
theorem Bl{sch:List (Nat × List Nat)}(h:B4 ops ds sch=true):R9 ops ds (RG sch)/\EV ops ds sch=true/\sch.length=ops.size/\∀j,j<ops.size->qi sch j=true:=by
 unfold B4 at h;simp only[I0]at h;obtain⟨⟨t,o⟩,p⟩:=h;have q:=λj (k:j<ops.size)=>gJ t k
 have r:∀(i j:Nat)(g f:Oper),i≠j->ops[i]? = some g->ops[j]? = some f->A7 ops ds (RG sch) i j=true:=λi j g f a b c=>by
  have:=q j (T3.1 c).1;simp only[I0]at this;have:=gJ this.2 (T3.1 b).1;rw[show Nat.beq i j=false by rw[<-C5,Nat.beq_eq];exact a]at this;exact this
 refine⟨⟨λj f k e u w=>?_,λi j g f l n a b c=>?_,λi j g f d l a b c y D=>?_,λi j g f d l n a b c y u=>?_,λi j g f l n a b c=>?_,λj f T s l k A B=>?_⟩,p,Z1 o,λj k=>?_⟩
 ·have:=q j (T3.1 k).1
  rw[aZ k]at this;simp only[I0]at this;have:=Z3.1 this.1.1.1 e (by simpa using u);rw[w]at this;simpa[Nat.blt_eq] using this
 ·have:=r i j g f a b c
  unfold A7 at this;rw[aZ b,aZ c,l,n]at this;simp only[cond_true,I0,Y5]at this;rcases this.1.1 with(h|h)|h
  ·exact .inl h
  ·exact .inr (.inl h)
  exact .inr (.inr h)
 ·have:=r i j g f a b c
  unfold A7 at this;rw[aZ b,aZ c,l]at this;have C:tV ops i j=true:=by
   unfold tV;rw[aZ b,y];simp only;rw[aZ c];exact Y3.2 ⟨d,D,Nat.beq_refl d⟩
  rw[C]at this;cases n:oy ds f with
  | true=>
   rw[n]at this;simp only[cond_true,I0,Bool.not_true,Bool.false_or]at this;exact this.1.2
  | false=>
   rw[n]at this;simp only[cond_true,cond_false,I0,Bool.not_true,Bool.false_or]at this;exact this.2
 ·have:=r i j g f a b c
  unfold A7 at this;rw[aZ b,aZ c,l,n,y,u]at this;simp[Nat.beq_refl]at this
 ·have:=r i j g f a b c
  unfold A7 at this;rw[aZ b,aZ c,l,n]at this;simp only[cond_true,cond_false,I0,Y5]at this;rcases this.1 with(h|h)|h
  ·exact .inl h
  ·exact .inr (.inl h)
  exact .inr (.inr h)
 ·have:=q j (T3.1 k).1
  rw[aZ k]at this;simp only[I0]at this;have:=this.1.2;rw[l,A]at this;simp only[B,Bool.not_true,Bool.false_or]at this;exact this
 have:=q j k;simp only[I0]at this;exact this.1.1.2
theorem pQ{l:List Nat}{j:Nat} : BI l j=true↔j∈l:=by
 unfold BI;rw[Y3];exact⟨λ⟨x,a,b⟩=>Z1 b ▸ a,λh=>⟨j,h,Nat.beq_refl j⟩⟩
theorem Fp{p:Nat->Prop} : ∀{l:List Nat}{i:Nat},RR p i l->∀j,j∈i::l->p j
 | [],i,h,j,a=>by rw[I1.1 a];exact h
 | k::l,i,h,j,a=>by
  rcases List.mem_cons.1 a with rfl|a
  ·exact h.1
  exact Fp h.2 j a
theorem Fn{l:List Nat}{K:Prop}{p:Nat->Prop}(h:RW l K p):(l=[]->K)/\∀j∈l,p j:=by
 cases l with
 | nil=>exact⟨λ_=>h,λj a=>by cases a⟩
 | cons i l=>exact⟨λe=>(by cases e),Fp h⟩
theorem rz{listed:Array Bool}{done:List Nat}(t:listed.size=ops.size)(b:∀j,j<ops.size->listed.getD j true=BI done j)(q:∀k∈done,k<ops.size){j:Nat} : j∈Region.ready .any ops listed↔j∈Nq ops done:=by
 have d:∀i,listed.getD i false=BI done i:=λi=>by
  by_cases n:i<ops.size
  ·rw[<-b i n]
   have f:i<listed.size:=ω
   simp[f]
  have f:listed.getD i false=false:=by simp[Array.getElem?_eq_none (show listed.size<=i by omega)]
  rw[f]
  symm
  rw[<-C5,pQ];exact λr=>n (q i r)
 rw[mem_ready];unfold Nq;rw[I4,List.mem_range,I0];constructor
 ·rintro⟨l,o,p,g⟩
  have a:=(T3.1 p).1;refine⟨a,by rw[<-b j a,l];rfl,Z3.2 λe h=>?_⟩;rw[aZ p]at h;cases c:Region.binds .any e with
  | false=>rfl
  | true=>
   have:=g e (by simpa using h) c;rw[d]at this;simpa using this
 rintro⟨a,l,f⟩
 refine⟨by rw[b j a];simpa using l,ops[j],Z5 a,λe h c=>?_⟩;have:=Z3.1 f e (by rw[aZ (Z5 a)];simpa using h);rw[c]at this;rw[d];simpa using this
theorem Qp{K:(Nat->AV)->Prop} : ∀(n:Nat)(done:List Nat)(listed:Array Bool)(F:Nat->AV),listed.size=ops.size->(∀j,j<ops.size->listed.getD j true=BI done j)->(∀k∈done,k<ops.size)->QQ P TE N ops K n done F->FC P TE N ops [] K n listed F
 | 0,done,listed,F,c,a,d,h=>by
  obtain⟨o,q⟩:=Fn h;have l:Nq ops done=[]:=List.eq_nil_iff_forall_not_mem.2 λj b=>q j b
  exact⟨List.eq_nil_iff_forall_not_mem.2 λj b=>(by rw[rz c a d,l]at b;cases b),o l⟩
 | n+1,done,listed,F,c,a,d,h=>by
  obtain⟨o,q⟩:=Fn h;refine⟨λl=>o (List.eq_nil_iff_forall_not_mem.2 λj b=>(by rw[<-rz c a d,l]at b;cases b)),λi y=>?_⟩;have f:=(rz c a d).1 y;have t:=q i f;have g:i<ops.size:=List.mem_range.1 (I4.1 f).1;have u:ops[i]? = some ops[i]:=Z5 g;unfold vu;rw[u];simp only;rw[aZ u]at t;have A:oy [] ops[i]=false:=by unfold oy;split<;>rfl
  rw[C8 (by rw[A];decide)];refine jO t λB C=>⟨λp _ w=>?_,Qp n (i::done) _ B (by simpa using c) (λj b=>?_) (λk r=>?_) C⟩
  ·have:oy [] (cX ops p)=false:=by unfold oy;split<;>rfl
   rw[this]at w;cases w
  ·by_cases e:j=i
   ·subst e
    rw[show BI (j::done) j=true from pQ.2 (V1 ..)];simp[c,b]
   rw[getD_set_ne true (Ne.symm e),a j b];rw[V4,pQ,pQ,List.mem_cons];exact⟨.inr,λh=>h.resolve_left e⟩
  rcases List.mem_cons.1 r with rfl|r
  ·exact g
  exact d k r
theorem ya(g:∀t i,TE t=some i->bP P t i)(C:P.follows .mixedOrders=true){id:Nat}{tb:List (Nat × Nat × List Nat)}(b:nQ tb id ops=true){K:(Nat->AV)->Prop}{Q:Exit->Act->World->Prop}(c:DD P TE N tb id ops K F)(D:St w0 M S0 N F a w)(E:∀F' U V,K F'->St w0 M S0 N F' U V->Q .normal U V):(Code.region id ops true).wp P Q a w:=by
 unfold nQ at b;unfold DD at c;cases q:yF tb id with
 | none=>rw[q]at b;cases b
 | some p=>
  obtain⟨m,L⟩:=p;rw[q]at b c;simp only at b c;cases r:Nat.ble 65536 m with
  | true=>
   rw[r]at c;refine wp_region_any C ?_;have l:St w0 M S0 N F a {w with drawn:=w.drawn+1}:=by
    obtain⟨S,φ,h⟩:=D;exact⟨S,φ,h.more (w1:={w with drawn:=w.drawn+1}) (λ_ _ h=>h) (λ_ _ h=>.inl h) ⟨rfl,rfl,rfl,z3 _,λ_ _ _=>rfl,λ_ _ _ _=>rfl,λ_ _ _ _=>rfl⟩⟩
   refine rF g (ds:=[]) E ops.size (Array.replicate ops.size false) _ a _ ?_ l;exact Qp ops.size [] _ F (by simp) (λj n=>by simp[n,BI]) (λk Z=>by cases Z) c
  | false=>
  rw[r]at b c;simp only[cond_false]at b c;cases u:Nat.ble 256 m with
  | false=>
   rw[u]at b c;exact Dn g C b c D E
  | true=>
   rw[u]at b c;simp only[cond_true,HC]at b c;generalize L.take (m - 256)=ds at b c;generalize dec (L.drop (m - 256))=sch at b c;obtain⟨W,y,e,A⟩:=Bl b;refine wp_region_any C ?_;have l:St w0 M S0 N (Ab.clr ds F) a {w with drawn:=w.drawn+1}:=by
    have h1:=D.clr ds;obtain⟨S,φ,h⟩:=h1;exact⟨S,φ,h.more (w1:={w with drawn:=w.drawn+1}) (λ_ _ h=>h) (λ_ _ h=>.inl h) ⟨rfl,rfl,rfl,z3 _,λ_ _ _=>rfl,λ_ _ _ _=>rfl,λ_ _ _ _=>rfl⟩⟩
   refine rF g (ds:=ds) E ops.size (Array.replicate ops.size false) _ a _ ?_ l;have B:∀d,ds.any (Nat.beq d)=true->∀t,(Ab.clr ds F t).uses d=false:=λd G t=>by
    rw[BF];cases X:ds.any (λd=>(F t).uses d) with
    | true=>rfl
    | false=>
     simp only[cond_false];cases hu:(F t).uses d with
     | false=>rfl
     | true=>
      obtain⟨d',f,he⟩:=Y3.1 G;have H:=Z1 he;subst H;have:ds.any (λd=>(F t).uses d)=true:=Y3.2 ⟨_,f,hu⟩;rw[this]at X;cases X
   rw[<-e];refine Do W sch _ _ y (by simp[e]) (λj n=>by rw[A j n];simp[e,n]) ⟨λj o d J Y _ G t=>?_,λj o T s J Y _ _ g2 g3 t=>B s (W.mvs j o T s J Y g2 g3) t⟩ (λj oj n hl=>by
     have O:=(T3.1 n).1;simp[e,O]at hl) c
   obtain⟨d',f,R⟩:=HR J;rw[G]at f;simp only[X0]at f;subst f;exact B d R t
end
def ki:List (Option Nat)->Kd
 | [ag]=>lK ag
 | a=>.tup a
def pE:ResultVar->Nat
 | .tmp t=>t
 | .cell t _=>t
def E4(tmps:Array Value):ResultVar->Sem Value
 | .tmp t=>pure (tmps.getD t undef)
 | .cell a t=>do loadVar t (<-asAddr (tmps.getD a undef))
def resOne(TE:Nat->Option TI)(F:Nat->AV)(r:ResultVar)(K:Option Nat->List C->Prop):Prop:=
 match r with
 | .tmp t=>(match F t with
   | .H .one cs=>K none cs
   | .H .agg cs=>K (some cs.length) cs
   | _=>False)
 | .cell t T=>match TE T with
  | some i=>bif i.agg || Nat.beq i.size 1 then(match F t with
    | .H .box cs=>bif Nat.beq cs.length i.size then K (qj i) cs else False
    | _=>False) else False
  | none=>False
def resA(TE:Nat->Option TI)(F:Nat->AV):List ResultVar->List Nat->(List (Option Nat)->List C->Prop)->Prop
 | [],_,K=>K [] []
 | r::rs,seen,K=>bif seen.any (Nat.beq (pE r)) then False else resOne TE F r λb c=>resA TE F rs (pE r::seen) λd a=>K (b::d) (c++a)
def RL:RA->AV
 | .val a cs=>.H (lK a) cs
 | .ptr cs=>.iref cs 0
 | .fn Ok=>.fv Ok
def vL:Nat->List RA->List (Nat × AV)
 | _,[]=>[]
 | i,A::As=>(i,RL A)::vL (i+1) As
inductive KZ:C->C->Prop
 |rfl_ (c:C):KZ c c
 |z_:KZ .z (.s .own [])
 |own_ (rows rows':List (List C)) (hl:rows.length=rows'.length) (hk:∀(i:Nat)(r r':List C),rows[i]? = some r->rows'[i]? = some r'->r.length=r'.length)
   (hr:∀(i j:Nat)(r r':List C)(c c':C),rows[i]? = some r->rows'[i]? = some r'->r[j]? = some c->r'[j]? = some c'->KZ c c'):KZ (.s .own rows) (.s .own rows')
def Mn(cs a:List C):Prop:=cs.length=a.length/\∀(j:Nat)(c b:C),cs[j]? = some c->a[j]? = some b->KZ c b
theorem Mn.nil:Mn [] []:=⟨rfl,λj c a h=>by simp at h⟩
theorem Mn.cons{c e:C}{cs a:List C}(h:KZ c e)(f:Mn cs a):Mn (c::cs) (e::a):=by
 refine⟨by simp[f.1],λj y g b d=>?_⟩;cases j with
 | zero=>simp at b d;subst b d;exact h
 | succ j=>exact f.2 j y g (by simpa using b) (by simpa using d)
theorem KZ.rep{n:Nat}{r k:List C}(h:Mn r k):KZ (.s .own (List.replicate n r)) (.s .own (List.replicate n k)):=by
 refine .own_ _ _ (by simp) (λi a b d e=>?_) (λi j a b c p d e l o=>?_)
 ·have f:=List.mem_replicate.1 (W1 d)
  have g:=List.mem_replicate.1 (W1 e);rw[f.2,g.2];exact h.1
 have f:=List.mem_replicate.1 (W1 d);have g:=List.mem_replicate.1 (W1 e);rw[f.2]at l;rw[g.2]at o;exact h.2 j c p l o
theorem Qg{w:World}{S Y:ah}{c:C}{v:Value}(h:eX w S Y c v):∀y,KZ c y->eX w S Y y v:=by
 induction h with
 | z F a=>
  intro y l;cases l with
  | rfl_=>exact .z _ _
  | z_=>exact .nil _ _ _ trivial
 | nil F o a T=>
  intro y l;cases l with
  | rfl_=>exact .nil _ _ _ T
  | own_ d e L=>obtain rfl:e=[]:=Y6 (by simpa using L.symm);exact .nil _ _ _ trivial
 | own F o g k n B d u f T Q R q E K hu hf l M ih=>
  intro y U;cases U with
  | rfl_=>exact .own _ o g k n B d u f T Q R q E K hu hf l M
  | own_ d e L N V=>
   have G:∀(i:Nat)(D:List C),e[i]? = some D->∃r,d[i]? = some r:=λi D H=>⟨_,C2 (by have:=(I2.1 H).1;omega)⟩
   refine .own _ .own g k n B e u f trivial (L.symm.trans Q) (λD W=>?_) q E K hu hf l (λi j D y H hj=>?_)
   ·obtain⟨i,H⟩:=List.mem_iff_getElem?.1 W
    obtain⟨r,t⟩:=G i D H;rw[<-N i r D t H];exact R r (W1 t)
   obtain⟨r,t⟩:=G i D H;have hlen:=N i r D t H;have hjl:=(I2.1 hj).1;have O:r[j]? = some (r[j]'(ω)):=C2 ω;exact ih i j r _ t O _ (V i j r D _ y t H O hj)
 | v F x X=>intro y l;cases l;exact .v _ _ X
 | x F u X=>intro y l;cases l;exact .x _ _ X
 | X F g Z k n B d u Q R q hS M ih=>intro y l;cases l;exact .X _ g Z k n B d u Q R q hS M
 | m F b p es A K hb he hv J=>intro y l;cases l;exact .m _ b p es A K hb he hv J
 | it F r b since c0 p seen A cur left K V hb J M hv L P=>intro y l;cases l;exact .it _ r b since c0 p seen A cur left K V hb J M hv L P
def WK(cs a:List C):Prop:=Mf cs a\/Mn cs a
inductive iX(k k':Kd)(cs cs':List C):Prop
 |mk_ (h:k=k'/\WK cs cs')
theorem mH:∀(cs:List C),Mf cs cs
 | []=>trivial
 | c::cs=>by
  refine⟨?_,mH cs⟩;cases c with
  | s o a=>cases o<;>rfl
  | x=>trivial
  | _=>rfl
theorem iX.mk{k b:Kd}{cs a:List C}(h1:k=b)(c:cs=a):iX k b cs a:=by refine .mk_ ?_;exact⟨h1,.inl (c ▸ mH cs)⟩
theorem iX.wk{k b:Kd}{cs a:List C}(h1:k=b)(c:Mf cs a):iX k b cs a:=.mk_ ⟨h1,.inl c⟩
theorem iX.dk{k b:Kd}{cs a:List C}(h1:k=b)(c:Mn cs a):iX k b cs a:=.mk_ ⟨h1,.inr c⟩
theorem iX.out{k b:Kd}{cs a:List C}(h:iX k b cs a):k=b/\WK cs a:=by obtain⟨h⟩:=h;exact h
theorem WK.len{cs a:List C}(h:WK cs a):cs.length=a.length:=h.elim (λh=>(si h).1) (λh=>h.1)
theorem WK.row{w:World}{S Y:ah}{cs c:List C}{u:Nat->Value}(a:WK cs c)(h:cV w S Y cs u):cV w S Y c u:=by
 rcases a with a|a
 ·exact Bb a h
 obtain⟨f,k,l,n⟩:=h;refine⟨f,λj i b=>?_,λj b=>l j (by rw[a.1];exact b),λj o b g=>n j o (by rw[a.1];exact b) (by rw[a.1];exact g)⟩;have d:=(I2.1 b).1;have e:cs[j]? = some (cs[j]'(by rw[a.1];exact d)):=C2 (by rw[a.1];exact d);exact Qg (k j _ e) i (a.2 j _ i e b)
def P0(TE:Nat->Option TI)(c:List ResultVar)(k:Kd)(rcs:List C):Exit->(Nat->AV)->Prop:=λe F=>
 match e with
 | .normal=>resA TE F c [] λa b=>iX (ki a) k b rcs
 | .ret=>resA TE F c [] λa b=>iX (ki a) k b rcs
 | _=>False
def PB(F:Nat->AV)(t:Nat)(rcs:List C):Prop:=
 match F t with
 | .H .box cs=>iX .box .box cs rcs
 | .ref a 0 []=>(match F a with
   | .H .box cs=>iX .box .box cs rcs
   | _=>False)
 | _=>False
def R5(t:Nat)(rcs:List C):Exit->(Nat->AV)->Prop:=λe F=>
 match e with
 | .normal=>PB F t rcs
 | .ret=>PB F t rcs
 | _=>False
section
variable{P:Program}{w0 w w1:World}{M S0 S:ah}{N:fC}{φ:Nat->ah}{F:Nat->AV}{a:Act}{TE:Nat->Option TI}
theorem bj.resOne(h:bj w0 M S0 N S φ F a w)(u:∀t i,TE t=some i->bP P t i){r:ResultVar}{K:Option Nat->List C->Prop}(b:resOne TE F r K) :
  ∃ag cs v,K ag cs/\bW w S (φ (pE r)) ag cs v/\(E4 a.tmps r).run P w=.ok v w:=by
 cases r with
 | tmp t=>
  have e:=h.slot t;simp only[Ab.resOne]at b;cases f:F t with
  | H k cs=>
   rw[f]at b e;obtain⟨G,Y,H,l,J,E,n⟩:=e;cases k with
   | one=>exact⟨none,cs,tvs a t,b,⟨E,_,rfl,n.mono (λ_ _ h=>h) l⟩,rfl⟩
   | agg=>
    obtain⟨arr,p,y⟩:=E;refine⟨some cs.length,cs,tvs a t,b,⟨rfl,ch w .agg (tvs a t),?_,n.mono (λ_ _ h=>h) l⟩,rfl⟩;rw[p];have:=pZ arr;rw[y]at this;exact this
   | _=>exact b.elim
  | _=>rw[f]at b;exact b.elim
 | cell t T=>
  have e:=h.slot t;simp only[Ab.resOne]at b;split at b
  case h_2=>exact b.elim
  rename_i i L;have O:=u _ _ L;cases q:(i.agg || Nat.beq i.size 1) with
  | false=>rw[q]at b;exact b.elim
  | true=>
   rw[q]at b;simp only[cond_true]at b;cases f:F t with
   | H k cs=>
    rw[f]at b e;cases k with
    | box=>
     simp only at b;cases A:Nat.beq cs.length i.size with
     | false=>rw[A]at b;exact b.elim
     | true=>
      rw[A]at b;have B:=Z1 A;obtain⟨G,Y,H,l,J,⟨g,o,p,Q⟩,n⟩:=e;have c:∀d,d<i.size->cel w g (o+d)=some (ch w .box (tvs a t) d):=λd U=>by
       obtain⟨-,⟨z,R⟩,-⟩:=Q d ω;rw[p];simp only[ch,R,Option.getD_some]
      have j:=w7 (w:=w) O q c;refine⟨_,cs,_,b,⟨by rw[pA q];exact B,_,rfl,n.mono (λ_ _ h=>h) l⟩,?_⟩;have D:a.tmps.getD t undef=.pointer (some ⟨g,o,none⟩):=p;simp only[E4,D,asAddr];exact j
    | _=>exact b.elim
   | _=>rw[f]at b;exact b.elim
theorem GX{ag:Option Nat}{cs:List C}{v:Value}{Y:ah}(h:bW w S Y ag cs v):∃u,v.cells.toList=(List.range cs.length).map u/\cV w S Y cs u/\v=mkv ag u:=by
 obtain⟨a,u,rfl,b⟩:=h;refine⟨u,?_,b,rfl⟩;rw[qb (λe=>by subst e;exact b.one (by simp at a;omega)),a]
theorem Ha{p q:ah}{cs l:List C}{u D:Nat->Value}(h:cV w S p cs u)(h':cV w S q l D)(E:∀b o,p b o->¬q b o) :
  cV w S (λb o=>p b o\/q b o) (cs++l) (λj=>if j<cs.length then u j else D (j - cs.length)):=by
 obtain⟨f,F,r,G⟩:=h;obtain⟨H,t,k,y⟩:=h';refine⟨λj=>if j<cs.length then f j else H (j - cs.length),λj c i=>?_,λj i b o g=>?_,λj n i A B b o g a=>?_⟩
 ·by_cases e:j<cs.length
  ·simp only[C9 e];rw[O4 e]at i;exact F j c i
  simp only[C8 e];rw[T4 ω]at i;exact t _ c i
 ·rw[I3]at i
  by_cases e:j<cs.length
  ·rw[C9 e]at g;exact .inl (r j e b o g)
  rw[C8 e]at g;exact .inr (k _ ω b o g)
 rw[I3]at i A;by_cases e:j<cs.length
 ·rw[C9 e]at g
  by_cases d:n<cs.length
  ·rw[C9 d]at a;exact G j n e d B b o g a
  rw[C8 d]at a;exact E b o (r j e b o g) (k _ ω b o a)
 rw[C8 e]at g;by_cases d:n<cs.length
 ·rw[C9 d]at a;exact E b o (r n d b o a) (k _ ω b o g)
 rw[C8 d]at a;exact y _ _ ω ω ω b o g a
theorem bj.resA(h:bj w0 M S0 N S φ F a w)(l:∀t i,TE t=some i->bP P t i):∀{E:List ResultVar}{seen:List Nat}{K:List (Option Nat)->List C->Prop},resA TE F E seen K->
  ∃sh cs vs u,K sh cs/\(E.mapM (E4 a.tmps)).run P w=.ok vs w/\y7 sh vs/\sh.length=E.length/\qo sh=cs.length/\
   (vs.flatMap λv=>v.cells.toList)=(List.range cs.length).map u/\(∀ag,sh=[ag]->∃v,vs=[v]/\bW w S (λb o=>∃t,t∉seen/\φ t b o) ag cs v)/\cV w S (λb o=>∃t,t∉seen/\φ t b o) cs u
 | [],seen,K,f=>⟨[],[],[],λ_=>undef,f,rfl,trivial,rfl,rfl,rfl,λ_ h=>by simp at h,cV.nil _ _ _ _⟩
 | r::E,seen,K,f=>by
  simp only[Ab.resA]at f;cases c:seen.any (Nat.beq (pE r)) with
  | true=>rw[c]at f;exact f.elim
  | false=>
   rw[c]at f;simp only[cond_false]at f;have p:pE r∉seen:=λH=>by
    have:seen.any (Nat.beq (pE r))=true:=Y3.2 ⟨_,H,Nat.beq_refl _⟩;rw[this]at c;cases c
   obtain⟨ag,cs,v,f,G,q⟩:=h.resOne l f;obtain⟨sh,d,vs,X,Y,k,J,L,U,hcells,-,y⟩:=bj.resA h l f;obtain⟨u,O,V,A⟩:=GX G;have Z:∀b o,φ (pE r) b o->¬∃t,t∉pE r::seen/\φ t b o:=λb o g ⟨t,Q,R⟩=>h.dis _ _ (λe=>Q (by rw[<-e];simp)) b o g R
   refine⟨ag::sh,cs++d,v::vs,λj=>if j<cs.length then u j else X (j - cs.length),Y,?_,?_,by simp[L],?_,?_,?_,?_⟩
   ·rw[List.mapM_cons]
    simp only[Sem.run_bind,q,Result.andThen_ok,k,Sem.run_pure]
   ·obtain⟨hl,-⟩:=G
    cases ag with
    | none=>
     refine⟨?_,J⟩;rw[A];have W:(u 0).oneCell'=true:=V.one (by simp at hl;omega);show(u 0).cells = #[u 0];cases hu:u 0<;>first|(rw[hu]at W;cases W;done)|rfl
    | some n=>exact⟨⟨_,by rw[A];rfl,by simp⟩,J⟩
   ·rw[qS,I3,U,G.1]
   ·simp only[O6,O,hcells,I3]
    apply List.ext_getElem?;intro j;by_cases T:j<cs.length
    ·rw[O4 (by simpa using T)];simp[T,Nat.lt_add_right]
    rw[T4 (by simp;omega)];by_cases B:j - cs.length<d.length
    ·simp[T,B,show j<cs.length+d.length by omega]
    simp[B,show ¬j<cs.length+d.length by omega]
   ·intro ag' D
    simp only[List.cons.injEq]at D;obtain⟨rfl,rfl⟩:=D;cases vs with
    | cons _ _=>exact J.elim
    | nil=>
     have:d=[]:=Y6 (by simpa[qo] using U.symm);subst this;exact⟨v,rfl,by rw[List.append_nil];exact G.mono (λ_ _ h=>h) (λb o g=>⟨_,p,g⟩)⟩
   exact(Ha V y Z).mono (λ_ _ h=>h) (λb o g=>g.elim (λg=>⟨_,p,g⟩) (λ⟨t,Q,g⟩=>⟨t,λH=>Q (z5 _ H),g⟩))
theorem up:∀{A:List RA}{vs:List Value}(i:Nat),yG w S A vs->∀t,(lay (vL i A) t=.dead)\/(∃a v,i<=t/\vs[t - i]? = some v/\lay (vL i A) t=RL a/\oY w S a v)
 | [],_,i,_,t=>.inl rfl
 | a::A,[],i,h,t=>h.elim
 | a::A,v::vs,i,h,t=>by
  simp only[vL,lay];cases b:Nat.beq t i with
  | true=>
   have:=Z1 b;subst this;exact .inr ⟨a,v,z3 _,by simp,rfl,h.1⟩
  | false=>
   have d:t≠i:=λe=>by subst e;rw[Nat.beq_refl]at b;cases b
   rcases up (i+1) h.2 t with c|⟨f,g,c,j,k⟩
   ·exact .inl c
   refine .inr ⟨f,g,ω,?_,k⟩;rw[show t - i=(t - (i+1))+1 by omega];simpa using j
theorem oY.slot{A:RA}{v:Value}(h:oY w S A v){tv:Nat->Value} : cI w S F tv NO (RL A) v:=by
 cases A with
 | val f a=>exact bW.slot h
 | ptr a=>obtain⟨g,b,u,c,d,e⟩:=h;exact⟨g,b,u,by rw[c,Nat.add_zero],d,e⟩
 | fn Ok=>exact h
theorem B3:∀{A:List RA}{vs:List Value},yG w S A vs->A.length=vs.length
 | [],[],_=>rfl
 | _::_,_::_,h=>by simp[B3 h.2]
 | [],_::_,h=>h.elim
 | _::_,[],h=>h.elim
theorem KC{D : Nat -> Array Oper -> ((Nat -> AV) -> Prop) -> (Nat -> AV) -> Prop}{f : Nat}{d : Func}{c : Code}{sh : Bool}{A : List RA}{k : Kd}{rcs : List C}(M : ∀t i, TE t = some i -> bP P t i)(hf : P.funcs[f]? = some d)(hn : (d.name == "runtime.NumGoroutine") = false)(g:d.body=some c){ck:Nat->Array Oper->Bool}(hD:xe P N ck D)(hc:gu ck c=true)(hN:A.length+(d.ntmps - A.length)=N.n)(hkp:N.kp=[])(hsh:sh=true\/hC rcs)(W:aw P TE N D c (P0 TE d.results.toList k rcs) (lay (vL 0 A))):ar P f sh A k rcs:=by
 refine⟨⟨d,hf,hn,by rw[g];rfl⟩,λw S y hS hA=>?_⟩;have hlen:=B3 hA;refine calls_of_wp hf g ?_;have hst:St w NO S N (lay (vL 0 A)) {tmps:=y.toArray++Array.replicate (d.ntmps - y.toArray.size) undef,defers:=[]} w:=by
  refine⟨S,λ_=>NO,λt=>?_,λ_ _ _ _ _ h=>h.elim,λ_ _ _ h=>h.elim,λ_ _ _ h=>h.elim,λ_ _ h=>h,λb o h=>⟨hS b o h,.inl h⟩,CZ _ _,by simp;omega,rfl,λp W=>by rw[hkp]at W;cases W⟩;rcases up 0 hA t with r|⟨A0,v,-,B,G,h4⟩
  ·rw[r];trivial
  rw[G];have hv:tvs {tmps:=y.toArray++Array.replicate (d.ntmps - y.toArray.size) undef,defers:=[]} t=v:=by
   have hlt:=(I2.1 B).1;simp only[tvs,I6];rw[Array.getElem?_append_left (by simpa using hlt)];simp only[List.getElem?_toArray];rw[show y[t]? = some v by simpa using B];rfl
  rw[hv];exact h4.slot
 refine jl M hD c hc _ _ _ _ w W hst λe F' K l he hs'=>?_
 obtain⟨S',φ',h⟩:=hs';have fin:resA TE F' d.results.toList [] (λsh O=>iX (ki sh) k O rcs)->K.defers=[]/\∃v,(results d K.tmps).run P l=.ok v l/\(∃v',Ending.returned v=.returned v'/\bV NO w l/\∃X S1:ah,(∀b o,X b o->b<l.heap.size/\w.heap.size<=b)/\
     (∀b o,S1 b o->(sh=true/\S b o)\/(b<l.heap.size/\w.heap.size<=b))/\(∀b o,X b o->¬S1 b o)/\gt l NO k rcs.length v'/\cV l S1 X rcs (ch l k v')):=by
  intro hr;obtain⟨shs,O,a,u,Q,R,E,hln,T,hcells,q,U⟩:=h.resA M hr;obtain⟨rfl,V⟩:=Q.out;refine⟨h.defers,?_⟩;have J:(results d K.tmps).run P l=.ok (if h:a.toArray.size=1 then a.toArray[0] else .tuple a.toArray) l:=by
   have e:results d K.tmps=(do let y <-d.results.mapM (E4 K.tmps);pure (if h:y.size=1 then y[0] else .tuple y)):=by
    unfold results
    congr 1
   rw[e,<-Array.toArray_toList (xs:=d.results),List.mapM_toArray];simp only[Sem.run_bind,Sem.run_map,R,Result.andThen_ok,Sem.run_pure]
  refine⟨_,J,_,rfl,h.old,λb o=>∃t,φ' t b o,λb o=>(sh=true/\S' b o)\/(S' b o/\w.heap.size<=b),λb o ⟨t,g⟩=>⟨(h.ex t b o g).1,(h.ex t b o g).2.resolve_right (λh=>h)⟩,λb o g=>?_,λb o ⟨t,g⟩ hb'=>h.disS t b o g (hb'.elim (·.2) (·.1)),?_⟩
  ·rcases g with⟨r,B⟩|⟨r,B⟩
   ·rcases(h.sup b o B).2 with G|G|G
    ·exact .inl ⟨r,G⟩
    ·exact .inr ⟨(h.sup b o B).1,G⟩
    exact G.elim
   exact .inr ⟨(h.sup b o r).1,B⟩
  have L:gt l NO (ki shs) O.length (if h:a.toArray.size=1 then a.toArray[0] else .tuple a.toArray)/\cV l S' (λb o=>∃t,φ' t b o) O (ch l (ki shs) (if h:a.toArray.size=1 then a.toArray[0] else .tuple a.toArray)):=by
   have H:∀b o,(∃t,t∉([]:List Nat)/\φ' t b o)->∃t,φ' t b o:=λb o ⟨t,_,g⟩=>⟨t,g⟩
   match shs,E,q,T with
   | [],E,_,T=>
    cases a with
    | cons _ _=>exact E.elim
    | nil=>
     have:O=[]:=Y6 (by simpa[qo] using T.symm);subst this;exact⟨⟨_,rfl,trivial,rfl⟩,cV.nil _ _ _ _⟩
   | [Z],_,q,_=>
    obtain⟨v,rfl,hv⟩:=q Z rfl;have:=(hv.mono (λ_ _ h=>h) H).slot (F:=F') (tv:=tvs K);obtain⟨X1,Y,r,B,G,h4,h5⟩:=this;refine⟨?_,h5.mono (λ_ _ h=>h) B⟩;cases Z<;>exact h4
   | Z::ag2::sh,E,_,T=>
    have hsz:¬a.toArray.size=1:=by
     match a,E with
     | [],E=>simp
     | [v],E=>cases Z<;>cases ag2<;>exact E.2.elim
     | _::_::_,_=>simp
    rw[dif_neg hsz];refine⟨⟨_,rfl,E,T⟩,(U.mono (λ_ _ h=>h) H).congr λj hj=>?_⟩;simp only[ch,ki,mB,hcells];simp[List.getD,hj]
  replace L:=CK L.1 (V.row L.2);refine⟨by rw[<-V.len];exact L.1,?_⟩;rcases hsh with r|r
  ·exact L.2.mono (λb o g=>.inl ⟨r,g⟩) (λ_ _ h=>h)
  exact(L.2.fresh r).mono (λ_ _ h=>h.elim) (λ_ _ h=>h)
 cases e with
 | normal=>exact fin he
 | ret=>exact fin he
 | _=>exact he.elim
theorem Kx{D : Nat -> Array Oper -> ((Nat -> AV) -> Prop) -> (Nat -> AV) -> Prop}{f t : Nat}{j : Func}{c : Code}{A : List RA}{rcs : List C}(R : ∀t i, TE t = some i -> bP P t i)(hf : P.funcs[f]? = some j)(hn : (j.name == "runtime.NumGoroutine") = false)(a:j.body=some c){ck:Nat->Array Oper->Bool}(hD:xe P N ck D)(hc:gu ck c=true)(hN:A.length+(j.ntmps - A.length)=N.n)(T:N.kp=[])(hr:j.results = #[.tmp t])(K:aw P TE N D c (R5 t rcs) (lay (vL 0 A))):qN P f true A .box rcs:=by
 refine⟨⟨j,hf,hn,by rw[a];rfl⟩,λw S E hS hA=>?_⟩;have hlen:=B3 hA;refine calls_of_wp hf a ?_;have U:St w NO S N (lay (vL 0 A)) {tmps:=E.toArray++Array.replicate (j.ntmps - E.toArray.size) undef,defers:=[]} w:=by
  refine⟨S,λ_=>NO,λt=>?_,λ_ _ _ _ _ h=>h.elim,λ_ _ _ h=>h.elim,λ_ _ _ h=>h.elim,λ_ _ h=>h,λb o h=>⟨hS b o h,.inl h⟩,CZ _ _,by simp;omega,rfl,λp K=>by rw[T]at K;cases K⟩;rcases up 0 hA t with L|⟨A0,v,-,F,M,V⟩
  ·rw[L];trivial
  rw[M];have O:tvs {tmps:=E.toArray++Array.replicate (j.ntmps - E.toArray.size) undef,defers:=[]} t=v:=by
   have W:=(I2.1 F).1;simp only[tvs,I6];rw[Array.getElem?_append_left (by simpa using W)];simp only[List.getElem?_toArray];rw[show E[t]? = some v by simpa using F];rfl
  rw[O];exact V.slot
 refine jl R hD c hc _ _ _ _ w K U λe F' y q Z hs'=>?_
 obtain⟨S',φ',h⟩:=hs';have fin:PB F' t rcs->y.defers=[]/\∃v,(results j y.tmps).run P q=.ok v q/\(∃v',Ending.returned v=.returned v'/\bV NO w q/\∃X S1:ah,(∀b o,X b o->b<q.heap.size/\w.heap.size<=b)/\
     (∀b o,S1 b o->(true=true/\S b o)\/(b<q.heap.size/\w.heap.size<=b))/\(∀b o,X b o->¬S1 b o)/\∃B Y:ah,(∀b o,B b o->X b o)/\(∀b o,Y b o->X b o)/\(∀b o,B b o->¬Y b o)/\gt q B .box rcs.length v'/\cV q S1 Y rcs (ch q .box v')):=by
  intro k;have core:∃(d:Nat)(r:List C),tvs y t=tvs y d/\F' d=.H .box r/\iX .box .box r rcs:=by
   unfold PB at k;split at k
   ·rename_i r u
    exact⟨t,r,rfl,u,k⟩
   ·rename_i d hF2
    split at k
    case h_2=>exact k.elim
    rename_i r u;refine⟨d,r,?_,u,k⟩;have G:=h.slot t;rw[hF2]at G;obtain⟨k0,cs0,r0,j0,g0,o0,e1,-,Q,e4⟩:=G;have H:=h.slot d;rw[u]at H;rw[u]at e1;simp only[AV.H.injEq]at e1;obtain⟨rfl,rfl⟩:=e1;obtain⟨B,Y,L,F,M,⟨g,o,O,-⟩,h5⟩:=H;rw[O]at Q;simp only[plc,ov,v5,X0,Prod.mk.injEq]at Q;rw[e4,O,<-Q.1,<-Q.2]
    rfl
   exact k.elim
  obtain⟨d,r,htt,u,k⟩:=core;have J:=k.out.2;have H:=h.slot d;rw[u]at H;obtain⟨B,Y,L,F,M,V,h5⟩:=H;refine⟨h.defers,tvs y d,?_,tvs y d,rfl,h.old,φ' d,λb o=>S' b o/\(S b o\/w.heap.size<=b),λb o a=>⟨(h.ex d b o a).1,(h.ex d b o a).2.resolve_right (λh=>h)⟩,λb o a=>?_,λb o a hb'=>h.disS d b o a hb'.1,B,Y,L,F,M,?_,?_⟩
  ·rw[<-htt];simp[results,hr,tvs]
  ·rcases a.2 with l|l
   ·exact .inl ⟨rfl,l⟩
   exact .inr ⟨(h.sup b o a.1).1,l⟩
  ·rw[<-J.len];exact V
  exact(J.row h5).mono (λb o a=>⟨a,by
    rcases(h.sup b o a).2 with l|l|l
    · exact .inl l
    · exact .inr l
    exact l.elim⟩) (λ_ _ h=>h)
 cases e with
 | normal=>exact fin Z
 | ret=>exact fin Z
 | _=>exact Z.elim
end
def DF(P:Program)(TE:Nat->Option TI)(N:fC)(tb:List (Nat × Nat × List Nat))(id:Nat)(ops:Array Oper)(K:(Nat->AV)->Prop)(F:Nat->AV):Prop:=
 match yF tb (id+1048576) with
 | some (t,offs)=>sR t offs (DD P TE N tb id ops K) F
 | none=>DD P TE N tb id ops K F
theorem rc{P:Program}{TE:Nat->Option TI}(a:∀t i,TE t=some i->bP P t i)(e:P.follows .mixedOrders=true)(N:fC)(tb:List (Nat × Nat × List Nat)):xe P N (nQ tb) (DF P TE N tb):=
 λ_ _ b _ _ _ _ _ _ _ _ c f g=>by
  unfold DF at c;split at c
  ·obtain⟨j,h,d⟩:=xR c f
   exact ya a e b h d g
  exact ya a e b c f g
end Go.Proofs.YtecefhjnejfheaaGreat.Ab
