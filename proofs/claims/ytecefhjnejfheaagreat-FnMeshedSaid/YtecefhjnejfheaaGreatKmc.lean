/- A slot-only operation looks at its operands alone (the rest), and: a region that draws its order may be run in the text's. No condition. -/
import Derived.Test.YtecefhjnejfheaaGreatKmb
import Derived.Orders
import Derived.Test.YtecefhjnejfheaaGreatKma
set_option linter.unusedVariables false
set_option linter.defProp false
set_option linter.unusedSimpArgs false
set_option linter.constructorNameAsVariable false
namespace Go.Proofs.YtecefhjnejfheaaGreat.Ab
open Go.RowKit
section
variable{F:Nat->AV}{K:AV->Prop}{TE:Nat->Option TI}{P:Program}
def Ly{g:BinOp}{x y:Value}{K K':Value->Prop}(h:Ds g x y K)(i:∀v,K v->K' v):Ds g x y K':=by
 cases x<;>cases y<;>try exact h.elim
 rename_i k a j b;have c:∀{X Y:Prop},(bif gG k j then X else False)->(X->Y)->(bif gG k j then Y else False):=fun {X Y} h e=>by
  cases o:gG k j with
  | true=>rw[o]at h;exact e h
  | false=>rw[o]at h;exact h.elim
 have d:∀{k:IntKind}{x:Int},Wr k x (λz=>K (.int k z))->Wr k x (λz=>K' (.int k z)):=λh=>by
  obtain⟨z,l,n⟩:=h.out;exact CN l (i _ n)
 have q:∀{k:IntKind}{x:Int},Ev x (λz=>K (.int k z))->Ev x (λz=>K' (.int k z)):=λh=>by
  obtain⟨z,l,n⟩:=h.out;exact CR l (i _ n)
 have f:∀{p X Y:Prop},Cd p X->(X->Y)->Cd p Y:=λh e=>CO h.out.1 (e h.out.2)
 cases g<;>simp only[Ds]at h |-
 case add=>exact c h d
 case sub=>exact c h d
 case mul=>exact c h d
 case quo=>exact c h λh=>f h d
 case rem=>exact c h λh=>f h q
 case and=>exact c h d
 case or=>exact c h d
 case xor=>exact c h d
 case andNot=>exact c h d
 case shl=>exact f h d
 case shr=>exact f h q
 all_goals exact c h (i _)
def MY{f:BinOp}{x y:Value}{K:Value->Prop}(h:Ds f x y K):∃v,K v/\Ds f x y (· = v):=by
 cases x<;>cases y<;>try exact h.elim
 rename_i k a g b;have e:∀{X:Prop},(bif gG k g then X else False)->X/\∀Y:Prop,Y->(bif gG k g then Y else False):=fun {X} h=>by
  cases i:gG k g with
  | true=>rw[i]at h;exact⟨h,λY j=>j⟩
  | false=>rw[i]at h;exact h.elim
 cases f<;>simp only[Ds]at h |-
 case add=>obtain⟨h,b⟩:=e h;obtain⟨z,c,d⟩:=h.out;exact⟨_,d,b _ (CN c rfl)⟩
 case sub=>obtain⟨h,b⟩:=e h;obtain⟨z,c,d⟩:=h.out;exact⟨_,d,b _ (CN c rfl)⟩
 case mul=>obtain⟨h,b⟩:=e h;obtain⟨z,c,d⟩:=h.out;exact⟨_,d,b _ (CN c rfl)⟩
 case quo=>obtain⟨h,b⟩:=e h;obtain⟨z,c,d⟩:=h.out.2.out;exact⟨_,d,b _ (CO h.out.1 (CN c rfl))⟩
 case rem=>obtain⟨h,b⟩:=e h;obtain⟨z,c,d⟩:=h.out.2.out;exact⟨_,d,b _ (CO h.out.1 (CR c rfl))⟩
 case and=>obtain⟨h,b⟩:=e h;obtain⟨z,c,d⟩:=h.out;exact⟨_,d,b _ (CN c rfl)⟩
 case or=>obtain⟨h,b⟩:=e h;obtain⟨z,c,d⟩:=h.out;exact⟨_,d,b _ (CN c rfl)⟩
 case xor=>obtain⟨h,b⟩:=e h;obtain⟨z,c,d⟩:=h.out;exact⟨_,d,b _ (CN c rfl)⟩
 case andNot=>obtain⟨h,b⟩:=e h;obtain⟨z,c,d⟩:=h.out;exact⟨_,d,b _ (CN c rfl)⟩
 case shl=>obtain⟨z,c,d⟩:=h.out.2.out;exact⟨_,d,CO h.out.1 (CN c rfl)⟩
 case shr=>obtain⟨z,c,d⟩:=h.out.2.out;exact⟨_,d,CO h.out.1 (CR c rfl)⟩
 all_goals(obtain⟨h,b⟩:=e h;exact⟨_,h,b _ rfl⟩)
def Po{b:BinOp}{T:Nat}{x y:Value}{K:Value->Prop}(h:Gk TE b T x y K):∃v,K v/\∀K':Value->Prop,K' v->Gk TE b T x y K':=by
 unfold Gk at h;split at h
 ·split at h
  case h_2=>exact h.elim
  rename_i f;cases b<;>simp only at h<;>try exact h.elim
  all_goals exact⟨_,h,λK' a=>by unfold Gk;simp only[f];exact a⟩
 ·cases b<;>simp only at h<;>try exact h.elim
  case add=>obtain⟨c,d⟩:=h.out;obtain⟨z,g,i⟩:=d.out;exact⟨_,i,λK' a=>CO c (Es.mk g a)⟩
  all_goals exact⟨_,h,λK' a=>a⟩
 rename_i c d;obtain⟨v,j,k⟩:=MY h;refine⟨v,j,λK' a=>?_⟩;have:=Ly (K':=K') k λl e=>by rw[e];exact a
 unfold Gk;split
 ·exact(c _ _ rfl rfl).elim
 ·exact(d _ _ rfl rfl).elim
 exact this
def NT{a:UnOp}{x:Value}{K K':Value->Prop}(h:Qk a x K)(b:∀v,K v->K' v):Qk a x K':=by
 unfold Qk at h |-;split at h
 ·exact b _ h
 ·obtain⟨z,c,d⟩:=Wr.out h;exact CN c (b _ d)
 exact h.elim
def Qj{a:UnOp}{x:Value}{K:Value->Prop}(h:Qk a x K):∃v,K v/\Qk a x (· = v):=by
 unfold Qk at h;split at h
 ·exact⟨_,h,rfl⟩
 ·obtain⟨z,b,c⟩:=Wr.out h;exact⟨_,c,CN b rfl⟩
 exact h.elim
def LQ{c x y:Operand}(h:Jt F c x y K):oI (λF K=>Jt F c x y K) F (tm c++tm x++tm y) K:=by
 obtain⟨z,f,r⟩:=js h;cases z with
 | bool b=>
  cases b with
  | true=>
   obtain⟨g,i,j,k⟩:=kw (Bf.out f);refine⟨g,i,λd l=>(j d l).imp (λh=>by simp[h]) (λ⟨t,n,o⟩=>⟨t,by simp[n],o⟩),λa e p q=>r a (e.mono (by simp +contextual)) _ (Bf.in_ (k a (e.mono (by simp +contextual)) p q))⟩
  | false=>
   obtain⟨g,i,j,k⟩:=kw (Bf.out f);refine⟨g,i,λd l=>(j d l).imp (λh=>by simp[h]) (λ⟨t,n,o⟩=>⟨t,by simp[n],o⟩),λa e p q=>r a (e.mono (by simp +contextual)) _ (Bf.in_ (k a (e.mono (by simp +contextual)) p q))⟩
 | _=>exact f.elim
def PF{x:Operand}(h:QO F x K):oI (λF K=>QO F x K) F (tm x) K:=by
 obtain⟨i,c,a,d⟩:=cz h;cases b:aZ c with
 | false=>rw[b]at a;exact a.elim
 | true=>rw[b]at a;exact⟨_,a,CS _ _ _ _,λe f j g=>d e f _ (by rw[b];exact g)⟩
def Ga{x:Operand}{i:Nat}(h:kg F x i K):oI (λF K=>kg F x i K) F (tm x) K:=by
 cases x with
 | tmp t=>
  have e:t∈tm (.tmp t):=by simp[tm]
  simp only[kg]at h;cases a:F t with
  | H k l=>
   rw[a]at h;cases k with
   | tup n=>
    simp only at h;cases b:DW n i with
    | none=>rw[b]at h;exact h.elim
    | some p=>
     rw[b]at h;simp only at h;cases c:aZ (b9 l p.1 (p.2.getD 1)) with
     | true=>rw[c]at h;exact⟨_,h,CS _ _ _ _,λo f q g=>by simp only[kg,(f t e).1,a,b,c,cond_true];exact g⟩
     | false=>rw[c]at h;exact⟨_,h,λd j=>.inl (by simp[AV.uses]at j;subst j;exact e),λo f q g=>by simp only[kg,(f t e).1,a,b,c,cond_false];exact g⟩
   | _=>exact h.elim
  | _=>rw[a]at h;exact h.elim
 | _=>exact h.elim
def Qx{T:Nat}{x:Operand}(h:H0 TE F T x K):oI (λF K=>H0 TE F T x K) F (tm x) K:=by
 unfold H0 at h;unfold oI H0;split at h
 ·obtain⟨g,i,a,e⟩:=cz h
  match g,i,a with
  | none,[.s o rows],a=>exact⟨_,Ln.out a,CS _ _ _ _,λb c f d=>e b c _ (Ln.mk rfl d)⟩
  | none,[.z],a=>exact⟨_,a,CS _ _ _ _,λb c f d=>e b c _ d⟩
 ·obtain⟨z,a,e⟩:=js h
  cases z with
  | string s=>exact⟨_,Ln.out a,CS _ _ _ _,λb c f d=>e b c _ (Ln.mk rfl d)⟩
  | _=>exact a.elim
 exact h.elim
def PE{T:Nat}{x:Operand}(h:Ho TE F T x K):oI (λF K=>Ho TE F T x K) F (tm x) K:=by
 unfold Ho at h;unfold oI Ho;split at h
 ·obtain⟨g,i,a,f⟩:=cz h
  match g,i,a with
  | none,[.s o rows],a=>exact⟨_,a.out.2,CS _ _ _ _,λb d j e=>f b d _ (Nn.mk a.out.1 e)⟩
  | none,[.v (.slice A n c)],a=>exact⟨_,a,CS _ _ _ _,λb d j e=>f b d _ e⟩
 exact h.elim
def PG{f:BinOp}{T:Nat}{x y:Operand}(h:GD P F f T x y K):oI (λF K=>GD P F f T x y K) F (tm x++tm y) K:=by
 unfold GD at h;unfold oI GD;obtain⟨j,C,k,l⟩:=cz h;obtain⟨ag2,ds,a,b⟩:=cz k
 match j,ag2,a with
 | some n,some m,c=>
  obtain⟨o,p,q⟩:=pV c;obtain⟨t,u,w⟩:=pV p;obtain⟨r,A,B⟩:=u.out;exact⟨_,B,CS _ _ _ _,λg i D d=>l g (i.mono λ_ e=>List.mem_append_left _ e) _ (b g (i.mono λ_ e=>List.mem_append_right _ e) _ (by rw[q,w];exact HL o (HL t (RO.mk A d))))⟩
def A5{x:Operand}{F':Nat->AV}(a:j7 F F' (tm x)):isAgg F' x=isAgg F x:=by
 cases x with
 | tmp t=>unfold isAgg;simp only;rw[(a t (by simp[tm])).1]
 | _=>rfl
def tms(xs:List Operand):List Nat:=xs.flatMap tm
def MM{x:Operand}{k:Bool->RA->Prop}(h:argV F x k):∃b A,k b A/\∀F':Nat->AV,j7 F F' (tm x)->∀i:Bool->RA->Prop,i b A->argV F' x i:=by
 have key:∀F':Nat->AV,j7 F F' (tm x)->np F' x=np F x:=λF' j=>j.ev
 have w:∀n,np F x=n->iG F n (wb k)->(∀F' i,np F' x=n->(argV F' x i=iG F' n (wb i)))->∃b A,k b A/\∀F':Nat->AV,j7 F F' (tm x)->∀i:Bool->RA->Prop,i b A->argV F' x i:=λn a D B=>by
  obtain⟨E,q,o,C⟩:=cz (x:=x) (by rw[a];exact D);unfold wb at o;cases u:aZ q with
  | true=>
   rw[u]at o;refine⟨true,_,o,λF' j i d=>?_⟩;have p:=key F' j;rw[B F' i (p.trans a),<-a,<-p];exact C F' j _ (by unfold wb;rw[u];exact d)
  | false=>
   rw[u]at o;refine⟨false,_,o,λF' j i d=>?_⟩;have p:=key F' j;rw[B F' i (p.trans a),<-a,<-p];exact C F' j _ (by unfold wb;rw[u];exact d)
 have c:=h;unfold argV at c;cases a:np F x with
 | H G q=>
  rw[a]at c;cases G with
  | box=>exact⟨false,_,c,λF' j i d=>by unfold argV;rw[key F' j,a];exact d⟩
  | one=>exact w _ a c λF' i e=>by unfold argV;rw[e];rfl
  | agg=>exact w _ a c λF' i e=>by unfold argV;rw[e];rfl
  | tup K=>exact c.elim
 | c2 t l H E=>rw[a]at c;exact w _ a c λF' i e=>by unfold argV;rw[e]
 | ref t l H=>
  rw[a]at c;simp only at c;split at c
  ·rename_i q J
   refine⟨false,_,c,λF' j i d=>?_⟩;unfold argV;rw[key F' j,a];have:F' t=.H .box q:=by
    cases x with
    | tmp s=>exact(j s (by simp[tm])).2 t (by show AV.uses t (F s)=true;rw[show F s=_ from a];simp[AV.uses]) _ _ J
    | const v=>simp only[np]at a;have:=lZ v t;rw[a]at this;simp[AV.uses]at this
    | global g=>cases a
    | func f=>cases a
   simp only[this];exact d
  exact c.elim
 | iref r l=>
  rw[a]at c;simp only at c;cases y:Nat.beq l 0 with
  | false=>rw[y]at c;exact c.elim
  | true=>rw[y]at c;exact⟨true,_,c,λF' j i d=>by unfold argV;rw[key F' j,a];simp only[y];exact d⟩
 | fv Ok=>rw[a]at c;exact⟨true,_,c,λF' j i d=>by unfold argV;rw[key F' j,a];exact d⟩
 | fn f caps=>rw[a]at c;exact c.elim
 | dead=>rw[a]at c;exact c.elim
def pk:∀{cs:List Nat}{k:List RA->Prop},mY F cs k->∃D,k D/\∀F':Nat->AV,(∀t,t∈cs->∀j xs,F t=.H j xs->F' t=.H j xs)->∀d:List RA->Prop,d D->mY F' cs d
 | [],k,h=>⟨[],h,λ_ _ _ h=>h⟩
 | c::cs,k,h=>by
  simp only[mY]at h;split at h
  ·rename_i xs e
   obtain⟨D,f,g⟩:=pk h;exact⟨_,f,λF' b d a=>by simp only[mY,b c (W1 ..) _ _ e];exact g F' (λt i=>b t (O5 _ i)) _ a⟩
  ·rename_i xs e
   obtain⟨D,f,g⟩:=pk h;exact⟨_,f,λF' b d a=>by simp only[mY,b c (W1 ..) _ _ e];exact g F' (λt i=>b t (O5 _ i)) _ a⟩
  ·rename_i xs e
   obtain⟨D,f,g⟩:=pk h;exact⟨_,f,λF' b d a=>by simp only[mY,b c (W1 ..) _ _ e];exact g F' (λt i=>b t (O5 _ i)) _ a⟩
  exact h.elim
def Jo{F':Nat->AV}{t:Nat}{ts:List Nat}{f:FuncId}{caps:List Nat}(b:j7 F F' ts)(d:t∈ts)(e:F t=.fn f caps):∀c,c∈caps->∀a xs,F c=.H a xs->F' c=.H a xs:=λc g a xs h=>
 (b t d).2 c (by rw[e];simp only[AV.uses,t4];exact⟨c,g,Nat.beq_refl c⟩) a xs h
def NK{x:Operand}{k:Bool->RA->Prop}(h:argA P F x k):∃b A,k b A/\∀F':Nat->AV,j7 F F' (tm x)->∀e:Bool->RA->Prop,e b A->argA P F' x e:=by
 have j:=h;unfold argA at j;split at j
 ·rename_i f caps a
  obtain⟨D,l,n⟩:=pk j;obtain⟨Q,q,r,u⟩:=l;refine⟨false,_,u,λF' i e d=>?_⟩;unfold argA;rw[i.ev,a];refine n F' ?_ _ ⟨Q,q,r,d⟩;cases x with
  | tmp s=>exact Jo i (t:=s) (by simp[tm]) a
  | const v=>
   intro c o;simp only[np]at a;have:=lZ v c;rw[a]at this;simp only[AV.uses]at this;have w:caps.any (Nat.beq · c)=true:=t4.2 ⟨c,o,Nat.beq_refl c⟩;rw[w]at this;cases this
  | global g=>cases a
  | func f=>cases a;intro c o;cases o
 rename_i p;obtain⟨b,A,l,n⟩:=MM j;refine⟨b,A,l,λF' i e d=>?_⟩;have:=n F' i e d;unfold argA;rw[i.ev];split
 ·rename_i f caps a;exact absurd a (p f caps)
 exact this
def yp:∀{xs:List Operand}{k:Bool->List RA->Prop},Bm P F xs k->∃b A,k b A/\∀F':Nat->AV,j7 F F' (tms xs)->∀c:Bool->List RA->Prop,c b A->Bm P F' xs c
 | [],k,h=>⟨true,[],h,λ_ _ _ h=>h⟩
 | x::xs,k,h=>by
  obtain⟨n,A,d,g⟩:=NK h;obtain⟨b,As,d,e⟩:=yp d;have i:∀{F':Nat->AV},j7 F F' (tms (x::xs))->j7 F F' (tm x):=λa=>a.mono (by simp +contextual [tms])
  have j:∀{F':Nat->AV},j7 F F' (tms (x::xs))->j7 F F' (tms xs):=λa=>a.mono (λt l=>by simp only[tms,X6,z3];exact .inr l)
  exact⟨_,_,d,λF' a c f=>g F' (i a) _ (e F' (j a) _ f)⟩
def Bh:∀{xs:List Operand}{k:List (Option Nat × List C)->Prop},argsV F xs k->∃L,k L/\∀F':Nat->AV,j7 F F' (tms xs)->∀b:List (Option Nat × List C)->Prop,b L->argsV F' xs b
 | [],k,h=>⟨[],h,λ_ _ _ h=>h⟩
 | x::xs,k,h=>by
  obtain⟨l,n,c,f⟩:=cz h;obtain⟨L,c,d⟩:=Bh c;have g:∀{F':Nat->AV},j7 F F' (tms (x::xs))->j7 F F' (tm x):=λa=>a.mono (by simp +contextual [tms])
  have i:∀{F':Nat->AV},j7 F F' (tms (x::xs))->j7 F F' (tms xs):=λa=>a.mono (λt j=>by simp only[tms,X6,z3];exact .inr j)
  exact⟨_,c,λF' a b e=>f F' (g a) _ (d F' (i a) _ e)⟩
def MW{f:Nat}{xs:List Operand}(h:Jx P F f xs K):oI (λF K=>Jx P F f xs K) F (tms xs) K:=by
 obtain⟨b,A,a,c⟩:=yp h;obtain⟨d,k,rcs,e,g,i⟩:=a.out;exact⟨_,i,CS _ _ _ _,λj l o n=>c j l _ (.mk_ ⟨d,k,rcs,e,g,n⟩)⟩
def Kr{t:Nat}{xs:List Operand}(h:mC P F t xs K):oI (λF K=>mC P F t xs K) F (t::tms xs) K:=by
 have d:=h;unfold mC at d;split at d
 ·rename_i f caps g
  obtain⟨b,A,e,i⟩:=yp d;obtain⟨D,e,j⟩:=pk e;obtain⟨u,k,rcs,l,n,o⟩:=e.out;refine⟨_,o,CS _ _ _ _,λa c p q=>?_⟩;show mC P a t xs p;unfold mC;rw[(c t (W1 ..)).1,g];exact i a (c.mono λt r=>O5 _ r) _ (j a (Jo c (W1 ..) g) _ (.mk_ ⟨u,k,rcs,l,n,q⟩))
 ·rename_i Ok g
  obtain⟨L,e,i⟩:=Bh d;obtain⟨Q,k,rcs,l,n,o⟩:=e;refine⟨_,o,CS _ _ _ _,λa c p q=>?_⟩;show mC P a t xs p;unfold mC;rw[(c t (W1 ..)).1,g];exact i a (c.mono λt r=>O5 _ r) _ ⟨Q,k,rcs,l,n,q⟩
 exact d.elim
def jP{T:Nat}{k:Nat->TI->Prop}(h:HS TE T k):∃e a,k e a/\∀b:Nat->TI->Prop,b e a->HS TE T b:=by
 unfold HS at h;split at h
 case h_2=>exact h.elim
 rename_i e d;split at h
 case h_2=>exact h.elim
 rename_i a f;cases c:(Nat.beq a.zero.length a.size&&Nat.ble 1 a.size) with
 | false=>rw[c]at h;exact h.elim
 | true=>rw[c]at h;exact⟨e,a,h,λb g=>by unfold HS;simp only[d,f,c,cond_true];exact g⟩
def sP{x:Operand}{k:Int->Prop}(h:E9 F x k):∃n,k n/\∀F':Nat->AV,j7 F F' (tm x)->∀a:Int->Prop,a n->E9 F' x a:=by
 obtain⟨z,b,c⟩:=js h;cases z with
 | int f n=>exact⟨n,b,λF' d a e=>c F' d _ e⟩
 | _=>exact b.elim
def otm(x:Option Operand):List Nat:=x.toList.flatMap tm
def JQ{x:Option Operand}{k:Option Int->Prop}(h:LX F x k):∃n,k n/\∀F':Nat->AV,j7 F F' (otm x)->∀a:Option Int->Prop,a n->LX F' x a:=by
 cases x with
 | none=>exact⟨none,h,λ_ _ _ b=>b⟩
 | some x=>
  obtain⟨n,c,d⟩:=sP h;exact⟨some n,c,λF' e a b=>d F' (e.mono (by simp +contextual [otm])) _ b⟩
def tZ{i:Nat->Option (Nat × Nat)} : ∀{parts:List (Nat × Operand)}{cs:List C}{k:List C->Prop},fillP F i parts cs k->∃a,k a/\∀F':Nat->AV,j7 F F' (tms (parts.map (·.2)))->∀c:List C->Prop,c a->fillP F' i parts cs c
 | [],cs,k,h=>⟨cs,h,λ_ _ _ h=>h⟩
 | p::rest,cs,k,h=>by
  simp only[fillP]at h;split at h
  case h_2=>exact h.elim
  rename_i q l;obtain⟨r,xs,b,n⟩:=cz h;cases d:(aZ xs&&Nat.beq xs.length q.2&&Nat.ble (q.1+q.2) cs.length) with
  | false=>rw[d]at b;exact b.elim
  | true=>
   rw[d]at b;simp only[cond_true,du]at b;obtain⟨a,e,f⟩:=tZ b;refine⟨a,e,λF' j c g=>?_⟩;simp only[fillP,l];refine n F' (j.mono (by simp +contextual [tms])) _ ?_;rw[d];simp only[cond_true,du];exact f F' (j.mono (λt o=>by simp only[tms,Z5,X6,z3];exact .inr o)) _ g
def KS{T:Nat}{parts:List (Nat × Operand)}(h:rD TE F T parts K):oI (λF K=>rD TE F T parts K) F (tms (parts.map (·.2))) K:=by
 unfold rD at h;unfold oI rD;split at h
 case h_2=>exact h.elim
 rename_i size bytes zero flds i;cases a:y7 TE flds with
 | false=>rw[a]at h;exact h.elim
 | true=>
  rw[a]at h;obtain⟨b,c,d⟩:=tZ h;exact⟨_,c,CS _ _ _ _,λe f j g=>by simp only[cond_true];exact d e f _ g⟩
def Hm{T n:Nat}{parts:List (Nat × Operand)}(h:wI TE F T n parts K):oI (λF K=>wI TE F T n parts K) F (tms (parts.map (·.2))) K:=by
 obtain⟨e,j,a,f⟩:=jP h;cases c:Nat.ble (n*j.size) 16777216 with
 | false=>rw[c]at a;exact a.elim
 | true=>
  rw[c]at a;simp only[cond_true]at a;split at a
  ·exact⟨_,a,CS _ _ _ _,λg i k d=>f _ (by rw[c];exact d)⟩
  ·rw[du]at a
   obtain⟨l,b,o⟩:=tZ a;rw[pp]at b;exact⟨_,b,CS _ _ _ _,λg i k d=>f _ (by rw[c];simp only[cond_true,du];exact o g i _ (by rw[pp];exact d))⟩
  exact a.elim
def Mf{T:Nat}{x y:Operand}(h:JL TE F T x y K):oI (λF K=>JL TE F T x y K) F (tm x++tm y) K:=by
 obtain⟨e,r,a,g⟩:=jP h;obtain⟨j,k,a,i⟩:=cz a
 match j,k,a with
 | none,[.z],a=>
  obtain⟨ag2,cs2,a,b⟩:=cz a
  match ag2,cs2,a with
  | none,[.s o rows],a=>
   obtain⟨l,n,p,a⟩:=a.out;exact⟨_,a,CS _ _ _ _,λc d q f=>g _ (i c (d.mono (by simp +contextual)) _ (b c (d.mono (by simp +contextual)) _ (Fl.mk l n p f)))⟩
  | none,[.z],a=>
   exact⟨_,a,CS _ _ _ _,λc d q f=>g _ (i c (d.mono (by simp +contextual)) _ (b c (d.mono (by simp +contextual)) _ f))⟩
def Pk{T:Nat}{x y:Operand}(h:J8 TE F T x y K):oI (λF K=>J8 TE F T x y K) F (tm x++tm y) K:=by
 obtain⟨e,r,a,g⟩:=jP h;obtain⟨l,a,i⟩:=sP a;obtain⟨c,a,b⟩:=sP a;obtain⟨n,j,k,o,p,a⟩:=a.out;exact⟨_,a,CS _ _ _ _,λd f t q=>g _ (i d (f.mono (by simp +contextual)) _ (b d (f.mono (by simp +contextual)) _ (Mk.mk n j k o p rfl q)))⟩
def NE{T:Nat}{x y:Operand}{ok:Bool}(h:zd TE F T x y ok K):oI (λF K=>zd TE F T x y ok K) F (tm x++tm y) K:=by
 unfold zd at h;split at h
 case h_2=>exact h.elim
 rename_i i;cases ok with
 | true=>exact h.elim
 | false=>
  simp only[cond_false]at h;obtain⟨j,k,b,c⟩:=cz h
  match j,k,b,c with
  | none,[.m es],b,c=>
   obtain⟨v,d,a⟩:=js b
   match v,d,a with
   | .int .i64 z,d,a=>
    refine⟨_,d.out,CS _ _ _ _,λf g l e=>?_⟩;simp only[zd,i,cond_false];exact c f (g.mono (by simp +contextual)) _ (a f (g.mono (by simp +contextual)) _ (Ml.mk rfl e))
def KT{T:Nat}{x:Operand}{lo j:Option Operand}(h:B9 TE F T x lo j K):oI (λF K=>B9 TE F T x lo j K) F (tm x++otm lo++otm j) K:=by
 obtain⟨e,q,b,t⟩:=jP h;obtain⟨l,b,u⟩:=JQ b;obtain⟨r,b,g⟩:=JQ b;obtain⟨w,A,b,i⟩:=cz b;have back:∀(c:List (List C))(k:List (List C)->Prop),Sl c q.size l r k->∃a,k a/\∀n:List (List C)->Prop,n a->Sl c q.size l r n:=λc k h=>by
  obtain⟨x,y,B,D,E,G,H,J⟩:=h.out;exact⟨_,J,λn b=>by refine .mk_ ?_;exact⟨x,y,B,D,E,G,H,_,rfl,b⟩⟩
 match w,A,b with
 | none,[.s .X c],b=>
  obtain⟨a,b,o⟩:=back _ _ b;exact⟨_,b,CS _ _ _ _,λd f L p=>t _ (u d (f.mono (by simp +contextual)) _ (g d (f.mono (by simp +contextual)) _ (i d (f.mono (by simp +contextual)) _ (o _ p))))⟩
 | none,[.z],b=>
  obtain⟨a,b,o⟩:=back _ _ b;exact⟨_,b,CS _ _ _ _,λd f L p=>t _ (u d (f.mono (by simp +contextual)) _ (g d (f.mono (by simp +contextual)) _ (i d (f.mono (by simp +contextual)) _ (o _ p))))⟩
def HJ{T:Nat}{x c d:Operand}(h:PN TE F T x c d K):oI (λF K=>PN TE F T x c d K) F (tm x) K:=by
 obtain⟨e,q,a,j⟩:=jP h;cases b:QY c&&QY d with
 | false=>rw[b]at a;exact a.elim
 | true=>
  rw[b]at a;obtain⟨l,n,a,k⟩:=cz a
  match l,n,a with
  | none,[.s o rows],a=>exact⟨_,a,CS _ _ _ _,λf g p i=>j _ (by rw[b];exact k f g _ i)⟩
  | none,[.z],a=>exact⟨_,a,CS _ _ _ _,λf g p i=>j _ (by rw[b];exact k f g _ i)⟩
def LB{T f:Nat}{x:Operand}(h:rK TE F T x f K):oI (λF K=>rK TE F T x f K) F (tm x) K:=by
 unfold rK at h;split at h
 case h_2=>exact h.elim
 rename_i flds e;split at h
 case h_2=>exact h.elim
 rename_i p g;split at h
 case h_2=>exact h.elim
 rename_i i j;obtain⟨k,d,a,l⟩:=cz h;cases b:(k.isSome&&(i.agg || Nat.beq i.size 1)&&Nat.ble (p.1+i.size) d.length) with
 | false=>rw[b]at a;exact a.elim
 | true=>
  rw[b]at a;simp only[cond_true]at a;cases c:aZ (b9 d p.1 i.size) with
  | false=>rw[c]at a;exact a.elim
  | true=>
   rw[c]at a;simp only[cond_true,du]at a;exact⟨_,a,CS _ _ _ _,λn o r q=>by unfold rK;simp only[e,g,j];exact l n o _ (by rw[b,c];simp only[cond_true,du];exact q)⟩
def M1{b c:Nat}{x:Operand}(h:yd TE F b c x K):oI (λF K=>yd TE F b c x K) F (tm x) K:=by
 unfold yd at h;split at h
 ·rename_i d e
  obtain⟨n,a,f⟩:=sP h;obtain⟨z,g,a⟩:=a.out;exact⟨_,a,CS _ _ _ _,λi j l k=>by unfold yd;simp only[d,e];exact f i j _ (CN g k)⟩
 exact h.elim
def Ma{c:Bool}{x y:Operand}(h:Tq c F x y K):oI (λF K=>Tq c F x y K) F (tm x++tm y) K:=by
 obtain⟨z,d,g⟩:=js h;cases z with
 | int k n=>
  obtain⟨m,a,b⟩:=sP d;obtain⟨z,i,a⟩:=a.out;exact⟨_,a,CS _ _ _ _,λe f l j=>g e (f.mono (by simp +contextual)) _ (b e (f.mono (by simp +contextual)) _ (CR i j))⟩
 | _=>exact d.elim
def eI.mono{ts ts':List Nat}{av:AV}(h:eI F ts av)(a:∀t,t∈ts->t∈ts'):eI F ts' av:=λd b=>(h d b).imp (a d) (λ⟨t,c,e⟩=>⟨t,a t c,e⟩)
def oI.mono{p:(Nat->AV)->(AV->Prop)->Prop}{ts ts':List Nat}(h:oI p F ts K)(a:∀t,t∈ts->t∈ts'):oI p F ts' K:=by
 obtain⟨b,c,d,e⟩:=h;exact⟨b,c,d.mono a,λf g i j=>e f (g.mono a) i j⟩
def di(o:Op):List Nat:=o.operands.toList.flatMap tm
def kj{o:Op}(h:dt P TE F o K):oI (λF K=>dt P TE F o K) F (di o) K:=by
 cases o with
 | move x=>exact(kw h).mono (by simp[di,Op.operands])
 | assign x=>exact(kw h).mono (by simp[di,Op.operands])
 | nilCheck x=>
  cases x with
  | tmp t=>
   have A:t∈tm (.tmp t):=by simp[tm]
   have key:∀a:Nat->AV,a t=F t->∀b,dt P TE a (.nilCheck (.tmp t)) b=(match F t with|.ref ..=>bu a (.tmp t) b|.iref ..=>bu a (.tmp t) b|.H .box _=>bu a (.tmp t) b|_=>False):=λa e b=>by
    unfold dt;simp only
    first
     |(rw[e];done)
     |(rw[e]
       cases F t with
       | H k O=>cases k<;>rfl
       | _=>rfl)
   rw[key F rfl]at h;have fin:bu F (.tmp t) K->(∀b (a:Nat->AV),a t=F t->bu a (.tmp t) b->dt P TE a (.nilCheck (.tmp t)) b)->oI (λF K=>dt P TE F (.nilCheck (.tmp t)) K) F (di (.nilCheck (.tmp t))) K:=λp Q=>by
    obtain⟨B,C,D,E⟩:=kw p;exact⟨B,C,D.mono (by simp[di,Op.operands]),λa j b g=>Q _ a (j t (by simp[di,Op.operands,tm])).1 (E a (j.mono (by simp[di,Op.operands])) b g)⟩
   cases G:F t with
   | H k O=>
    rw[G]at h;cases k with
    | box=>exact fin h λb a e p=>by rw[key a e,G];exact p
    | _=>exact h.elim
   | ref=>rw[G]at h;exact fin h λb a e p=>by rw[key a e,G];exact p
   | iref=>rw[G]at h;exact fin h λb a e p=>by rw[key a e,G];exact p
   | _=>rw[G]at h;exact h.elim
  | _=>exact h.elim
 | load T x=>exact(Pa h).mono (by simp[di,Op.operands])
 | fieldAddr T x f=>exact(zz h).mono (by simp[di,Op.operands])
 | indexAddr T x y=>exact(zm h).mono (by simp[di,Op.operands])
 | binOp R T x y yT=>
  simp only[dt]at h;cases q:xy R y with
  | true=>
   rw[q]at h;obtain⟨B,C,D,E⟩:=PE h;exact⟨B,C,D.mono (by simp +contextual [di,Op.operands]),λa j b g=>by simp only[dt,q,cond_true];exact E a (j.mono (by simp +contextual [di,Op.operands])) b g⟩
  | false=>
   rw[q]at h;have u:∀t,t∈tm x->t∈di (.binOp R T x y yT):=λt A=>by simp[di,Op.operands,A]
   cases M:isAgg F x with
   | true=>
    rw[M]at h;obtain⟨B,C,D,E⟩:=PG h;exact⟨B,C,D.mono (by simp +contextual [di,Op.operands]),λa j b g=>by
      simp only[dt,q,cond_false];rw[A5 (j.mono u),M];exact E a (j.mono (by simp +contextual [di,Op.operands])) b g⟩
   | false=>
   rw[M]at h;obtain⟨z,S,J⟩:=js h;obtain⟨z2,U,V⟩:=js S;obtain⟨v,W,X⟩:=Po U;refine⟨_,W,CS _ _ _ _,λa j b g=>by simp only[dt,q,cond_false];rw[A5 (j.mono u),M];exact J a (j.mono (by simp +contextual [di,Op.operands])) _ (V a (j.mono (by simp +contextual [di,Op.operands])) _ (X _ g))⟩
 | unOp R T x=>
  obtain⟨z,S,J⟩:=js h;obtain⟨v,W,X⟩:=Qj S;exact⟨_,W,CS _ _ _ _,λa j b g=>J a (j.mono (by simp[di,Op.operands])) _ (NT X λv' e=>by rw[e];exact g)⟩
 | pick c x y=>exact(LQ h).mono (by simp[di,Op.operands])
 | alloc T=>
  simp only[dt]at h;unfold x8 at h;split at h
  ·rename_i i L
   exact⟨_,h,CS _ _ _ _,λa _ b g=>by simp only[dt,x8,L];exact g⟩
  exact h.elim
 | box T x=>exact(PF h).mono (by simp[di,Op.operands])
 | extract x i=>exact(Ga h).mono (by simp[di,Op.operands])
 | build T ps=>exact(KS h).mono (by simp +contextual [di,Op.operands,tms])
 | buildSlice T n ps=>exact(Hm h).mono (by simp +contextual [di,Op.operands,tms])
 | makeSlice T x y=>exact(Pk h).mono (by simp[di,Op.operands])
 | makeMap T r=>
  simp only[dt,t8]at h |-;split at h
  case h_2=>exact h.elim
  exact⟨_,h,CS _ _ _ _,λa _ b g=>g⟩
 | lookup T x y ok=>exact(NE h).mono (by simp[di,Op.operands])
 | slice T x lo hi mx=>
  cases mx with
  | none=>exact(KT h).mono (by cases lo<;>cases hi<;>simp[di,Op.operands,otm])
  | some m=>
   cases lo with
   | some _=>exact h.elim
   | none=>
    cases hi with
    | none=>exact h.elim
    | some y=>exact(HJ h).mono (by simp +contextual [di,Op.operands])
 | field T x f=>exact(LB h).mono (by simp[di,Op.operands])
 | convert T1 N x=>exact(M1 h).mono (by simp[di,Op.operands])
 | makeFunc fn fs O=>
  simp only[dt]at h;split at h
  ·rename_i f Y
   obtain⟨l,g,J⟩:=rG h;refine⟨_,g,λd hd=>.inl ?_,λa _ b Z=>?_⟩
   ·simp only[AV.uses,t4]at hd
    obtain⟨c,Q,he⟩:=hd;have:=C2 he;subst this;simp only[di,Op.operands,List.mem_flatMap];refine⟨.tmp c,?_,by simp[tm]⟩;have p:Operand.tmp c∈O.toList:=by rw[J];exact O4.2 ⟨c,Q,rfl⟩
    simpa using .inr (by simpa using p)
   simp only[dt,Y];rw[J];exact E3 l Z
  exact h.elim
 | call c=>
  obtain⟨callee,args,ts⟩:=c;simp only[dt]at h;split at h
  ·rename_i f
   exact(MW h).mono (by simp +contextual [di,Op.operands,Call.operands,tms])
  ·exact(Kr h).mono (λt A=>by
     rcases List.mem_cons.1 A with rfl|A
     · simp[di,Op.operands,Call.operands,tm]
     simp only[tms,List.mem_flatMap]at A;obtain⟨x,w,hx2⟩:=A;simp only[di,Op.operands,Call.operands,List.mem_flatMap];exact⟨x,by simp_all,hx2⟩)
  ·split at h
   ·rename_i x T w L
    have H:args = #[x]:=by apply Array.ext';simpa using w
    have e2:ts = #[T]:=by apply Array.ext';simpa using L
    subst H e2;exact(Qx h).mono (by simp[di,Op.operands,Call.operands])
   exact h.elim
  ·split at h
   ·rename_i x y T N w L
    have H:args = #[x,y]:=by apply Array.ext';simpa using w
    have e2:ts = #[T,N]:=by apply Array.ext';simpa using L
    subst H e2;cases q:Nat.beq T N with
    | false=>rw[q]at h;exact h.elim
    | true=>
     rw[q]at h;obtain⟨B,C,D,E⟩:=(Mf h).mono (ts':=di (.call ⟨.builtin .append,#[x,y],#[T,N]⟩)) (by simp[di,Op.operands,Call.operands]);exact⟨B,C,D,λa j b g=>by simp only[dt,q,cond_true];exact E a j b g⟩
   exact h.elim
  ·split at h
   ·rename_i x y w
    have H:args = #[x,y]:=by apply Array.ext';simpa using w
    subst H;exact(Ma h).mono (by simp[di,Op.operands,Call.operands])
   exact h.elim
  ·split at h
   ·rename_i x y w
    have H:args = #[x,y]:=by apply Array.ext';simpa using w
    subst H;exact(Ma h).mono (by simp[di,Op.operands,Call.operands])
   exact h.elim
  exact h.elim
 | _=>exact h.elim
end
def dh(o:Oper)(i:Nat):Bool:=o.after.toList.any λe=>Region.binds .any e&&Nat.beq e.on i
def de(ops:Array Oper)(i:Nat):Oper:=ops.getD i default
def below(n:Nat)(p:Nat->Bool):Bool:=(List.range n).all p
def tU(ops:Array Oper)(i j:Nat):Bool:=match(de ops i).dst with|some d=>((de ops j).looksAt ops).any (Nat.beq d)|none=>false
def Fj:List Nat->Nat
 | []=>0
 | k::a=>2 ^ k ||| Fj a
def ons(o:Oper):List Nat:=(o.after.toList.filter λe=>Region.binds .any e).map (·.on)
def frc{α:Type}(n:Nat)(K:Nat->α):α:=match n with|0=>K 0|n+1=>K (n+1)
def N8{α:Type}(n:Nat)(K:Nat->α):frc n K=K n:=by cases n<;>rfl
def clo(ops:Array Oper):Nat->Nat->Nat
 | 0,S=>S
 | k+1,S=>bif S.testBit k then frc (S ||| Fj (ons (de ops k))) (clo ops k) else clo ops k S
def DR(ops:Array Oper)(m:Nat):Bool:=
 below ops.size λj=>((de ops j).after.toList.all λe=>!Region.binds .any e || Nat.blt e.on j) &&
  (bif Nat.blt j m then below m (λi=>Nat.beq i j || ((dh (de ops j) i || dh (de ops i) j || (de ops i).apart ops (de ops j))&&(!tU ops i j || dh (de ops j) i))) else frc (clo ops j (Fj (ons (de ops j)))) λS=>below j λi=>S.testBit i)
def xK:List (Nat × Nat × List Nat)->Nat->Option (Nat × List Nat)
 | [],_=>none
 | p::l,id=>bif Nat.beq id p.1 then some p.2 else xK l id
def gV(P:Program)(TE:Nat->Option TI)(N:fC)(ops:Array Oper)(o:Oper)(K:(Nat->AV)->Prop)(F:Nat->AV):Prop:=
 fW F ops o.guard (λF=>match o.dst with|some d=>dt P TE F o.op λa=>bR N F d a K|none=>False)
  (λF=>match o.dst with|some d=>bR N F d (.H (.tup []) []) K|none=>False)
def ns:Op->Option (Option Nat × Nat)
 | .buildSlice T 1 ps=>(match ps.toList with|[(0,.tmp s)]=>some (some T,s)|_=>none)
 | .move (.tmp s)=>some (none,s)
 | _=>none
def own1(T:Option Nat)(k:Kd)(cs:List C):Bool:=match T with
 | some _=>(match k with
   | .one=>(match cs with|[c]=>eD c|_=>false)
   | .agg=>(match cs with|[c]=>eD c|_=>false)
   | _=>false)
 | none=>(match k with|.tup _=>!aZ cs|_=>false)
def RT(TE:Nat->Option TI)(N:fC)(F:Nat->AV)(d:Nat)(T:Option Nat)(s:Nat)(K:(Nat->AV)->Prop):Prop:=match T with
 | some T=>gp TE N F d T 1 [(0,.tmp s)] K
 | none=>jr N F d (.tmp s) K
def GV(F:Nat->AV)(o:Oper):Option (Option Nat × Nat):=
 match o.guard with
 | some _=>none
 | none=>match ns o.op with
  | none=>none
  | some p=>match F p.2 with
   | .H k cs=>bif own1 p.1 k cs then some p else none
   | .dead=>none
   | .ref ..=>none
   | .c2 ..=>none
   | .iref ..=>none
   | .fn ..=>none
   | .fv _=>none
def jA(ops:Array Oper)(o:Oper)(s:Nat):Bool:=
 ((List.range ops.size).any λk=>dh o k&&(match(de ops k).dst with|some a=>Nat.beq a s|none=>false))&&Nat.ble (ops.toList.filter λk=>(k.looksAt ops).any (Nat.beq s)).length 1
def oP(ds:List Nat)(o:Oper):Bool:=match o.dst with|some d=>ds.any (Nat.beq d)|none=>false
def twk:List Nat->List Nat
 | []=>[]
 | e::l=>bif Nat.ble 1000 e then(e - 1000)::twk l else []
def dec:List Nat->List (Nat × List Nat)
 | []=>[]
 | e::l=>bif Nat.ble 1000 e then dec l else(e,twk l)::dec l
def Ra:Op->Bool
 | .move (.tmp _)=>true
 | .assign _=>true
 | .extract ..=>true
 | .build ..=>true
 | .buildSlice ..=>true
 | .store ..=>true
 | .load ..=>true
 | .fieldAddr ..=>true
 | .field ..=>true
 | .binOp ..=>true
 | .unOp ..=>true
 | .call c=>(pK c).isSome
 | _=>false
def pM:Op->Bool
 | .call c=>(match c.callee with|.value (.func _)=>true|_=>false)
 | _=>false
def q8(l:List (Nat × List Nat))(i:Nat):Bool:=l.any λp=>Nat.beq p.1 i
def vY(ops:Array Oper)(j i:Nat):Bool:=(clo ops j (Fj (ons (de ops j)))).testBit i
def Ta(o:Oper):Bool:=match o.guard with|none=>true|some _=>false
def TA(sch:List (Nat × List Nat))(i:Nat):Bool:=sch.any λp=>Nat.beq p.1 i&&!p.2.isEmpty
def RW(ops:Array Oper)(a b:Oper)(nm:Bool):Bool:=match b.dst with
 | none=>false
 | some c=>Ta a&&(Ra a.op || pM a.op)&&!(match a.dst with|some d=>Nat.beq d c|none=>false)&&!(a.looksAt ops).any (Nat.beq c)&&Ta b&&!(b.looksAt ops).any (Nat.beq c)&&(nm || match ns b.op with|none=>true|some p=>!jA ops b p.2)
def B2(ops:Array Oper)(ds:List Nat)(nm:Nat->Bool)(i j:Nat):Bool:=
 bif oP ds (de ops j) then(bif oP ds (de ops i) then(dh (de ops j) i || dh (de ops i) j || (de ops i).apart ops (de ops j))&&(!tU ops i j || dh (de ops j) i)&&!(match(de ops i).dst with|some d=>(match(de ops j).dst with|some e=>Nat.beq d e|none=>false)|none=>false) else true)
 else(bif oP ds (de ops i) then(vY ops j i || vY ops i j || RW ops (de ops j) (de ops i) (nm i))&&(!tU ops i j || dh (de ops j) i) else true)
def Gj(ops:Array Oper)(ds:List Nat):List (Nat × List Nat)->Bool
 | []=>true
 | k::l=>Nat.blt k.1 ops.size&&!q8 l k.1&&((de ops k.1).after.toList.all λe=>!Region.binds .any e || !(Nat.beq k.1 e.on || q8 l e.on)) &&
  (oP ds (de ops k.1) || ((l.all λj=>vY ops j.1 k.1)&&(below ops.size λp=>!oP ds (de ops p) || q8 l p || vY ops k.1 p || k.2.any (Nat.beq p))&&(!(l.any λj=>oP ds (de ops j.1)) || (Ta (de ops k.1)&&(Ra (de ops k.1).op || pM (de ops k.1).op)))))&&Gj ops ds l
def Dx(ops:Array Oper)(ds:List Nat)(sch:List (Nat × List Nat)):Bool:=
 (below ops.size λj=>((de ops j).after.toList.all λe=>!Region.binds .any e || Nat.blt e.on j)&&q8 sch j&&(!oP ds (de ops j) || (match ns (de ops j).op with|none=>true|some p=>!jA ops (de ops j) p.2 || ds.any (Nat.beq p.2)))&&below ops.size λi=>Nat.beq i j || B2 ops ds (TA sch) i j)&&Nat.beq sch.length ops.size&&Gj ops ds sch
def mJ(tb:List (Nat × Nat × List Nat))(id:Nat)(ops:Array Oper):Bool:=
 match xK tb id with
 | some (m,ds)=>bif Nat.ble 65536 m then true else bif Nat.ble 256 m then Dx ops (ds.take (m - 256)) (dec (ds.drop (m - 256))) else(Nat.ble m ops.size&&below m λj=>match(de ops j).dst with|some d=>ds.any (Nat.beq d)|none=>true)&&DR ops m
 | none=>false
def lM(P:Program)(TE:Nat->Option TI)(N:fC)(ops:Array Oper)(o:Oper)(K:(Nat->AV)->Prop)(F:Nat->AV):Prop:=
 match GV F o with
 | some p=>(match o.dst with|some d=>bif jA ops o p.2 then RT TE N F d p.1 p.2 K else False|none=>False)
 | none=>gV P TE N ops o K F
def Pp(P:Program)(TE:Nat->Option TI)(N:fC)(ops:Array Oper):Nat->List Oper->((Nat->AV)->Prop)->(Nat->AV)->Prop
 | 0,l,K,F=>Kz P TE N ops l K F
 | _+1,[],K,F=>K F
 | m+1,o::l,K,F=>lM P TE N ops o (Pp P TE N ops m l K) F
def Qv(ds:List Nat)(t:Nat):Bool:=ds.any (Nat.beq t)
def TQ(ds:List Nat):AV->AV
 | .ref t off st=>bif Qv ds t then .dead else .ref t off st
 | .c2 t off st ag=>bif Qv ds t then .dead else .c2 t off st ag
 | .fn f caps=>bif caps.any (Qv ds) then .dead else .fn f caps
 | .H k cs=>.H k cs
 | .iref r off=>.iref r off
 | .fv Ok=>.fv Ok
 | .dead=>.dead
def clr(ds:List Nat)(F:Nat->AV):Nat->AV:=λt=>TQ ds (F t)
def Dy(ds:List Nat)(F:Nat->AV)(t:Nat):clr ds F t=bif ds.any (λd=>(F t).uses d) then .dead else F t:=by
 unfold clr;cases F t with
 | dead=>cases ds.any λd=>AV.uses d .dead<;>rfl
 | H k i=>
  have:ds.any (λd=>(AV.H k i).uses d)=false:=by
   rw[<-U5,t4]
   rintro⟨d,_,h⟩
   cases h
  rw[this];rfl
 | iref r a=>
  have:ds.any (λd=>(AV.iref r a).uses d)=false:=by
   rw[<-U5,t4]
   rintro⟨d,_,h⟩
   cases h
  rw[this];rfl
 | fv Ok=>
  have:ds.any (λd=>(AV.fv Ok).uses d)=false:=by
   rw[<-U5,t4]
   rintro⟨d,_,h⟩
   cases h
  rw[this];rfl
 | ref j a l=>rfl
 | c2 j a l n=>rfl
 | fn f caps=>
  have:ds.any (λd=>(AV.fn f caps).uses d)=caps.any (Qv ds):=by
   rw[Y4,t4,t4];constructor
   ·rintro⟨d,b,h⟩
    simp only[AV.uses,t4]at h;obtain⟨c,e,g⟩:=h;exact⟨c,e,t4.2 ⟨d,b,g⟩⟩
   rintro⟨c,e,h⟩
   obtain⟨d,b,g⟩:=t4.1 h;exact⟨d,b,by simp only[AV.uses,t4];exact⟨c,e,g⟩⟩
  rw[this];rfl
inductive Sm(a b:AV)(K:Prop):Prop
 |mk_ (h:a=b/\K)
def Sm.rf{a:AV}{K:Prop}(h:K):Sm a a K:=.mk_ ⟨rfl,h⟩
def CC:type_of% @Sm.rf:=@Sm.rf
def Sm.out{a b:AV}{K:Prop}(h:Sm a b K):a=b/\K:=h.1
def T5(P:Program)(TE:Nat->Option TI)(ops:Array Oper)(p:Nat)(K:Prop)(F:Nat->AV):Prop:=
 match(de ops p).dst with
 | none=>False
 | some d=>(match GV F (de ops p) with
   | some _=>False
   | none=>dt P TE F (de ops p).op λa=>Sm a (F d) K)
def Nk(P:Program)(TE:Nat->Option TI)(ops:Array Oper):List Nat->Prop->(Nat->AV)->Prop
 | [],K,_=>K
 | p::l,K,F=>T5 P TE ops p (Nk P TE ops l K F) F
def MJ(P:Program)(TE:Nat->Option TI)(N:fC)(ops:Array Oper)(nm:Bool)(o:Oper)(K:(Nat->AV)->Prop)(F:Nat->AV):Prop:=
 match nm with
 | false=>lM P TE N ops o K F
 | true=>(match GV F o with
   | some _=>False
   | none=>gV P TE N ops o K F)
def Ks(P:Program)(TE:Nat->Option TI)(N:fC)(ops:Array Oper)(ds:List Nat)(nm:Nat->Bool):List (Nat × List Nat)->((Nat->AV)->Prop)->(Nat->AV)->Prop
 | [],K,F=>K F
 | k::l,K,F=>bif oP ds (de ops k.1) then MJ P TE N ops (nm k.1) (de ops k.1) (Ks P TE N ops ds nm l K) F else jx P TE N ops (de ops k.1) (λa=>Nk P TE ops k.2 (Ks P TE N ops ds nm l K a) a) F
def PV:List Nat->(List Nat->Prop)->Prop
 | [],K=>K []
 | a::l,K=>PV l λb=>K (a::b)
def Jc:∀(l:List Nat)(K:List Nat->Prop),PV l K=K l
 | [],_=>rfl
 | a::l,K=>by rw[PV,Jc l]
def Du(l:List Nat)(j:Nat):Bool:=l.any (Nat.beq j)
def Ms(ops:Array Oper)(done:List Nat):List Nat:=(List.range ops.size).filter λj=>!Du done j&&((de ops j).after.toList.all λe=>!Region.binds .any e || Du done e.on)
def TC(p:Nat->Prop):Nat->List Nat->Prop
 | i,[]=>p i
 | i,j::l=>p i/\TC p j l
def TO(l:List Nat)(K:Prop)(p:Nat->Prop):Prop:=match l with
 | []=>K
 | i::l=>TC p i l
def Rt(P:Program)(TE:Nat->Option TI)(N:fC)(ops:Array Oper)(K:(Nat->AV)->Prop):Nat->List Nat->(Nat->AV)->Prop
 | 0,done,F=>TO (Ms ops done) (K F) λ_=>False
 | n+1,done,F=>TO (Ms ops done) (K F) λi=>jx P TE N ops (de ops i) (Rt P TE N ops K n (i::done)) F
def DD(P:Program)(TE:Nat->Option TI)(N:fC)(tb:List (Nat × Nat × List Nat))(id:Nat)(ops:Array Oper)(K:(Nat->AV)->Prop)(F:Nat->AV):Prop:=
 match xK tb id with
 | some (m,ds)=>bif Nat.ble 65536 m then Rt P TE N ops K ops.size [] F else bif Nat.ble 256 m then PV (ds.take (m - 256)) λa=>Ks P TE N ops a (TA (dec (ds.drop (m - 256)))) (dec (ds.drop (m - 256))) K (clr a F) else Pp P TE N ops m ops.toList K (clr ds F)
 | none=>False
def gW{n:Nat}{p:Nat->Bool}(h:below n p=true){i:Nat}(a:i<n):p i=true:=v4.1 h i (List.mem_range.2 a)
def cu{o:Oper}{i:Nat} : dh o i=true↔∃e,e∈o.after/\Region.binds .any e=true/\e.on=i:=by
 unfold dh;rw[t4];constructor
 ·rintro⟨e,b,a⟩
  simp only[I0]at a;exact⟨e,by simpa using b,a.1,C2 a.2⟩
 rintro⟨e,b,a,rfl⟩
 exact⟨e,by simpa using b,by rw[a,Nat.beq_refl];rfl⟩
def bc{ops:Array Oper}{i:Nat}{o:Oper}(h:ops[i]? = some o):de ops i=o:=by simp[de,W6,h]
section
variable{P:Program}{w0 w w1:World}{M S0 S:ah}{N:fC}{φ:Nat->ah}{F:Nat->AV}{a:Act}{TE:Nat->Option TI}{ops:Array Oper}
def uq{d:Nat}{b:Bool}(a:F d=.H .one [.v (.bool b)]):Gr F d b=F:=by
 funext t
 unfold Gr;cases c:Nat.beq t d with
 | true=>have:=C2 c;subst this;rw[a];rfl
 | false=>rfl
def gm(o:Oper)(t:Nat)(h:t∈di o.op):t∈o.looksAt ops:=by
 unfold Oper.looksAt;refine List.mem_append_left _ ?_;unfold di at h;obtain⟨x,b,a⟩:=List.mem_flatMap.1 h;refine List.mem_filterMap.2 ⟨x,b,?_⟩;cases x with
 | tmp c=>simp[tm]at a;subst a;rfl
 | _=>simp[tm]at a
structure Uf(P:Program)(TE:Nat->Option TI)(N:fC)(ops:Array Oper)(o:Oper)(F:Nat->AV)(d:Nat)(av:AV):Prop where
 dst:o.dst=some d
 lt:N.free d=true
 self:av.uses d=false
 from_:eI F (o.looksAt ops) av
 at_:∀F':Nat->AV,j7 F F' (o.looksAt ops)->∀K':(Nat->AV)->Prop,K' (put F' d av)->gV P TE N ops o K' F'
def j7.refl(F:Nat->AV)(ts:List Nat):j7 F F ts:=λ_ _=>⟨rfl,λ_ _ _ _ h=>h⟩
def y8{o:Oper}{K:(Nat->AV)->Prop}(h:gV P TE N ops o K F):∃d av,Uf P TE N ops o F d av/\K (put F d av):=by
 cases i:o.dst with
 | none=>
  exfalso;unfold gV at h;rw[i]at h;unfold fW at h;cases q:o.guard with
  | none=>rw[q]at h;exact h
  | some p=>
   obtain⟨j,want⟩:=p;rw[q]at h;simp only at h;cases A:(ops[j]?).bind (·.dst) with
   | none=>rw[A]at h;exact h
   | some D=>
    rw[A]at h;simp only at h;split at h
    ·rename_i b _
     replace h:=Bf.out h;cases b<;>cases want<;>exact h
    ·exact h
    exact h
 | some d=>
  have put1:∀{a:Nat->AV}{av:AV}{c:(Nat->AV)->Prop},N.free d=true->av.uses d=false->c (put a d av)->bR N a d av c:=λB C H=>by unfold bR;rw[B,C];exact H
  have put2:∀{a:Nat->AV}{av:AV}{c:(Nat->AV)->Prop},bR N a d av c->N.free d=true/\av.uses d=false/\c (put a d av):=fun {a av c} n=>by
   unfold bR at n;cases E:(N.free d&&!av.uses d) with
   | false=>rw[E]at n;exact n.elim
   | true=>
    rw[E]at n;simp only[I0,Bool.not_eq_true']at E;exact⟨E.1,E.2,n⟩
  have pure1:dt P TE F o.op (λav=>bR N F d av K)->∃av,N.free d=true/\av.uses d=false/\K (put F d av)/\eI F (o.looksAt ops) av/\∀a:Nat->AV,j7 F a (o.looksAt ops)->∀c:(Nat->AV)->Prop,c (put a d av)->dt P TE a o.op (λav=>bR N a d av c):=λn=>by
   obtain⟨av,B,C,H⟩:=kj n;obtain⟨k,l,r⟩:=put2 B;refine⟨av,k,l,r,C.mono λt J=>gm o t J,λa f c u=>?_⟩;exact H a (f.mono λt J=>gm o t J) _ (put1 k l u)
  unfold gV at h;rw[i]at h;unfold fW at h;cases q:o.guard with
  | none=>
   rw[q]at h;obtain⟨av,k,l,r,L,M⟩:=pure1 h;exact⟨d,av,⟨i,k,l,L,λa f c u=>by unfold gV fW;rw[q,i];exact M a f c u⟩,r⟩
  | some p=>
   obtain⟨j,want⟩:=p;rw[q]at h;simp only at h;cases A:(ops[j]?).bind (·.dst) with
   | none=>rw[A]at h;exact h.elim
   | some D=>
    rw[A]at h;simp only at h;have G:D∈o.looksAt ops:=by
     unfold Oper.looksAt;rw[q];simp only[A,Option.toList_some];simp
    split at h
    case h_3=>exact h.elim
    case h_2=>
     rename_i Q R w;obtain⟨k,l,r⟩:=put2 h;refine⟨d,.H (.tup []) [],⟨i,k,l,(λd i=>by cases i),λa f c u=>?_⟩,r⟩;unfold gV fW;rw[q,i];simp only;rw[A];simp only;rw[(f D G).1.trans w];exact put1 k l u
    rename_i b w;have same:∀{a:Nat->AV},j7 F a (o.looksAt ops)->a D=.H .one [.v (.bool b)]:=λf=>(f D G).1.trans w
    have back:∀{a:Nat->AV}{c:(Nat->AV)->Prop},j7 F a (o.looksAt ops)->(b=want->dt P TE a o.op (λav=>bR N a d av c))->(b = !want->bR N a d (.H (.tup []) []) c)->gV P TE N ops o c a:=fun {a c} f B C=>by
     unfold gV fW;rw[q,i];simp only;rw[A];simp only;rw[same f];simp only;refine Bf.P (λO=>?_) (λO=>?_)
     ·subst O
      rw[uq (same f)];cases want with
      | true=>exact B rfl
      | false=>exact C rfl
     subst O;rw[uq (same f)];cases want with
     | true=>exact C rfl
     | false=>exact B rfl
    have g:=uq w;replace h:=Bf.out h;by_cases y:b=want
    ·have n:dt P TE F o.op (λav=>bR N F d av K):=by
      subst y;cases b with
      | true=>have:=h;rw[g]at this;exact this
      | false=>have:=h;rw[g]at this;exact this
     obtain⟨av,k,l,r,L,M⟩:=pure1 n;exact⟨d,av,⟨i,k,l,L,λa f c u=>back f (λ_=>M a f c u) (λe=>by subst y;cases b<;>cases e)⟩,r⟩
    have n:bR N F d (.H (.tup []) []) K:=by
     cases b<;>cases want<;>first|exact absurd rfl y|skip
     ·have:=h;rw[g]at this;exact this
     have:=h;rw[g]at this;exact this
    obtain⟨k,l,r⟩:=put2 n;exact⟨d,.H (.tup []) [],⟨i,k,l,(λd i=>by cases i),λa f c u=>back f (λe=>absurd e y) (λ_=>put1 k l u)⟩,r⟩
def aft:AV->AV
 | .H k a=>.H k (splice a 0 (List.replicate a.length .x))
 | _=>.H .one [.x]
def MB(v:AV)(e:Nat):(aft v).uses e=false:=by unfold aft;split<;>rfl
def eff(a:Option Nat)(d:Nat)(av:AV)(F:Nat->AV):Nat->AV:=λt=>if t=d then av else if a=some t then aft (F t) else F t
def D7{d:Nat}(av:AV)(a:∀t,(F t).uses d=false):put F d av=eff none d av F:=by
 funext t
 unfold eff;by_cases h:t=d
 ·subst h;rw[nk,CB rfl]
 rw[hO _ _ h,C9 h,C9 (λe=>by cases e),AG,a t];rfl
def R3{s:Nat}{v:AV}(h:v.uses s=false):tD s v=v:=by
 cases v with
 | c2 t a b c=>simp only[AV.uses]at h;simp[tD,h]
 | ref t a b=>simp only[AV.uses]at h;cases b<;>simp[tD,h]
 | _=>rfl
def LS{d s:Nat}{k:Kd}{cs:List C}(av:AV)(b:F s=.H k cs)(c:∀t,(F t).uses d=false)(f:∀t,(F t).uses s=false):put (updH F s k (splice cs 0 (List.replicate cs.length .x))) d av=eff (some s) d av F:=by
 funext t
 unfold eff;by_cases h:t=d
 ·subst h;rw[nk,CB rfl]
 rw[hO _ _ h,C9 h];by_cases a:t=s
 ·subst a;rw[hB,CB rfl,b];rfl
 rw[C9 (λe=>a (by simpa using e.symm))];unfold updH;rw[show Nat.beq t s=false by rw[<-U5,Nat.beq_eq];exact a];simp only[cond_false];rw[R3 (f t),AG,c t];rfl
def GE{d T s:Nat}{k:Kd}{c:C}{K:(Nat->AV)->Prop}(n:k=.one\/k=.agg)(o:F s=.H k [c])(p:eD c=true)(h:gp TE N F d T 1 [(0,.tmp s)] K) :
  ∃av,N.free d=true/\(∀e,av.uses e=false)/\K (put (updH F s k [.x]) d av)/\∀(F':Nat->AV)(K':(Nat->AV)->Prop),F' s=.H k [c]->K' (put (updH F' s k [.x]) d av)->gp TE N F' d T 1 [(0,.tmp s)] K':=by
 have key:∀F':Nat->AV,F' s=.H k [c]->∀K':(Nat->AV)->Prop,gp TE N F' d T 1 [(0,.tmp s)] K'=HS TE T λ_ a=>bif Nat.ble (1*a.size) 16777216 then(bif Nat.beq 1 a.size&&Nat.ble (0*a.size+a.size) (rep a.zero 1).length then bR N (updH F' s k [.x]) d (.H .one [.s .own (chunk a.size 1 (splice (rep a.zero 1) (0*a.size) [c]))]) K' else False) else False:=by
  intro F' g K';unfold gp
  congr 1
  funext e a
  rcases n with rfl|rfl<;>simp only[du,fillW,TJ,vS,np,g,iG,aZ,p,cond_true,cond_false,iq,pp,List.length_singleton,List.replicate]
  all_goals rfl
 rw[key F o]at h;obtain⟨e,a,b,l⟩:=jP h;cases f:Nat.ble (1*a.size) 16777216 with
 | false=>rw[f]at b;exact b.elim
 | true=>
  cases i:(Nat.beq 1 a.size&&Nat.ble (0*a.size+a.size) (rep a.zero 1).length) with
  | false=>rw[f,i]at b;exact b.elim
  | true=>
   rw[f,i]at b;simp only[cond_true]at b;unfold bR at b;cases j:N.free d with
   | false=>rw[j]at b;exact b.elim
   | true=>
    rw[j]at b;refine⟨_,rfl,λ_=>rfl,b,λF' K' g q=>?_⟩;rw[key F' g];refine l _ ?_;simp only[f,i,cond_true];unfold bR;rw[j];exact q
def Rm{d s:Nat}{T:Option Nat}{k:Kd}{cs:List C}{K:(Nat->AV)->Prop}(j:F s=.H k cs)(a:own1 T k cs=true)(h:RT TE N F d T s K) :
  ∃av,N.free d=true/\(∀e,av.uses e=false)/\K (put (updH F s k (splice cs 0 (List.replicate cs.length .x))) d av)/\∀(F':Nat->AV)(K':(Nat->AV)->Prop),F' s=.H k cs->K' (put (updH F' s k (splice cs 0 (List.replicate cs.length .x))) d av)->RT TE N F' d T s K':=by
 cases T with
 | some T=>
  have i:(k=.one\/k=.agg)/\∃c,cs=[c]/\eD c=true:=by
   unfold own1 at a;cases k with
   | one=>match cs,a with|[c],a=>exact⟨.inl rfl,c,rfl,a⟩
   | agg=>match cs,a with|[c],a=>exact⟨.inr rfl,c,rfl,a⟩
   | _=>cases a
  obtain⟨l,c,rfl,n⟩:=i;exact GE l j n h
 | none=>
  have i:∃b,k=.tup b/\aZ cs=false:=by
   unfold own1 at a;cases k with
   | tup b=>exact⟨b,rfl,by simpa using a⟩
   | _=>cases a
  obtain⟨b,rfl,o⟩:=i;have key:∀F':Nat->AV,F' s=.H (.tup b) cs->∀K',RT TE N F' d none s K'=bR N (updH F' s (.tup b) (splice cs 0 (List.replicate cs.length .x))) d (.H (.tup b) cs) K':=λF' f K'=>by
   simp only[RT,jr,f,o,cond_false]
  rw[key F j]at h;unfold bR at h;cases g:N.free d with
  | false=>rw[g]at h;exact h.elim
  | true=>
   rw[g]at h;refine⟨_,rfl,λ_=>rfl,h,λF' K' f p=>?_⟩;rw[key F' f];unfold bR;rw[g];exact p
structure Yl(P:Program)(TE:Nat->Option TI)(N:fC)(ops:Array Oper)(o:Oper)(F:Nat->AV)(mv:Option Nat)(d:Nat)(av:AV):Prop where
 dst:o.dst=some d
 lt:N.free d=true
 self:av.uses d=false
 from_:eI F (o.looksAt ops) av
 mvl:∀s,mv=some s->o.guard=none/\(∃T,ns o.op=some (T,s))/\jA ops o s=true
 at_:∀F':Nat->AV,j7 F F' (o.looksAt ops)->(∀t,(F' t).uses d=false)->(∀s,mv=some s->∀t,(F' t).uses s=false)->∀K':(Nat->AV)->Prop,K' (eff mv d av F')->lM P TE N ops o K' F'
def JC{o:Op}{T:Option Nat}{s:Nat}(h:ns o=some (T,s)):(∃a ps,T=some a/\o=.buildSlice a 1 ps/\ps.toList=[(0,.tmp s)])\/(T=none/\o=.move (.tmp s)):=by
 unfold ns at h;split at h
 ·split at h
  ·rename_i a ps c b
   simp only[Z0,Prod.mk.injEq]at h;obtain⟨rfl,rfl⟩:=h;exact .inl ⟨_,_,rfl,rfl,b⟩
  cases h
 ·simp only[Z0,Prod.mk.injEq]at h
  obtain⟨rfl,rfl⟩:=h;exact .inr ⟨rfl,rfl⟩
 cases h
def dc{o:Oper}{T:Option Nat}{s:Nat}(h:ns o.op=some (T,s)):s∈o.looksAt ops:=by
 refine gm o s ?_;unfold di;refine List.mem_flatMap.2 ⟨.tmp s,?_,by simp[tm]⟩;rcases JC h with⟨d,b,-,a,c⟩|⟨-,a⟩
 ·rw[a]
  simp only[Op.operands];have:b = #[(0,.tmp s)]:=Array.ext' (by rw[c]);subst this;simp
 rw[a];simp[Op.operands]
def Gt{o:Oper}{p:Option Nat × Nat}(h:GV F o=some p):o.guard=none/\ns o.op=some p/\∃k cs,F p.2=.H k cs/\own1 p.1 k cs=true:=by
 unfold GV at h;split at h
 ·cases h
 rename_i b;split at h
 ·cases h
 rename_i c d;split at h
 case h_1=>
  rename_i k cs e;cases a:own1 c.1 k cs with
  | false=>rw[a]at h;cases h
  | true=>
   rw[a]at h;simp only[cond_true,Z0]at h;subst h;exact⟨b,d,_,_,e,a⟩
 all_goals cases h
def w9{F':Nat->AV}{o:Oper}(a:j7 F F' (o.looksAt ops)):GV F' o=GV F o:=by
 unfold GV;cases c:o.guard with
 | some _=>rfl
 | none=>
  cases b:ns o.op with
  | none=>rfl
  | some p=>simp only;rw[(a p.2 (dc b)).1]
def tL{o:Oper}{K:(Nat->AV)->Prop}(e:GV F o=none)(h:gV P TE N ops o K F)(f:∀d,o.dst=some d->∀t,(F t).uses d=false):∃d av,Yl P TE N ops o F none d av/\K (eff none d av F):=by
 obtain⟨d,av,a,g⟩:=y8 h;refine⟨d,av,⟨a.dst,a.lt,a.self,a.from_,λs i=>(by cases i),λj c k _ l b=>?_⟩,by rw[<-D7 av (f d a.dst)];exact g⟩;unfold lM;rw[w9 c,e];exact a.at_ j c l (by rw[D7 av k];exact b)
def qi{o:Oper}{K:(Nat->AV)->Prop}(h:lM P TE N ops o K F)(w:∀d,o.dst=some d->∀t,(F t).uses d=false)(i:∀T s,o.guard=none->ns o.op=some (T,s)->jA ops o s=true->∀t,(F t).uses s=false) :
  ∃y d av,Yl P TE N ops o F y d av/\K (eff y d av F):=by
 unfold lM at h;cases c:GV F o with
 | none=>
  rw[c]at h;obtain⟨d,av,l⟩:=tL c h w;exact⟨none,d,av,l⟩
 | some p=>
  rw[c]at h;obtain⟨A,b,k,J,j,f⟩:=Gt c;simp only at h;cases g:o.dst with
  | none=>rw[g]at h;exact h.elim
  | some d=>
   rw[g]at h;simp only at h;cases a:jA ops o p.2 with
   | false=>rw[a]at h;exact h.elim
   | true=>
    rw[a]at h;simp only[cond_true]at h;obtain⟨av,l,B,D,E⟩:=Rm j f h;refine⟨some p.2,d,av,⟨g,l,B d,λe C=>(by rw[B e]at C;cases C),λs i=>?_,λG n q r H u=>?_⟩,?_⟩
    ·simp only[Z0]at i
     subst i;exact⟨A,⟨p.1,b⟩,a⟩
    ·unfold lM
     rw[w9 n,c];simp only;rw[g];simp only;rw[a];refine E G H ((n p.2 (dc b)).1.trans j) ?_;rw[LS av ((n p.2 (dc b)).1.trans j) q (r p.2 rfl)];exact u
    rw[<-LS av j (w d g) (i p.1 p.2 A b a)];exact D
def K9{nm:Bool}{o:Oper}{K:(Nat->AV)->Prop}(h:MJ P TE N ops nm o K F)(g:∀d,o.dst=some d->∀t,(F t).uses d=false)(i:∀T s,o.guard=none->ns o.op=some (T,s)->jA ops o s=true->∀t,(F t).uses s=false) :
  ∃a d av,Yl P TE N ops o F a d av/\K (eff a d av F)/\(nm=true->a=none):=by
 unfold MJ at h;cases nm with
 | false=>
  obtain⟨a,d,av,b,c⟩:=qi h g i;exact⟨a,d,av,b,c,λe=>(by cases e)⟩
 | true=>
  cases f:GV F o with
  | some p=>simp only[f]at h
  | none=>
   simp only[f]at h;obtain⟨d,av,b,c⟩:=tL f h g;exact⟨none,d,av,b,c,λ_=>rfl⟩
end
section
variable{P:Program}{w0 w w1:World}{M S0 S:ah}{N:fC}{φ:Nat->ah}{F:Nat->AV}{a:Act}{TE:Nat->Option TI}{ops:Array Oper}
def zc(P:Program)(TE:Nat->Option TI)(N:fC)(ops:Array Oper)(m i:Nat)(K:(Nat->AV)->Prop)(F:Nat->AV):Prop:=
 match ops[i]? with
 | none=>K F
 | some o=>if i<m then lM P TE N ops o K F else jx P TE N ops o K F
def HA(P:Program)(TE:Nat->Option TI)(N:fC)(ops:Array Oper)(m:Nat)(K:(Nat->AV)->Prop):Nat->Array Bool->(Nat->AV)->Prop
 | 0,listed,F=>Region.ready .any ops listed=[]/\K F
 | fuel+1,listed,F=>(Region.ready .any ops listed=[]->K F)/\∀i,i∈Region.ready .any ops listed->zc P TE N ops m i (HA P TE N ops m K fuel (listed.setIfInBounds i true)) F
def bj.oneP0(h:bj w0 M S0 N S φ F a w)(g:∀t i,TE t=some i->bQ P t i){o:Oper}{K:(Nat->AV)->Prop}(b:gV P TE N ops o K F){Kc:Act->World->Prop}{Q:Exit->Act->World->Prop}(n:∀F' p f,K F'->St w0 M S0 N F' p f->Kc p f) :
  if Region.wanted o (yielded ops a.tmps) then o.wp P a w Kc Q else Kc (a.put o.dst undef) w:=by
 unfold gV at b;rcases y6 h b with⟨j,b⟩|⟨j,b⟩
 ·rw[j,CB rfl]
  cases e:o.dst with
  | none=>rw[e]at b;exact b.elim
  | some d=>
   rw[e]at b;obtain⟨av,k,q⟩:=h.pure_ g b;refine q Kc Q λv f r=>?_
   obtain⟨F',l,c⟩:=h.putD_new r k;rw[e];exact n F' _ f l c
 rw[j,C9 (by simp)];cases e:o.dst with
 | none=>rw[e]at b;exact b.elim
 | some d=>
  rw[e]at b;obtain⟨F',k,c⟩:=h.putD_new (v:=undef) (lW.same (av:=.H (.tup []) []) MT) b;exact n F' _ w k c
def LJ{o:Oper}{p:Option Nat × Nat}{d:Nat}{K:(Nat->AV)->Prop}(f:GV F o=some p)(c:o.dst=some d)(h:RT TE N F d p.1 p.2 K):jx P TE N ops o K F:=by
 obtain⟨e,a,-⟩:=Gt f;obtain⟨T,s⟩:=p;rcases JC a with⟨i,j,rfl,b,g⟩|⟨rfl,b⟩
 ·unfold jx fW
  rw[e];simp only;rw[b];simp only[Ef];rw[c];simp only[nY,g];exact h
 unfold jx fW;rw[e];simp only;rw[b];simp only[Ef];rw[c];simp only[nY];exact h
def bj.oneP(h:bj w0 M S0 N S φ F a w)(c:∀t i,TE t=some i->bQ P t i){o:Oper}{K:(Nat->AV)->Prop}(b:lM P TE N ops o K F){Kc:Act->World->Prop}{Q:Exit->Act->World->Prop}(j:∀F' k l,K F'->St w0 M S0 N F' k l->Kc k l) :
  if Region.wanted o (yielded ops a.tmps) then o.wp P a w Kc Q else Kc (a.put o.dst undef) w:=by
 unfold lM at b;cases g:GV F o with
 | none=>rw[g]at b;exact h.oneP0 c b j
 | some p=>
  rw[g]at b;simp only at b;cases f:o.dst with
  | none=>rw[f]at b;exact b.elim
  | some d=>
   rw[f]at b;simp only at b;cases e:jA ops o p.2 with
   | false=>rw[e]at b;exact b.elim
   | true=>
    rw[e]at b;have:=h.one c (LJ (P:=P) (ops:=ops) g f b) (Q:=Q) j;rw[f]at this;exact this
def Hn(c:∀t i,TE t=some i->bQ P t i){m i:Nat}{K:(Nat->AV)->Prop}(b:zc P TE N ops m i K F)(f:St w0 M S0 N F a w){Kc:Act->World->Prop}{Q:Exit->Act->World->Prop}(d:∀F' g j,K F'->St w0 M S0 N F' g j->Kc g j):wpOp P ops Q i Kc a w:=by
 unfold zc at b;unfold wpOp;cases k:ops[i]? with
 | none=>rw[k]at b;exact d F a w b f
 | some o=>
  rw[k]at b;simp only at b |-;obtain⟨S,φ,h⟩:=f;have:if Region.wanted o (yielded ops a.tmps) then o.wp P a w Kc Q else Kc (a.put o.dst undef) w:=by
   split at b
   ·exact h.oneP c b d
   exact h.one c b d
  split
  ·rename_i e;rw[CB e]at this;exact .inl this
  rename_i e;rw[C9 e]at this;exact this
def Bv(b:∀t i,TE t=some i->bQ P t i){m:Nat}{K:(Nat->AV)->Prop}{Q:Exit->Act->World->Prop}(g:∀F' d e,K F'->St w0 M S0 N F' d e->Q .normal d e) :
  ∀(fuel:Nat)(listed:Array Bool)(F:Nat->AV)(a:Act)(w:World),HA P TE N ops m K fuel listed F->St w0 M S0 N F a w->wpAny P .any ops Q fuel listed a w
 | 0,_,F,a,w,c,f=>⟨c.1,g F a w c.2 f⟩
 | fuel+1,_,F,a,w,c,f=>⟨λj=>g F a w (c.1 j) f,λi k=>Hn b (c.2 i k) f λF' d e l h=>Bv b g fuel _ F' d e l h⟩
structure AP(ops:Array Oper)(m:Nat)(F:Nat->AV)(listed:Array Bool):Prop where
 dst:∀j o d,j<m->ops[j]? = some o->listed.getD j true=false->o.dst=some d->∀t,(F t).uses d=false
 mv:∀j o T s,j<m->ops[j]? = some o->listed.getD j true=false->o.guard=none->ns o.op=some (T,s)->jA ops o s=true->∀t,(F t).uses s=false
def DC(ops:Array Oper)(listed:Array Bool):Prop:=∀j a,ops[j]? = some a->listed.getD j false=true->∀k,dh a k=true->listed.getD k false=true
def Qq{d e:Nat}{v:AV}(h:(kl d v).uses e=true):v.uses e=true/\v.uses d=false:=by
 rw[AG]at h;cases a:v.uses d with
 | true=>rw[a]at h;cases h
 | false=>rw[a]at h;exact⟨h,rfl⟩
def xC{α:Type}{p:α->Bool} : ∀{l:List α}{i j:Nat}{x y:α},(l.filter p).length<=1->l[i]? = some x->l[j]? = some y->p x=true->p y=true->i=j
 | [],_,_,_,_,_,h,_,_,_=>by simp at h
 | a::l,0,0,_,_,_,_,_,_,_=>rfl
 | a::l,i+1,j+1,x,y,h,b,c,d,e=>by
  rw[xC (l:=l) (Z4 (List.Sublist.length_le ((List.sublist_cons_self a l).filter p)) h) b c d e]
 | a::l,0,j+1,x,y,h,b,c,d,e=>by
  simp only[List.getElem?_cons_zero,Z0]at b;subst b;rw[List.filter_cons_of_pos d]at h;have:y∈l.filter p:=U4.2 ⟨Z1 c,e⟩;have:=List.length_pos_of_mem this;rw[List.length_cons]at h;omega
 | a::l,i+1,0,x,y,h,b,c,d,e=>by
  simp only[List.getElem?_cons_zero,Z0]at c;subst c;rw[List.filter_cons_of_pos e]at h;have:x∈l.filter p:=U4.2 ⟨Z1 b,d⟩;have:=List.length_pos_of_mem this;rw[List.length_cons]at h;omega
def iR{listed:Array Bool}{j a:Nat}(c:(listed.setIfInBounds j true).getD a true=false):a≠j:=λe=>by
 subst e;have b:a<listed.size:=by
  rcases Nat.lt_or_ge a listed.size with h|h
  ·exact h
  simp[W6,Array.getElem?_eq_none (show(listed.setIfInBounds a true).size<=a by simpa using h)]at c
 simp[W6,b]at c
def jZ{b:Option Nat}{d e t:Nat}{av:AV}(a:av.uses e=false)(c:(F t).uses e=false):(eff b d av F t).uses e=false:=by
 unfold eff;split
 ·exact a
 split
 ·exact MB _ _
 exact c
def AP.put{m j d:Nat}{r:Option Nat}{listed:Array Bool}{av:AV}(h:AP ops m F listed)(o:∀a b g,a<m->a≠j->ops[a]? = some b->listed.getD a true=false->b.dst=some g->av.uses g=false)(p:∀a b T s,a<m->a≠j->ops[a]? = some b->listed.getD a true=false->b.guard=none->ns b.op=some (T,s)->jA ops b s=true->av.uses s=false) :
  AP ops m (eff r d av F) (listed.setIfInBounds j true):=by
 refine⟨λa b g i c f k t=>?_,λa b T s i c f q l n t=>?_⟩
 ·have e:=iR f
  rw[getD_set_ne true (Ne.symm e)]at f;exact jZ (o a b g i e c f k) (h.dst a b g i c f k t)
 have e:=iR f;rw[getD_set_ne true (Ne.symm e)]at f;exact jZ (p a b T s i e c f q l n) (h.mv a b T s i c f q l n t)
inductive oA(ops:Array Oper):Nat->Nat->Prop
 |one {j i:Nat} (h:dh (de ops j) i=true):oA ops j i
 |step {j k i:Nat} (h:dh (de ops j) k=true) (h2:oA ops k i):oA ops j i
def oA.trans{i j k:Nat}(h:oA ops j k)(a:oA ops k i):oA ops j i:=by
 induction h with
 | one h=>exact .step h a
 | step h _ b=>exact .step h (b a)
def G1{i:Nat} : ∀{a:List Nat},(Fj a).testBit i=true->i∈a
 | [],h=>by simp[Fj]at h
 | k::a,h=>by
  rw[Fj,Nat.testBit_or,O6]at h;rcases h with h|h
  ·rw[Nat.testBit_two_pow]at h
   rw[C0]at h;rw[h];exact W1
  exact O5 _ (G1 h)
def yl{o:Oper}{i:Nat}(h:(Fj (ons o)).testBit i=true):dh o i=true:=by
 have:=G1 h;unfold ons at this;obtain⟨e,a,rfl⟩:=O4.1 this;rw[U4]at a;exact cu.2 ⟨e,by simpa using a.1,a.2,rfl⟩
def tO{j:Nat} : ∀(k S:Nat),(∀i,S.testBit i=true->oA ops j i)->∀i,(clo ops k S).testBit i=true->oA ops j i
 | 0,_,h,i,a=>h i a
 | k+1,S,h,i,a=>by
  rw[clo,N8]at a;cases c:S.testBit k with
  | false=>rw[c]at a;exact tO k S h i a
  | true=>
   rw[c]at a;refine tO k _ (λe b=>?_) i a;rw[Nat.testBit_or,O6]at b;rcases b with d|d
   ·exact h e d
   exact(h k c).trans (.one (yl d))
def ou{listed:Array Bool}(d:DC ops listed)(b:∀j o,ops[j]? = some o->∀e∈o.after,Region.binds .any e=true->e.on<j){j i:Nat}(p:oA ops j i):j<ops.size->(∀k,dh (de ops j) k=true->listed.getD k false=true)->listed.getD i false=true:=by
 induction p with
 | one h=>exact λ_ f=>f _ h
 | @step j k i h h2 ih=>
  intro g f;have r:k<j:=by
   have c:=(show ops[j]? = some ops[j] from U6 g)
   rw[bc c]at h;obtain⟨e,l,n,rfl⟩:=cu.1 h;exact b j _ c e l n
  have a:k<ops.size:=ω
  have c:=(show ops[k]? = some ops[k] from U6 a)
  exact ih a λq a=>d k _ c (f k h) q (by rw[bc c]at a;exact a)
def DC.put{listed:Array Bool}(h:DC ops listed){j:Nat}(n:j∈Region.ready .any ops listed):DC ops (listed.setIfInBounds j true):=by
 obtain⟨p,q,d,a⟩:=mem_ready.1 n;intro k ok c i e l;by_cases b:k=j
 ·subst b
  rw[d]at c;simp only[Z0]at c;subst c;obtain⟨o,f,g,rfl⟩:=cu.1 l;exact getD_set_true (a o f g)
 rw[getD_set_ne false (Ne.symm b)]at i;exact getD_set_true (h k ok c i e l)
def gy{o:Oper}{s:Nat}(h:jA ops o s=true):(∃k ok,dh o k=true/\ops[k]? = some ok/\ok.dst=some s)/\∀(i j:Nat)(b c:Oper),ops[i]? = some b->ops[j]? = some c->s∈b.looksAt ops->s∈c.looksAt ops->i=j:=by
 unfold jA at h;rw[I0]at h;obtain⟨w,y⟩:=h;constructor
 ·obtain⟨k,A,g⟩:=t4.1 w
  have n:=List.mem_range.1 A;have t:=(show ops[k]? = some ops[k] from U6 n)
  rw[I0,bc t]at g;refine⟨k,_,g.1,t,?_⟩;have:=g.2;cases u:ops[k].dst with
  | none=>rw[u]at this;cases this
  | some a=>rw[u]at this;simp only at this;rw[C2 this]
 intro i j b c B C q r;have d:=I1 y;have e:ops.toList[i]? = some b:=by simpa using B
 have f:ops.toList[j]? = some c:=by simpa using C
 have D:(b.looksAt ops).any (Nat.beq s)=true:=t4.2 ⟨s,q,Nat.beq_refl s⟩;have E:(c.looksAt ops).any (Nat.beq s)=true:=t4.2 ⟨s,r,Nat.beq_refl s⟩;generalize ops.toList=l at d e f;exact xC (p:=λk:Oper=>(k.looksAt ops).any (Nat.beq s)) d e f D E
structure TM(ops:Array Oper)(m:Nat):Prop where
 back:∀j oj,ops[j]? = some oj->∀e∈oj.after,Region.binds .any e=true->e.on<j
 tail:∀j,m<=j->j<ops.size->∀i,i<j->oA ops j i
 apart:∀i j oi oj,i<m->j<m->i≠j->ops[i]? = some oi->ops[j]? = some oj->dh oj i=true\/dh oi j=true\/oi.apart ops oj=true
 look:∀i j oi oj d,i<m->j<m->i≠j->ops[i]? = some oi->ops[j]? = some oj->oi.dst=some d->d∈oj.looksAt ops->dh oj i=true
def G5{m:Nat}(h:DR ops m=true):TM ops m:=by
 have n:∀j b,ops[j]? = some b->_:=λj b a=>gW h (V3.1 a).1
 refine⟨λj b a e t p=>?_,λj A a i l=>?_,λi j u b l a f o k=>?_,λi j u b d l a f o k w y=>?_⟩
 ·have:=n j b a
  rw[bc a]at this;simp only[I0]at this;have:=v4.1 this.1 e (by simpa using t);rw[p]at this;simpa[Nat.blt_eq] using this
 ·have q:=(show ops[j]? = some ops[j] from U6 a)
  have:=n j _ q;simp only[I0]at this;have c:=this.2;rw[show Nat.blt j m=false by rw[<-U5,Nat.blt_eq];omega]at c;simp only[cond_false,N8]at c;exact tO j _ (λB r=>.one (yl r)) i (gW c l)
 ·have:=n j b k
  rw[bc k]at this;simp only[I0]at this;have c:=this.2;rw[show Nat.blt j m=true by simpa[Nat.blt_eq] using a]at c;have g:=gW c l;rw[bc o,show Nat.beq i j=false by rw[<-U5,Nat.beq_eq];exact f]at g;simp only[Bool.false_or,I0,O6]at g;rcases g.1 with(h|h)|h
  ·exact .inl h
  ·exact .inr (.inl h)
  exact .inr (.inr h)
 have:=n j b k;rw[bc k]at this;simp only[I0]at this;have c:=this.2;rw[show Nat.blt j m=true by simpa[Nat.blt_eq] using a]at c;have g:=gW c l;rw[bc o,show Nat.beq i j=false by rw[<-U5,Nat.beq_eq];exact f]at g;simp only[Bool.false_or,I0,O6]at g;rcases g.2 with h|h
 ·exfalso
  unfold tU at h;rw[bc o,w]at h;simp only at h;rw[bc k]at h;have:(b.looksAt ops).any (Nat.beq d)=true:=t4.2 ⟨d,y,Nat.beq_refl d⟩;rw[this]at h;cases h
 exact h
def KD{m:Nat}(W:TM ops m){i d:Nat}{o:Oper}{y:Option Nat}{av:AV}{K:(Nat->AV)->Prop}(G:ops[i]? = some o)(r:i<m) :
  ∀(fuel:Nat)(listed:Array Bool)(F:Nat->AV),i∈Region.ready .any ops listed->AP ops m F listed->DC ops listed->Yl P TE N ops o F y d av->HA P TE N ops m K fuel (listed.setIfInBounds i true) (eff y d av F)->HA P TE N ops m K (fuel+1) listed F:=by
 have self:∀(listed:Array Bool)(F:Nat->AV),i∈Region.ready .any ops listed->AP ops m F listed->Yl P TE N ops o F y d av->∀K':(Nat->AV)->Prop,K' (eff y d av F)->lM P TE N ops o K' F:=λlisted F D a p K' hK=>by
  have b:=(mem_ready.1 D).1;refine p.at_ F (j7.refl _ _) (a.dst i o d r G b p.dst) (λs hs=>?_) K' hK;obtain⟨A,⟨T,V⟩,h3⟩:=p.mvl s hs;exact a.mv i o T s r G b A V h3
 intro fuel
 induction fuel with
 | zero=>
  intro listed F D a hdc p H;refine⟨λh=>(by rw[h]at D;cases D),λj hj=>?_⟩;by_cases l:j=i
  ·subst l
   unfold zc;rw[G];simp only[CB r];exact self listed F D a p _ H
  have:=ready_mono hj l;rw[H.1]at this;cases this
 | succ fuel ih=>
  intro listed F D a hdc p H;refine⟨λh=>(by rw[h]at D;cases D),λj hj=>?_⟩;by_cases l:j=i
  ·subst l
   unfold zc;rw[G];simp only[CB r];exact self listed F D a p _ H
  have A:=H.2 j (ready_mono hj l);obtain⟨J,n,c,hall⟩:=mem_ready.1 hj;have b:=(mem_ready.1 D).1;have unl:∀k,listed.getD k true=false->listed.getD k false=true->False:=λk A V=>by
   rcases Nat.lt_or_ge k listed.size with h'|h'
   ·simp[h']at A V;rw[A]at V;cases V
   simp[Array.getElem?_eq_none h']at V
  have noedge:∀k ok,ops[k]? = some ok->listed.getD k true=false->dh n k=false:=λk ok hk L=>by
   rw[<-U5];intro he;obtain⟨e,M,O,he3⟩:=cu.1 he;exact unl k L (he3 ▸ hall e M O)
  have noedge':∀k ok,ops[k]? = some ok->listed.getD k true=false->dh o k=false:=λk ok hk L=>by
   rw[<-U5];intro he;obtain⟨e,M,O,he3⟩:=cu.1 he;obtain⟨-,oi',Q,hall'⟩:=mem_ready.1 D;rw[G]at Q;simp only[Z0]at Q;subst Q;exact unl k L (he3 ▸ hall' e M O)
  have R:j<m:=by
   rcases Nat.lt_or_ge j m with h|h
   ·exact h
   have hjlt:=(V3.1 c).1;refine(unl i b (ou hdc W.back (W.tail j h hjlt i ω) hjlt λk hk=>?_)).elim;rw[bc c]at hk;obtain⟨e,M,O,rfl⟩:=cu.1 hk;exact hall e M O
  have hap:o.apart ops n=true:=by
   rcases W.apart i j o n r R (Ne.symm l) G c with h|h|h
   ·rw[noedge i o G b]at h;cases h
   ·rw[noedge' j n c J]at h;cases h
   exact h
  obtain⟨ap1,ap2,ap3⟩:=Oper.apart_spec hap;unfold zc at A |-;rw[c]at A |-;simp only[CB R]at A |-;have hdl:d∉n.looksAt ops:=ap1 d p.dst;have cd:∀t,(F t).uses d=false:=a.dst i o d r G b p.dst
  have cdj':∀f,n.dst=some f->∀t,(F t).uses f=false:=λf S=>a.dst j n f R c J S
  have cmv:∀s,y=some s->(∀t,(F t).uses s=false)/\s∉n.looksAt ops/\s∈o.looksAt ops:=λs hs=>by
   obtain⟨U,⟨T,q⟩,E⟩:=p.mvl s hs;exact⟨a.mv i o T s r G b U q E,λhl=>l ((gy E).2 i j o n G c (dc q) hl).symm,dc q⟩
  have cmvj:∀T s,n.guard=none->ns n.op=some (T,s)->jA ops n s=true->(∀t,(F t).uses s=false)/\s∉o.looksAt ops/\s∈n.looksAt ops:=λT s U q E=>
   ⟨a.mv j n T s R c J U q E,λhl=>l ((gy E).2 i j o n G c hl (dc q)).symm,dc q⟩
  have avno:∀e,e∉o.looksAt ops->(∀t,(F t).uses e=false)->av.uses e=false:=λe A V=>by
   cases w:av.uses e with
   | false=>rfl
   | true=>
    rcases p.from_ e w with h|⟨t,_,h⟩
    ·exact absurd h A
    rw[V t]at h;cases h
  obtain⟨mvj,f,avj,B,hKj⟩:=qi A (λf S t=>jZ (avno f (ap3 f S) (cdj' f S)) (cdj' f S t)) (λT s U q E t=>by
    obtain⟨c1,c2,-⟩:=cmvj T s U q E;exact jZ (avno s c2 c1) (c1 t))
  have hdne:d≠f:=λe=>ap2 d p.dst (by rw[B.dst,e])
  have hdjl:f∉o.looksAt ops:=ap3 f B.dst;have cdj:∀t,(F t).uses f=false:=cdj' f B.dst
  have cmj:∀s,mvj=some s->(∀t,(F t).uses s=false)/\s∉o.looksAt ops/\s∈n.looksAt ops:=λs hs=>by
   obtain⟨U,⟨T,q⟩,E⟩:=B.mvl s hs;exact cmvj T s U q E
  have lookj:∀t,t∈n.looksAt ops->eff y d av F t=F t:=λt u=>by
   unfold eff;have X:t≠d:=λe=>hdl (e ▸ u)
   have e2:y≠some t:=λe=>(cmv t e).2.1 u
   rw[C9 X,C9 e2]
  have looki:∀t,t∈o.looksAt ops->eff mvj f avj F t=F t:=λt u=>by
   unfold eff;have X:t≠f:=λe=>hdjl (e ▸ u)
   have e2:mvj≠some t:=λe=>(cmj t e).2.1 u
   rw[C9 X,C9 e2]
  have avjno:∀e,e∉n.looksAt ops->(∀t,(F t).uses e=false)->avj.uses e=false:=λe A V=>by
   cases w:avj.uses e with
   | false=>rfl
   | true=>
    rcases B.from_ e w with h|⟨t,u,h⟩
    ·exact absurd h A
    rw[lookj t u,V t]at h;cases h
  have agrj:j7 (eff y d av F) F (n.looksAt ops):=λt u=>by
   rw[lookj t u];refine⟨rfl,λt' w k cs hh=>?_⟩;have g:t'≠d:=λe=>by rw[e,cd t]at w;cases w
   have hnm:y≠some t':=λe=>by rw[(cmv t' e).1 t]at w;cases w
   unfold eff at hh;rw[C9 g,C9 hnm]at hh;exact hh
  refine B.at_ F agrj cdj (λs hs=>(cmj s hs).1) _ (ih (listed.setIfInBounds j true) (eff mvj f avj F) (ready_mono D (Ne.symm l)) (a.put (λj' o' d' Y g C Z hd'=>?_) (λj' o' T s Y g C Z U q E=>?_)) (hdc.put hj) ?_ ?_)
  ·refine avjno d' (λh=>?_) (a.dst j' o' d' Y C Z hd')
   have:=W.look j' j o' n d' Y R g C c hd' h;rw[noedge j' o' C Z]at this;cases this
  ·exact avjno s (λh=>g ((gy E).2 j' j o' n C c (dc q) h)) (a.mv j' o' T s Y C Z U q E)
  ·refine⟨p.dst,p.lt,p.self,λe he=>?_,p.mvl,λF' hA hd' hs' K' hK=>p.at_ F' (λt u=>?_) hd' hs' K' hK⟩
   ·rcases p.from_ e he with h|⟨t,u,h⟩
    ·exact .inl h
    exact .inr ⟨t,u,by rw[looki t u];exact h⟩
   obtain⟨a1,a2⟩:=hA t u;rw[looki t u]at a1 a2;refine⟨a1,λt' w k cs hh=>a2 t' w k cs ?_⟩;have g:t'≠f:=λe=>by rw[e,cdj t]at w;cases w
   have hnm:mvj≠some t':=λe=>by rw[(cmj t' e).1 t]at w;cases w
   unfold eff;rw[C9 g,C9 hnm];exact hh
  rw[Array.setIfInBounds_comm _ _ l];have:eff y d av (eff mvj f avj F)=eff mvj f avj (eff y d av F):=by
   funext t
   unfold eff;by_cases X:t=d
   ·have U:t≠f:=λe=>hdne (X.symm.trans e)
    have q:mvj≠some t:=λe=>hdl (X ▸ (cmj t e).2.2)
    simp only[CB X,C9 U,C9 q]
   rw[C9 X];by_cases e2:t=f
   ·have q:y≠some t:=λe=>hdjl (e2 ▸ (cmv t e).2.2)
    simp only[CB e2,C9 q]
   simp only[C9 e2,C9 X];by_cases e3:y=some t
   ·by_cases e4:mvj=some t
    ·simp only[CB e3,CB e4]
    simp only[CB e3,C9 e4]
   by_cases e4:mvj=some t
   ·simp only[C9 e3,CB e4]
   simp only[C9 e3,C9 e4]
  rw[this];exact hKj
def tR{o:Op}{K K':AV->Prop}(h:dt P TE F o K)(a:∀av,K av->K' av):dt P TE F o K':=by
 obtain⟨av,b,-,c⟩:=kj h;exact c F (j7.refl _ _) K' (a av b)
def bw{d:Nat}{av:AV}{K K':(Nat->AV)->Prop}(h:bR N F d av K)(b:∀F',K F'->K' F'):bR N F d av K':=by
 unfold bR at h |-;cases a:(N.free d&&!av.uses d) with
 | false=>rw[a]at h;exact h.elim
 | true=>rw[a]at h;exact b _ h
def gx{y:Operand}{K K':(Nat->AV)->Option Nat->List C->Prop}(h:iq F y K)(b:∀F' ag cs,K F' ag cs->K' F' ag cs):iq F y K':=by
 cases y with
 | tmp t=>
  simp only[iq]at h |-;cases c:F t with
  | H k cs=>
   rw[c]at h;cases k with
   | one=>exact b _ _ _ h
   | agg=>exact b _ _ _ h
   | _=>exact h.elim
  | c2 e d f ag=>
   rw[c]at h;cases f with
   | cons s f=>
    simp only at h |-;cases a:F e with
    | H k cs=>
     rw[a]at h;obtain⟨r,j,i,l,n,o⟩:=Lq.out h;exact .mk_ ⟨r,j,_,_,i,l,n,rfl,rfl,b _ _ _ o⟩
    | _=>rw[a]at h;exact h.elim
   | nil=>
    simp only at h |-;cases a:F e with
    | H k cs=>
     rw[a]at h;simp only at h |-;cases g:Nat.ble (d+ag.getD 1) cs.length with
     | false=>rw[g]at h;exact h.elim
     | true=>rw[g]at h;exact b _ _ _ h
    | _=>rw[a]at h;exact h.elim
  | _=>rw[c]at h;exact h.elim
 | _=>exact h.elim
def B1{x:Operand}{K K':AV->Prop}(h:bu F x K)(a:∀av,K av->K' av):bu F x K':=by
 obtain⟨av,b,-,c⟩:=kw h;exact c F (j7.refl _ _) K' (a av b)
def Ey{d:Nat}{x:Operand}{K K':(Nat->AV)->Prop}(h:kX N F d x K)(n:∀F',K F'->K' F'):kX N F d x K':=by
 have a:∀y,bu F y (λj=>bR N F d j K)->bu F y (λj=>bR N F d j K'):=λy h=>B1 h λj h=>bw h n
 have l:∀y,iq F y (λF' i c=>bR N F' d (.H (jY i) c) K)->iq F y (λF' i c=>bR N F' d (.H (jY i) c) K'):=λy h=>gx h λF' i c h=>bw h n
 cases x with
 | tmp t=>
  unfold kX at h |-;simp only at h |-;cases e:F t with
  | H k c=>
   rw[e]at h;cases k with
   | one=>
    simp only at h |-;cases b:aZ c with
    | true=>rw[b]at h;exact a (.tmp t) h
    | false=>rw[b]at h;exact l (.tmp t) h
   | agg=>
    simp only at h |-;cases b:aZ c with
    | true=>rw[b]at h;exact a (.tmp t) h
    | false=>rw[b]at h;exact l (.tmp t) h
   | tup p=>exact a _ h
   | box=>exact a _ h
  | c2 q o r i=>
   rw[e]at h;simp only at h |-;cases b:N.al d with
   | true=>rw[b]at h;exact a (.tmp t) h
   | false=>rw[b]at h;exact l (.tmp t) h
  | dead=>rw[e]at h;exact a _ h
  | ref=>rw[e]at h;exact a _ h
  | iref=>rw[e]at h;exact a _ h
  | fn=>rw[e]at h;exact a _ h
  | fv=>rw[e]at h;exact a _ h
 | const v=>exact a (.const v) h
 | global g=>exact a (.global g) h
 | func f=>exact a (.func f) h
def Nu{d:Nat}{x:Operand}{K K':(Nat->AV)->Prop}(h:DT N F d x K)(b:∀F',K F'->K' F'):DT N F d x K':=by
 unfold DT at h |-;cases a:Lw N d x with
 | true=>rw[a]at h;exact bw h b
 | false=>
 rw[a]at h;simp only[cond_false]at h |-;unfold HT at h |-;cases c:Ek N F d x with
 | none=>rw[c]at h;exact Ey h b
 | some p=>rw[c]at h;exact bw h b
def uA{x:Operand}{cs:List C}{K K':(Nat->AV)->Prop}(h:qL F x cs K)(d:∀F',K F'->K' F'):qL F x cs K':=by
 cases x with
 | tmp t=>
  simp only[qL]at h |-;cases e:F t with
  | H k c=>
   rw[e]at h;cases k with
   | box=>
    simp only at h |-;cases b:Nat.ble cs.length c.length with
    | false=>rw[b]at h;exact h.elim
    | true=>rw[b]at h;simp only[cond_true,du]at h |-;exact d _ h
   | _=>exact h.elim
  | ref g f i=>
   rw[e]at h;cases i with
   | cons s i=>
    simp only at h |-;cases a:F g with
    | H k c=>
     rw[a]at h;obtain⟨r,j,l,n,o,p⟩:=Pu.out h;exact Pu.mk l n o rfl (d _ p)
    | _=>rw[a]at h;exact h.elim
   | nil=>
    simp only at h |-;cases a:F g with
    | H k c=>
     rw[a]at h;cases k with
     | box=>
      simp only at h |-;cases b:Nat.ble (f+cs.length) c.length with
      | false=>rw[b]at h;exact h.elim
      | true=>rw[b]at h;simp only[cond_true,du]at h |-;exact d _ h
     | _=>exact h.elim
    | _=>rw[a]at h;exact h.elim
  | _=>rw[e]at h;exact h.elim
 | _=>exact h.elim
def yV{T:Nat}{x y:Operand}{K K':(Nat->AV)->Prop}(h:mB TE F T x y K)(d:∀F',K F'->K' F'):mB TE F T x y K':=by
 unfold mB at h |-;split at h
 ·rename_i i l
  obtain⟨n,e,a,j⟩:=cz h;refine j F (j7.refl _ _) _ ?_;cases f:Nat.beq e.length i.size with
  | false=>rw[f]at a;exact a.elim
  | true=>
   rw[f]at a;simp only[cond_true]at a |-;cases g:aZ e with
   | true=>rw[g]at a;exact uA a d
   | false=>
    rw[g]at a;simp only[cond_false]at a |-;refine gx a λF' k c h=>?_
    cases b:Nat.beq c.length i.size with
    | false=>rw[b]at h;exact h.elim
    | true=>rw[b]at h;exact uA h d
 exact h.elim
def HK{g:Option (Nat × Bool)}{a c K1' K0':(Nat->AV)->Prop}(h:fW F ops g a c)(h1:∀F,a F->K1' F)(e:∀F,c F->K0' F):fW F ops g K1' K0':=by
 unfold fW at h |-;split at h
 ·exact h1 _ h
 rename_i j want;split at h
 ·rename_i d f
  split at h
  ·rename_i b i
   replace h:=Bf.out h;cases b<;>cases want<;>first|exact .in_ (h1 _ h)|exact .in_ (e _ h)
  ·exact e _ h
  exact h.elim
 exact h.elim
def tP{x:Operand}{K K':(Nat->AV)->Option Nat->List C->Prop}(h:vS F x K)(b:∀F' ag cs,K F' ag cs->K' F' ag cs):vS F x K':=by
 obtain⟨ag,cs,a,d⟩:=cz h;refine d F (j7.refl _ _) _ ?_;cases c:aZ cs with
 | true=>rw[c]at a;exact b _ _ _ a
 | false=>rw[c]at a;exact gx a b
def jD{b:Nat->Option (Nat × Nat)} : ∀{parts:List (Nat × Operand)}{cs:List C}{K K':(Nat->AV)->List C->Prop}{F:Nat->AV},fillW b parts cs K F->(∀F' cs,K F' cs->K' F' cs)->fillW b parts cs K' F
 | [],cs,K,K',F,h,a=>a _ _ h
 | p::rest,cs,K,K',F,h,a=>by
  simp only[fillW]at h |-;split at h
  case h_2=>exact h.elim
  rename_i q d;refine tP h λF' e xs h=>?_
  cases c:(Nat.beq xs.length q.2&&Nat.ble (q.1+q.2) cs.length) with
  | false=>rw[c]at h;exact h.elim
  | true=>
   rw[c]at h;simp only[cond_true,du]at h |-;exact jD h a
def EH{d T:Nat}{parts:List (Nat × Operand)}{K K':(Nat->AV)->Prop}(h:kP TE N F d T parts K)(b:∀F',K F'->K' F'):kP TE N F d T parts K':=by
 unfold kP at h |-;split at h
 case h_2=>exact h.elim
 rename_i size bytes zero flds c;cases a:y7 TE flds with
 | false=>rw[a]at h;exact h.elim
 | true=>rw[a]at h;exact jD h λF' e h=>bw h b
def D9{d T n:Nat}{parts:List (Nat × Operand)}{K K':(Nat->AV)->Prop}(h:gp TE N F d T n parts K)(a:∀F',K F'->K' F'):gp TE N F d T n parts K':=by
 obtain⟨e,c,h,f⟩:=jP h;refine f _ ?_;cases b:Nat.ble (n*c.size) 16777216 with
 | false=>rw[b]at h;exact h.elim
 | true=>
  rw[b]at h;simp only[cond_true]at h |-;split at h
  ·exact bw h a
  ·rw[du]at h |-
   refine jD h λF' g h=>?_
   rw[pp]at h |-;exact bw h a
  exact h.elim
def Gp{y:Operand}{K K':Bool->(Nat->AV)->List (List C)->Prop}(h:DE F y K)(a:∀b F' xr,K b F' xr->K' b F' xr):DE F y K':=by
 unfold DE at h |-;split at h
 ·refine gx h λF' c d h=>?_
  match c,d,h with
  | none,[.s .own rows],h=>exact a _ _ _ h
 obtain⟨c,d,e,f⟩:=cz h;refine f F (j7.refl _ _) _ ?_
 match c,d,e with
 | none,[.s o rows],h=>exact a _ _ _ h
 | none,[.z],h=>exact a _ _ _ h
def AB{x:Operand}{K K':(Nat->AV)->List (List C)->Prop}(h:Au F x K)(c:∀F' xr,K F' xr->K' F' xr):Au F x K':=by
 obtain⟨a,b,d,e⟩:=cz h;refine e F (j7.refl _ _) _ ?_
 match a,b,d with
 | none,[.z],h=>exact c _ _ h
 | none,[.s .own _],h=>
  refine gx h λF' a b h=>?_
  match a,b,h with
  | none,[.s .own rows],h=>exact c _ _ h
def KE{d T:Nat}{x y:Operand}{K K':(Nat->AV)->Prop}(h:AM TE N F d T x y K)(c:∀F',K F'->K' F'):AM TE N F d T x y K':=by
 obtain⟨e,o,h,f⟩:=jP h;refine f _ (Gp h λb F' p h=>AB h λF'' a h=>?_);obtain⟨g,i,j,k,l,n⟩:=h.out;exact CU g i j k l rfl (bw n c)
def Ge{d T:Nat}{x:Operand}{K K':(Nat->AV)->Prop}(h:qo TE N F d T x K)(a:∀F',K F'->K' F'):qo TE N F d T x K':=by
 unfold qo at h |-;split at h
 case h_2=>exact h.elim
 refine gx h λF' b c h=>?_
 split at h
 ·exact bw h a
 exact h.elim
def GP{d:Nat}{x:Operand}{K K':(Nat->AV)->Prop}(h:jr N F d x K)(b:∀F',K F'->K' F'):jr N F d x K':=by
 have std:∀{y:Operand},bu F y (λa=>bR N F d a K)->bu F y (λa=>bR N F d a K'):=λh=>B1 h λa h=>bw h b
 cases x with
 | tmp t=>
  simp only[jr]at h |-;split at h
  ·rename_i i e j
   cases c:aZ e with
   | true=>rw[c]at h;exact bw h b
   | false=>rw[c]at h;exact bw h b
  all_goals exact std h
 | const v=>simp only[jr]at h |-;exact std h
 | global g=>simp only[jr]at h |-;exact std h
 | func f=>simp only[jr]at h |-;exact std h
def Hg{d:Nat}{x:Operand}{K K':(Nat->AV)->Prop}(h:vc N F d x K)(a:∀F',K F'->K' F'):vc N F d x K':=by
 unfold vc at h |-;split at h
 case h_2=>exact h.elim
 split at h
 case h_2=>exact h.elim
 obtain⟨b,c⟩:=h.out;exact Nt.mk (λe=>bw (b e) a) λf k g e=>bw (c f k g e) a
def FN{d:Nat}{x:Operand}{K K':(Nat->AV)->Prop}(h:qe N F d x K)(a:∀F',K F'->K' F'):qe N F d x K':=by
 unfold qe at h |-;split at h
 case h_2=>exact h.elim
 split at h
 case h_2=>exact h.elim
 exact bw h a
def Fp{d:Nat}{b:Op}{K K':(Nat->AV)->Prop}(h:nY P TE N d b K F)(a:∀F',K F'->K' F'):nY P TE N d b K' F:=by
 cases b with
 | assign x=>exact Nu h a
 | box T x=>simp only[nY,MV]at h |-;exact tP h λF' i j h=>bw h a
 | build T f=>exact EH h a
 | buildSlice T n f=>exact D9 h a
 | range T x=>exact Ge h a
 | move x=>exact GP h a
 | next x str=>
  cases str with
  | true=>exact h.elim
  | false=>exact Hg h a
 | entry x=>exact FN h a
 | call c=>
  simp only[nY]at h |-;cases e:pK c with
  | none=>rw[e]at h;exact tR h λg h=>bw h a
  | some p=>rw[e]at h;exact KE h a
 | _=>simp only[nY]at h |-;exact tR h λg h=>bw h a
def f7{t off n:Nat}{st:cC}{K K':(Nat->AV)->List C->Prop}(h:lendAt F t off st n K)(a:∀F' cs,K F' cs->K' F' cs):lendAt F t off st n K':=by
 unfold lendAt at h |-;split at h
 case h_2=>exact h.elim
 split at h
 ·rename_i k c _ _
  cases b:Nat.ble (off+n) c.length with
  | false=>rw[b]at h;exact h.elim
  | true=>
   rw[b]at h;simp only[cond_true,du]at h |-;exact a _ _ h
 obtain⟨r,j,d,e,f,g⟩:=Lq.out h;refine .mk_ ?_;exact⟨r,j,_,_,d,e,f,rfl,rfl,a _ _ g⟩
def cq:∀{xs:List (Operand × Nat)}{K K':(Nat->AV)->List (MA × rR)->Prop}{F:Nat->AV},lendP xs K F->(∀F' l,K F' l->K' F' l)->lendP xs K' F
 | [],K,K',F,h,a=>a _ _ h
 | (x,0)::xs,K,K',F,h,a=>cq (xs:=xs) h λF' l h=>a _ _ h
 | (x,1)::xs,K,K',F,h,a=>by
  simp only[lendP]at h |-;split at h
  case h_2=>exact h.elim
  split at h
  ·exact f7 h λF' b h=>cq h λF'' l h=>a _ _ h
  ·exact f7 h λF' b h=>cq h λF'' l h=>a _ _ h
  ·exact f7 h λF' b h=>cq h λF'' l h=>a _ _ h
  exact h.elim
 | (x,n+2)::xs,K,K',F,h,a=>by
  simp only[lendP]at h |-;split at h
  case h_2=>exact h.elim
  split at h
  ·split at h
   ·exact cq h λF'' l h=>a _ _ h
   exact h.elim
  ·exact cq h λF'' l h=>a _ _ h
  exact h.elim
def jE:∀{l:List (MA × rR)}{xs:List Operand}{K K':Bool->List MA->Prop},valsP F l xs K->(∀b A,K b A->K' b A)->valsP F l xs K'
 | [],[],K,K',h,a=>a _ _ h
 | (m,.no)::l,x::xs,K,K',h,a=>by
  obtain⟨g,d,e,f⟩:=cz h;refine f F (j7.refl _ _) _ (jE e λb A h=>?_);cases c:aZ d with
  | true=>rw[c]at h;exact a _ _ h
  | false=>rw[c]at h;exact a _ _ h
 | (m,.at_ t off st)::l,x::xs,K,K',h,a=>jE (l:=l) (xs:=xs) h λb A h=>a _ _ h
 | (m,.box t)::l,x::xs,K,K',h,a=>jE (l:=l) (xs:=xs) h λb A h=>a _ _ h
 | [],_::_,K,K',h,a=>h.elim
 | (m,.no)::l,[],K,K',h,a=>h.elim
 | (m,.at_ t off st)::l,[],K,K',h,a=>h.elim
 | (m,.box t)::l,[],K,K',h,a=>h.elim
def dv{K K':(Nat->AV)->Prop}(a:∀F',K F'->K' F'):∀{l:List (MA × rR)}{B:List MA}{F:Nat->AV},ip l B K F->ip l B K' F
 | [],[],F,h=>a _ h
 | [],_::_,F,h=>h.elim
 | (m,.no)::l,[],F,h=>h.elim
 | (m,.at_ t off st)::l,[],F,h=>h.elim
 | (m,.box t)::l,[],F,h=>h.elim
 | (m,.no)::l,.val _ _::B,F,h=>dv a (l:=l) (B:=B) h
 | (m,.no)::l,.mut _ _::B,F,h=>dv a (l:=l) (B:=B) h
 | (m,.no)::l,.ptr _::B,F,h=>dv a (l:=l) (B:=B) h
 | (m,.at_ t off st)::l,.val _ _::B,F,h=>h.elim
 | (m,.at_ t off st)::l,.ptr _::B,F,h=>h.elim
 | (m,.box t)::l,.val _ _::B,F,h=>h.elim
 | (m,.box t)::l,.mut _ _::B,F,h=>h.elim
 | (m,.at_ t off st)::l,.mut ag out::B,F,h=>by
  simp only[ip]at h |-;split at h
  case h_2=>exact h.elim
  split at h
  ·rename_i k c _ _
   cases b:Nat.ble (off+out.length) c.length with
   | false=>rw[b]at h;exact h.elim
   | true=>
    rw[b]at h;simp only[cond_true,du]at h |-;exact dv a h
  obtain⟨r,j,d,e,f,g⟩:=Pu.out h;exact Pu.mk d e f rfl (dv a g)
 | (m,.box t)::l,.ptr out::B,F,h=>by
  simp only[ip]at h |-;split at h
  ·exact dv a h
  exact h.elim
def GY{d:Option Nat}{f:Nat}{args:List Operand}{modes:List Nat}{K K':(Nat->AV)->Prop}(h:lw P N F d f args modes K)(a:∀F',K F'->K' F'):lw P N F d f args modes K':=by
 unfold lw at h |-;refine cq h λF' l h=>?_
 cases c:(vK l&&Nat.beq args.length modes.length) with
 | false=>rw[c]at h;exact h.elim
 | true=>
  rw[c]at h;refine jE h λb A h=>?_
  obtain⟨j,B,k,rcs,e,g,i⟩:=cJ.out h;refine CK e g (dv (λF'' h=>?_) i);cases d with
  | none=>exact a _ h
  | some d=>exact bw h a
def lf{F:Nat->AV}{x:Operand}{K K':Nat->Nat->Prop}(h:zX F x K)(a:∀t o,K t o->K' t o):zX F x K':=by
 obtain⟨s,t,b,rfl,c,d⟩:=sW h;simp only[zX,c];exact a _ _ d
def Lv{d:Option Nat}{t:Nat}{cs:List C}{c a e b:Nat}{K K':(Nat->AV)->Prop}{k:Kd}{rcs:List C}{B:List MA}(h:yr N F d t cs c a e b K k rcs B)(f:∀F',K F'->K' F'):yr N F d t cs c a e b K' k rcs B:=by
 unfold yr at h |-;split at h
 case h_2=>exact h.elim
 rename_i i j;cases g:(Nat.beq i.length a&&Nat.beq j.length b) with
 | false=>rw[g]at h;exact h.elim
 | true=>
  rw[g]at h;simp only[cond_true,du]at h |-;cases d with
  | none=>exact f _ h
  | some d=>exact bw h f
def HH{d:Option Nat}{f:Nat}{args:List Operand}{a b:Nat}{K K':(Nat->AV)->Prop}(h:kD P N F d f args a b K)(g:∀F',K F'->K' F'):kD P N F d f args a b K':=by
 unfold kD at h |-;split at h
 case h_2=>exact h.elim
 refine lf h λt i h=>lf h λj c h=>?_
 split at h
 case h_2=>exact h.elim
 rename_i l q;cases e:(Nat.beq j t&&Nat.ble (i+a) c&&Nat.ble (c+b) l.length) with
 | false=>rw[e]at h;exact h.elim
 | true=>
  rw[e]at h;simp only[cond_true,du]at h |-;obtain⟨r,B,k,rcs,n,o,p⟩:=cJ.out h;exact CK n o (Lv p g)
def rW{d:Option Nat}{f:Nat}{args:List Operand}{modes:List Nat}{K K':(Nat->AV)->Prop}(h:k7 P N F d f args modes K)(b:∀F',K F'->K' F'):k7 P N F d f args modes K':=by
 unfold k7 at h |-;split
 ·rename_i p a;rw[a]at h;exact HH h b
 rename_i a;rw[a]at h;exact GY h b
def vE{t off:Nat}{z:Int}{v:Value}{K K':(Nat->AV)->Prop}(h:putMap F t off z v K)(d:∀F',K F'->K' F'):putMap F t off z v K':=by
 unfold putMap at h |-;cases a:F t with
 | H k e=>
  rw[a]at h;simp only at h |-;cases b:e[off]? with
  | none=>rw[b]at h;exact h.elim
  | some c=>
   rw[b]at h;cases c with
   | m f=>
    simp only at h |-;have:=h.out;refine Mu.mk rfl ?_;simp only[du]at this |-;exact d _ this
   | _=>exact h.elim
 | _=>rw[a]at h;exact h.elim
def vw{T:Nat}{x y v:Operand}{K K':(Nat->AV)->Prop}(h:nC TE F T x y v K)(b:∀F',K F'->K' F'):nC TE F T x y v K':=by
 unfold nC at h |-;split at h
 case h_2=>exact h.elim
 obtain⟨z,c,d⟩:=js h;refine d F (j7.refl F _) _ ?_;obtain⟨f,a,e⟩:=js c;refine e F (j7.refl F _) _ ?_;split at a
 case h_2=>exact a.elim
 split at a
 case h_2=>exact a.elim
 split at a
 ·exact vE a b
 ·exact vE a b
 exact a.elim
def kr{o:Oper}{K K':(Nat->AV)->Prop}(h:jx P TE N ops o K F)(a:∀F',K F'->K' F'):jx P TE N ops o K' F:=by
 unfold jx at h |-;refine HK h (λF h=>?_) (λF h=>?_)
 ·split at h
  ·rename_i p _
   have lt:tq P N F o.dst p.1 p.2.1 p.2.2 K->tq P N F o.dst p.1 p.2.1 p.2.2 K':=λh=>rW h λF' h=>by rw[ny]at h |-;exact a _ h
   cases b:NI N o.op with
   | false=>rw[b]at h;exact lt h
   | true=>
    rw[b]at h;rcases h with h|h
    ·refine .pl ?_
     unfold iv at h |-;split at h
     ·split at h
      ·exact yV h a
      ·exact vw h a
      exact h.elim
     exact Fp h a
    exact .lt (lt h)
  split at h
  ·split at h
   ·exact yV h a
   ·exact vw h a
   exact h.elim
  exact Fp h a
 split at h
 ·exact a _ h
 exact bw h a
def Do{m:Nat}(c:TM ops m){K:(Nat->AV)->Prop}(hm:m<=ops.size):∀(l:List Oper)(k:Nat)(listed:Array Bool)(F:Nat->AV),(∀j,l[j]? = ops[k+j]?)->listed.size=ops.size->(∀j,j<ops.size->listed.getD j true=decide (j<k))->AP ops m F listed->DC ops listed->
  Pp P TE N ops (m - k) l K F->HA P TE N ops m K l.length listed F
 | [],k,listed,F,W,X,a,_,_,n=>by
  have M:ops.size<=k:=by
   rcases Nat.lt_or_ge k ops.size with h|h
   ·have:=W 0;simp[h]at this
   exact h
  refine⟨?_,?_⟩
  ·apply List.eq_nil_iff_forall_not_mem.2
   intro j L;obtain⟨y,o,ho,-⟩:=mem_ready.1 L;have A:=(V3.1 ho).1;rw[a j A]at y;simp at y;omega
  cases O:m - k with
  | zero=>rw[O]at n;exact n
  | succ x=>rw[O]at n;exact n
 | o::l,k,listed,F,W,X,a,g,B,n=>by
  have u:ops[k]? = some o:=by simpa using (W 0).symm
  have M:=(V3.1 u).1;have hready:k∈Region.ready .any ops listed:=mem_ready.2 ⟨by rw[a k M];simp,o,u,λe he hb=>by
    have:=c.back k o u e he hb;have y:=a e.on ω;rw[show decide (e.on<k)=true by simpa using this]at y;have Y:e.on<listed.size:=ω
    simp[Y]at y |-;exact y⟩
  have Q:∀j,l[j]? = ops[k+1+j]?:=λj=>by have:=W (j+1);simpa[Nat.add_assoc,Nat.add_comm 1 j] using this
  have f:∀j,j<ops.size->(listed.setIfInBounds k true).getD j true=decide (j<k+1):=λj L=>by
   by_cases C:j=k
   ·subst C;simp[X,L]
   rw[getD_set_ne true (Ne.symm C),a j L];simp only[decide_eq_decide];omega
  show HA P TE N ops m K (l.length+1) listed F;by_cases p:k<m
  ·have e1:m - k=(m - (k+1))+1:=ω
   rw[e1]at n;obtain⟨mv,d,av,hy,n⟩:=qi (show lM P TE N ops o (Pp P TE N ops (m - (k+1)) l K) F from n) (λd hd=>g.dst k o d p u (by rw[a k M];simp) hd) (λT s g1 Z g3=>g.mv k o T s p u (by rw[a k M];simp) g1 Z g3);refine KD c u p l.length listed F hready g B hy (Do c hm l (k+1) _ _ Q (by simpa using X) f (g.put (λw D R i q b hl'' E=>?_) (λw D T s i q b hl'' g1 Z g3=>?_)) (B.put hready) n)
   ·cases hu:av.uses R with
    | false=>rfl
    | true=>
     rcases hy.from_ R hu with h|⟨t,_,h⟩
     ·have:=c.look w k D o R i p q b u E h
      obtain⟨e,G,H,he3⟩:=cu.1 this;have A:=c.back k o u e G H;have hj'lt:=(V3.1 b).1;rw[a w hj'lt]at hl'';simp at hl'';omega
     rw[g.dst w D R i b hl'' E t]at h;cases h
   cases hu:av.uses s with
   | false=>rfl
   | true=>
    rcases hy.from_ s hu with h|⟨t,_,h⟩
    ·exact absurd ((gy g3).2 w k D o b u (dc Z) h) q
    rw[g.mv w D T s i b hl'' g1 Z g3 t]at h;cases h
  refine⟨λh=>(by rw[h]at hready;cases hready),λj L=>?_⟩;have C:j=k:=by
   obtain⟨y,oj,S,U⟩:=mem_ready.1 L;have r:=(V3.1 S).1;rw[a j r]at y;simp at y;rcases Nat.lt_or_ge k j with A|hge
   ·exfalso
    have Y:=ou B c.back (c.tail j ω r k A) r λk' V=>by
     rw[bc S]at V;obtain⟨e,G,H,rfl⟩:=cu.1 V;exact U e G H
    have h3:=a k M;have h4:k<listed.size:=ω
    simp[h4]at Y h3;rw[Y]at h3;cases h3
   omega
  subst C;unfold zc;rw[u];simp only[C9 p];have e0:m - j=0:=ω
  rw[e0]at n;have hp':jx P TE N ops o (Kz P TE N ops l K) F:=n;have J:∀F',Kz P TE N ops l K F'->HA P TE N ops m K l.length (listed.setIfInBounds j true) F':=λF' hF'=>
   Do c hm l (j+1) _ F' Q (by simpa using X) f ⟨λw D R i b hl'' E=>by
     have hj'lt:=(V3.1 b).1;rw[f w hj'lt]at hl'';simp at hl'';omega,λw D T s i b hl''=>by
     have hj'lt:=(V3.1 b).1;rw[f w hj'lt]at hl'';simp at hl'';omega⟩ (B.put hready) (by rw[show m - (j+1)=0 by omega];cases l<;>exact hF')
  exact kr hp' J
def St.clr(h:St w0 M S0 N F a w)(ds:List Nat):St w0 M S0 N (Ab.clr ds F) a w:=by
 obtain⟨S,φ,h⟩:=h;refine⟨S,φ,λt=>?_,h.dis,h.disS,h.ex,h.sub,h.sup,h.old,h.size,h.defers,h.par⟩;rw[Dy];cases e:ds.any (λd=>(F t).uses d) with
 | true=>trivial
 | false=>
  simp only[cond_false];refine(h.slot t).keep (φ:=φ) (λt _ _ _=>h.slot t) (λc _=>⟨λk f b=>?_,rfl,λ_ _ _=>⟨rfl,rfl⟩⟩) (λ_ _ _=>⟨rfl,rfl⟩) (λ_ _ _=>⟨rfl,rfl⟩) (λ_ _ h=>h) (λ_ _ h=>h);rw[Dy];have:ds.any (λd=>(F c).uses d)=false:=by
   rw[b]
   induction ds with
   | nil=>rfl
   | cons d ds g=>simp[AV.uses]
  rw[this];exact b
def Ed(u:∀t i,TE t=some i->bQ P t i)(W:P.follows .mixedOrders=true){id m:Nat}{ds:List Nat}(b:((Nat.ble m ops.size&&below m λj=>match(de ops j).dst with|some d=>ds.any (Nat.beq d)|none=>true)&&DR ops m)=true){K:(Nat->AV)->Prop}{Q:Exit->Act->World->Prop}(X:Pp P TE N ops m ops.toList K (Ab.clr ds F))(Y:St w0 M S0 N F a w)(Z:∀F' O R,K F'->St w0 M S0 N F' O R->Q .normal O R):(Code.region id ops true).wp P Q a w:=by
 simp only[I0]at b;obtain⟨⟨l,y⟩,b⟩:=b;have g:m<=ops.size:=I1 l;refine wp_region_any W ?_;have A:St w0 M S0 N (Ab.clr ds F) a {w with drawn:=w.drawn+1}:=by
  have r:=Y.clr ds;obtain⟨S,φ,h⟩:=r;exact⟨S,φ,h.more (w1:={w with drawn:=w.drawn+1}) (λ_ _ h=>h) (λ_ _ h=>.inl h) ⟨rfl,rfl,rfl,C3 _,λ_ _ _=>rfl,λ_ _ _ _=>rfl,λ_ _ _ _=>rfl⟩⟩
 refine Bv u (m:=m) Z ops.size (Array.replicate ops.size false) _ a _ ?_ A;have n:∀d,ds.any (Nat.beq d)=true->∀t,(Ab.clr ds F t).uses d=false:=λd p t=>by
  rw[Dy];cases U:ds.any (λd=>(F t).uses d) with
  | true=>rfl
  | false=>
   simp only[cond_false];cases hu:(F t).uses d with
   | false=>rfl
   | true=>
    obtain⟨d',B,he⟩:=t4.1 p;have C:=C2 he;subst C;have:ds.any (λd=>(F t).uses d)=true:=t4.2 ⟨_,B,hu⟩;rw[this]at U;cases U
 have c:∀j o d,j<m->ops[j]? = some o->o.dst=some d->ds.any (Nat.beq d)=true:=λj o d f q p=>by
  have r:=gW y f;rw[bc q,p]at r;exact r
 have V:=G5 b;have:=Do (P:=P) (TE:=TE) (N:=N) V (K:=K) g ops.toList 0 (Array.replicate ops.size false) (Ab.clr ds F) (by simp) (by simp) (λj f=>by simp[f]) ⟨λj o d f q _ p t=>n d (c j o d f q p) t,λj o T s f q _ _ _ g3 t=>by
   obtain⟨k,ok,D,E,G⟩:=(gy g3).1;obtain⟨e,H,J,rfl⟩:=cu.1 D;have:=V.back j o q e H J;exact n s (c e.on ok s ω E G) t⟩ (λj oj f hl=>by
   have L:=(V3.1 f).1;simp[L]at hl) X
 simpa using this
end
section
variable{P:Program}{w0 w w1:World}{M S0 S:ah}{N:fC}{φ:Nat->ah}{F:Nat->AV}{a:Act}{TE:Nat->Option TI}{ops:Array Oper}{ds:List Nat}{nm:Nat->Bool}
def Ro(P:Program)(TE:Nat->Option TI)(ops:Array Oper)(p:Nat)(F:Nat->AV):Prop:=∃d,(de ops p).dst=some d/\GV F (de ops p)=none/\dt P TE F (de ops p).op λa=>a=F d
def v8(P:Program)(TE:Nat->Option TI)(N:fC)(ops:Array Oper)(ds:List Nat)(listed:Array Bool)(i:Nat)(K:(Nat->AV)->Prop)(F:Nat->AV):Prop:=
 match ops[i]? with
 | none=>K F
 | some o=>if oP ds o=true then lM P TE N ops o K F else jx P TE N ops o (λa=>(∀p,listed.getD p false=true->oP ds (de ops p)=true->vY ops i p=false->Ro P TE ops p a)/\K a) F
def EA(P:Program)(TE:Nat->Option TI)(N:fC)(ops:Array Oper)(ds:List Nat)(K:(Nat->AV)->Prop):Nat->Array Bool->(Nat->AV)->Prop
 | 0,listed,F=>Region.ready .any ops listed=[]/\K F
 | fuel+1,listed,F=>(Region.ready .any ops listed=[]->K F)/\∀i,i∈Region.ready .any ops listed->v8 P TE N ops ds listed i (EA P TE N ops ds K fuel (listed.setIfInBounds i true)) F
def FI(c:∀t i,TE t=some i->bQ P t i){listed:Array Bool}{i:Nat}{K:(Nat->AV)->Prop}(b:v8 P TE N ops ds listed i K F)(f:St w0 M S0 N F a w){Kc:Act->World->Prop}{Q:Exit->Act->World->Prop}(d:∀F' g j,K F'->St w0 M S0 N F' g j->Kc g j):wpOp P ops Q i Kc a w:=by
 unfold v8 at b;unfold wpOp;cases k:ops[i]? with
 | none=>rw[k]at b;exact d F a w b f
 | some o=>
  rw[k]at b;simp only at b |-;obtain⟨S,φ,h⟩:=f;have:if Region.wanted o (yielded ops a.tmps) then o.wp P a w Kc Q else Kc (a.put o.dst undef) w:=by
   split at b
   ·exact h.oneP c b d
   exact h.one c (kr b λF' h=>h.2) d
  split
  ·rename_i e;rw[CB e]at this;exact .inl this
  rename_i e;rw[C9 e]at this;exact this
def rA(b:∀t i,TE t=some i->bQ P t i){K:(Nat->AV)->Prop}{Q:Exit->Act->World->Prop}(g:∀F' d e,K F'->St w0 M S0 N F' d e->Q .normal d e) :
  ∀(fuel:Nat)(listed:Array Bool)(F:Nat->AV)(a:Act)(w:World),EA P TE N ops ds K fuel listed F->St w0 M S0 N F a w->wpAny P .any ops Q fuel listed a w
 | 0,_,F,a,w,c,f=>⟨c.1,g F a w c.2 f⟩
 | fuel+1,_,F,a,w,c,f=>⟨λj=>g F a w (c.1 j) f,λi k=>FI b (c.2 i k) f λF' d e l h=>rA b g fuel _ F' d e l h⟩
def bW(ts:List Nat)(F F1:Nat->AV):Prop:=∀t e,(F1 t).uses e=true->e∈ts\/∃a,(F a).uses e=true
def bW.refl(ts:List Nat)(F:Nat->AV):bW ts F F:=λt _ h=>.inr ⟨t,h⟩
def bW.trans{ts:List Nat}{F F1 a:Nat->AV}(h1:bW ts F F1)(b:bW ts F1 a):bW ts F a:=λt e h=>by
 rcases b t e h with h|⟨c,h⟩
 ·exact .inl h
 exact h1 c e h
def bW.clean{ts:List Nat}{F1:Nat->AV}{d:Nat}(h:bW ts F F1)(a:d∉ts)(b:∀t,(F t).uses d=false):∀t,(F1 t).uses d=false:=λt=>by
 cases c:(F1 t).uses d with
 | false=>rfl
 | true=>
  rcases h t d c with h|⟨e,h⟩
  ·exact absurd h a
  rw[b e]at h;cases h
def bW.put{ts:List Nat}{dj:Nat}{av:AV}(h:∀e,av.uses e=true->e∈ts\/∃c,(F c).uses e=true):bW ts F (put F dj av):=λt e a=>by
 by_cases b:t=dj
 ·subst b;rw[nk]at a;exact h e a
 rw[hO _ _ b]at a;exact .inr ⟨t,(Qq a).1⟩
def Mr{t e:Nat}{v:AV}(h:(tD t v).uses e=true):v.uses e=true:=by
 cases v with
 | c2 a b d f=>simp only[tD]at h;cases c:Nat.beq a t<;>rw[c]at h<;>first|exact h|cases h
 | ref a b d=>cases d<;>simp only[tD]at h<;>first|exact h|(cases c:Nat.beq a t<;>rw[c]at h<;>first|exact h|cases h)
 | _=>exact h
def bW.updH{ts:List Nat}{t:Nat}{k:Kd}{cs:List C} : bW ts F (updH F t k cs):=λs e a=>by
 unfold Ab.updH at a;cases b:Nat.beq s t with
 | true=>rw[b]at a;cases a
 | false=>rw[b]at a;exact .inr ⟨s,Mr a⟩
def Px{t e:Nat}{v:AV}(h:(P7 t v).uses e=true):v.uses e=true:=by
 cases v with
 | c2 a b d f=>simp only[P7]at h;cases c:Nat.beq a t<;>rw[c]at h<;>first|exact h|cases h
 | ref a b d=>simp only[P7]at h;cases c:Nat.beq a t<;>rw[c]at h<;>first|exact h|cases h
 | _=>exact h
def bW.kill{ts:List Nat}{t:Nat} : bW ts F (kill F t):=λs e a=>by
 unfold Ab.kill at a;cases b:Nat.beq s t with
 | true=>rw[b]at a;cases a
 | false=>rw[b]at a;exact .inr ⟨s,Px a⟩
def bE{d t:Nat}{av:AV}(h:t≠d):eff none d av F t=F t:=by unfold eff;rw[C9 h,C9 (λe=>by cases e)]
def ir{d:Nat}{a:Option Nat}{av:AV} : eff a d av F d=av:=by unfold eff;rw[CB rfl]
def Nf{d:Nat} : eff none d (F d) F=F:=by
 funext t
 by_cases h:t=d
 ·subst h;rw[ir]
 rw[bE h]
def nJ{d:Nat}{av:AV}{ts:List Nat}(b:d∉ts)(c:∀t,(F t).uses d=false):j7 (eff none d av F) F ts:=λt f=>by
 have g:t≠d:=λe=>b (e ▸ f)
 rw[bE g];refine⟨rfl,λh a k l i=>?_⟩;have j:h≠d:=λe=>by rw[e,c t]at a;cases a
 rwa [bE j]at i
def Ry{d dj:Nat}{v av:AV}(a:dj≠d):put (eff none d v F) dj av=eff none d (kl dj v) (put F dj av):=by
 funext t
 by_cases b:t=dj
 ·subst b;rw[nk,bE a,nk]
 rw[hO _ _ b];by_cases c:t=d
 ·subst c;rw[ir,ir]
 rw[bE c,bE c,hO _ _ b]
def nE{d t:Nat}{e:Kd}{v:AV}{a:List C}(b:t≠d):updH (eff none d v F) t e a=eff none d (tD t v) (updH F t e a):=by
 funext s
 by_cases c:s=d
 ·subst c
  rw[ir];unfold updH;rw[show Nat.beq s t=false by rw[<-U5,Nat.beq_eq];exact Ne.symm b,ir];rfl
 rw[bE c];unfold updH;rw[bE c]
def xt{d t:Nat}{c:Kd}{a:List C}(b:t≠d):updH F t c a d=tD t (F d):=by
 unfold updH;rw[show Nat.beq d t=false by rw[<-U5,Nat.beq_eq];exact Ne.symm b];rfl
def J0{d t:Nat}{e:Kd}{v:AV}{a:List C}(b:t≠d):updN (eff none d v F) t e a=eff none d (P9 t v) (updN F t e a):=by
 funext s
 by_cases c:s=d
 ·subst c
  rw[ir];unfold updN;rw[show Nat.beq s t=false by rw[<-U5,Nat.beq_eq];exact Ne.symm b,ir];rfl
 rw[bE c];unfold updN;rw[bE c]
def FP{d t:Nat}{c:Kd}{a:List C}(b:t≠d):updN F t c a d=P9 t (F d):=by
 unfold updN;rw[show Nat.beq d t=false by rw[<-U5,Nat.beq_eq];exact Ne.symm b];rfl
def NU{t e:Nat}{v:AV}(h:(P9 t v).uses e=true):v.uses e=true:=by
 cases v with
 | c2 b c a f=>
  cases a with
  | nil=>exact h
  | cons s a=>simp only[P9]at h;cases d:Nat.beq b t<;>rw[d]at h<;>first|exact h|cases h
 | ref b c a=>
  cases a with
  | nil=>exact h
  | cons s a=>simp only[P9]at h;cases d:Nat.beq b t<;>rw[d]at h<;>first|exact h|cases h
 | _=>exact h
def bW.updN{ts:List Nat}{t:Nat}{k:Kd}{cs:List C} : bW ts F (updN F t k cs):=λs e a=>by
 unfold Ab.updN at a;cases b:Nat.beq s t with
 | true=>rw[b]at a;cases a
 | false=>rw[b]at a;exact .inr ⟨s,NU a⟩
def Fq(d:Nat)(ts:List Nat)(v:AV)(F:Nat->AV)(K:(Nat->AV)->Prop)(F1:Nat->AV):Prop:=∃a,(v=F d->a=F1 d)/\K (eff none d a F1)/\bW ts F F1
def T9(d:Nat)(ts:List Nat)(v:AV)(F:Nat->AV)(K:(Nat->AV)->Option Nat->List C->Prop)(F1:Nat->AV)(ag:Option Nat)(cs:List C):Prop:=∃a,(v=F d->a=F1 d)/\K (eff none d a F1) ag cs/\bW ts F F1
def Fq.trans{d:Nat}{ts:List Nat}{v v1:AV}{F1 a:Nat->AV}{K:(Nat->AV)->Prop}(h1:v=F d->v1=F1 d)(b:bW ts F F1)(h:Fq d ts v1 F1 K a):Fq d ts v F K a:=by
 obtain⟨c,f,g,i⟩:=h;exact⟨c,λe=>f (h1 e),g,b.trans i⟩
def iC{d dj:Nat}{ts:List Nat}{v av:AV}{K:(Nat->AV)->Prop}(h:bR N (eff none d v F) dj av K)(a:dj≠d)(b:∀e,av.uses e=true->e∈ts\/∃f,(F f).uses e=true):bR N F dj av (Fq d ts v F K):=by
 unfold bR at h |-;cases c:(N.free dj&&!av.uses dj) with
 | false=>rw[c]at h;exact h.elim
 | true=>
  rw[c]at h;simp only[cond_true]at h |-;rw[Ry a]at h;exact⟨kl dj v,λe=>by rw[hO _ _ (Ne.symm a),e],h,bW.put b⟩
def jm{ts:List Nat}{k:Kd}{cs:List C} : ∀e,(AV.H k cs).uses e=true->e∈ts\/∃a,(F a).uses e=true:=λe h=>by cases h
def Dp{p:(Nat->AV)->(AV->Prop)->Prop}{d dj:Nat}{v:AV}{ts0 ts:List Nat}{K:(Nat->AV)->Prop}(h:oI p (eff none d v F) ts0 λav=>bR N (eff none d v F) dj av K)(a:dj≠d)(b:∀t,t∈ts0->t∈ts)(c:d∉ts)(f:∀t,(F t).uses d=false) :
  p F λav=>bR N F dj av (Fq d ts v F K):=by
 obtain⟨av,g,i,j⟩:=h;refine j F (nJ (λk=>c (b d k)) f) _ (iC g a λe l=>?_);rcases i e l with h|⟨t,n,h⟩
 ·exact .inl (b e h)
 have a:t≠d:=λe=>c (e ▸ b t n)
 rw[bE a]at h;exact .inr ⟨t,h⟩
def sQ{d:Nat}{ts:List Nat}{v:AV}{y:Operand}{K:(Nat->AV)->Option Nat->List C->Prop}(h:iq (eff none d v F) y K)(w:d∉tm y)(A:∀t,(F t).uses d=false):iq F y (T9 d ts v F K):=by
 have fin:∀{t:Nat}{k:Kd}{f:List C}{b:Option Nat}{xs:List C},t≠d->K (updH (eff none d v F) t k f) b xs->T9 d ts v F K (updH F t k f) b xs:=fun {t k f b xs} c h=>by
  rw[nE c]at h;exact⟨_,λe=>by rw[xt c,e],h,bW.updH⟩
 have eS:∀{t:Nat}{k:Kd}{f:List C}{b:Option Nat}{xs:List C},t≠d->K (updN (eff none d v F) t k f) b xs->T9 d ts v F K (updN F t k f) b xs:=fun {t k f b xs} c h=>by
  rw[J0 c]at h;exact⟨_,λe=>by rw[FP c,e],h,bW.updN⟩
 cases y with
 | tmp t=>
  have c:t≠d:=λe=>w (by simp[tm,e])
  simp only[iq]at h |-;rw[bE c]at h;cases g:F t with
  | H l n=>
   rw[g]at h;cases l with
   | one=>exact fin c h
   | agg=>exact fin c h
   | _=>exact h.elim
  | c2 o p q b=>
   rw[g]at h;have i:o≠d:=λe=>by have:=A t;rw[g,e]at this;simp[AV.uses]at this
   cases q with
   | cons s q=>
    simp only at h |-;rw[bE i]at h;cases a:F o with
    | H l n=>
     rw[a]at h;obtain⟨r,j,B,D,E,G⟩:=Lq.out h;exact .mk_ ⟨r,j,_,_,B,D,E,rfl,rfl,eS i G⟩
    | _=>rw[a]at h;exact h.elim
   | nil=>
    simp only at h |-;rw[bE i]at h;cases a:F o with
    | H l n=>
     rw[a]at h;simp only at h |-;cases u:Nat.ble (p+b.getD 1) n.length with
     | false=>rw[u]at h;exact h.elim
     | true=>rw[u]at h;exact eS i h
    | _=>rw[a]at h;exact h.elim
  | _=>rw[g]at h;exact h.elim
 | _=>exact h.elim
def QE{d:Nat}{ts:List Nat}{v:AV}{y:Operand}{K:(Nat->AV)->Option Nat->List C->Prop}(h:vS (eff none d v F) y K)(b:d∉tm y)(c:∀t,(F t).uses d=false):vS F y (T9 d ts v F K):=by
 obtain⟨i,xs,a,g⟩:=cz h;refine g F (nJ b c) _ ?_;cases f:aZ xs with
 | true=>rw[f]at a;exact⟨v,λe=>e,a,bW.refl _ _⟩
 | false=>rw[f]at a;exact sQ a b c
def TZ(d:Nat)(ts:List Nat)(v:AV)(F:Nat->AV)(K:(Nat->AV)->List C->Prop)(F1:Nat->AV)(cs:List C):Prop:=∃a,(v=F d->a=F1 d)/\K (eff none d a F1) cs/\bW ts F F1
def yX{d:Nat}{ts:List Nat}{f:Nat->Option (Nat × Nat)}(a:d∉ts):∀{parts:List (Nat × Operand)}{cs:List C}{K:(Nat->AV)->List C->Prop}{F:Nat->AV}{v:AV},fillW f parts cs K (eff none d v F)->(∀p,p∈parts->d∉tm p.2)->(∀t,(F t).uses d=false)->
  fillW f parts cs (TZ d ts v F K) F
 | [],cs,K,F,v,h,_,b=>⟨v,λe=>e,h,bW.refl _ _⟩
 | p::rest,cs,K,F,v,h,g,b=>by
  simp only[fillW]at h |-;split at h
  case h_2=>exact h.elim
  rename_i q y;refine tP (QE (ts:=ts) h (g p W1) b) λA B xs h=>?_
  obtain⟨D,k,h,i⟩:=h;cases j:(Nat.beq xs.length q.2&&Nat.ble (q.1+q.2) cs.length) with
  | false=>rw[j]at h;exact h.elim
  | true=>
   rw[j]at h;simp only[cond_true,du]at h |-;refine jD (yX a h (λl c=>g l (O5 _ c)) (i.clean a b)) λE cs2 n=>?_
   obtain⟨o,r,u,w⟩:=n;exact⟨o,λe=>r (k e),u,i.trans w⟩
def KV{d dj T:Nat}{ts:List Nat}{v:AV}{parts:List (Nat × Operand)}{K:(Nat->AV)->Prop}(h:kP TE N (eff none d v F) dj T parts K)(a:dj≠d)(b:d∉ts)(e:∀p,p∈parts->d∉tm p.2)(f:∀t,(F t).uses d=false) :
  kP TE N F dj T parts (Fq d ts v F K):=by
 unfold kP at h |-;split at h
 case h_2=>exact h.elim
 rename_i size bytes zero flds k;cases c:y7 TE flds with
 | false=>rw[c]at h;exact h.elim
 | true=>
  rw[c]at h;refine jD (yX b h e f) λl n h=>?_
  obtain⟨o,g,h,i⟩:=h;exact bw (iC (ts:=ts) h a jm) λq j=>Fq.trans g i j
def Hi{d dj T n:Nat}{ts:List Nat}{v:AV}{parts:List (Nat × Operand)}{K:(Nat->AV)->Prop}(h:gp TE N (eff none d v F) dj T n parts K)(a:dj≠d)(c:d∉ts)(g:∀p,p∈parts->d∉tm p.2)(i:∀t,(F t).uses d=false) :
  gp TE N F dj T n parts (Fq d ts v F K):=by
 unfold gp at h |-;obtain⟨e,j,h,b⟩:=jP h;refine b _ ?_;cases f:Nat.ble (n*j.size) 16777216 with
 | false=>rw[f]at h;exact h.elim
 | true=>
  rw[f]at h;simp only[cond_true]at h |-;cases n with
  | zero=>
   cases parts with
   | nil=>exact iC h a jm
   | cons=>exact h.elim
  | succ n=>
   simp only[du]at h |-;refine jD (yX c h g i) λq r h=>?_
   obtain⟨u,k,h,l⟩:=h;rw[pp]at h |-;exact bw (iC (ts:=ts) h a jm) λw o=>Fq.trans k l o
def NR{d dj t:Nat}{ts:List Nat}{v:AV}{K:(Nat->AV)->Prop}(h:jr N (eff none d v F) dj (.tmp t) K)(a:dj≠d)(c:d∉ts)(g:t∈ts)(k:∀t,(F t).uses d=false):jr N F dj (.tmp t) (Fq d ts v F K):=by
 have b:t≠d:=λe=>c (e ▸ g)
 have std:bu (eff none d v F) (.tmp t) (λf=>bR N (eff none d v F) dj f K)->bu F (.tmp t) (λf=>bR N F dj f (Fq d ts v F K)):=λh=>
  Dp (p:=λF K=>bu F (.tmp t) K) (kw h) a (λo i=>by simp[tm]at i;exact i ▸ g) c k
 simp only[jr]at h |-;rw[bE b]at h;split at h
 ·rename_i l xs q
  cases j:aZ xs with
  | true=>rw[j]at h;exact iC h a jm
  | false=>
   rw[j]at h;simp only[cond_false]at h |-;rw[nE b]at h;exact bw (iC (ts:=ts) h a jm) λr n=>Fq.trans (F1:=updH F t (.tup l) _) (λe=>by rw[xt b,e]) bW.updH n
 all_goals exact std h
def LD{d dj:Nat}{ts:List Nat}{v:AV}{x:Operand}{K:(Nat->AV)->Prop}(h:kX N (eff none d v F) dj x K)(o:dj≠d)(j:d∉ts)(a:∀t,t∈tm x->t∈ts)(C:∀t,(F t).uses d=false):kX N F dj x (Fq d ts v F K):=by
 have b:∀y,(∀t,t∈tm y->t∈ts)->bu (eff none d v F) y (λu=>bR N (eff none d v F) dj u K)->bu F y (λu=>bR N F dj u (Fq d ts v F K)):=λy w h=>Dp (p:=λF K=>bu F y K) (kw h) o w j C
 have A:∀y,(∀t,t∈tm y->t∈ts)->iq (eff none d v F) y (λr q l=>bR N r dj (.H (jY q) l) K)->iq F y (λr q l=>bR N r dj (.H (jY q) l) (Fq d ts v F K)):=λy w h=>
  gx (sQ (ts:=ts) h (λD=>j (w d D)) C) λr q l h=>by
   obtain⟨L,E,h,G⟩:=h;exact bw (iC (ts:=ts) h o jm) λM H=>Fq.trans E G H
 cases x with
 | tmp t=>
  have B:t≠d:=λe=>j (e ▸ a t (by simp[tm]))
  unfold kX at h |-;simp only at h |-;rw[bE B]at h;cases n:F t with
  | H k l=>
   rw[n]at h;cases k with
   | one=>
    simp only at h |-;cases i:aZ l with
    | true=>rw[i]at h;exact b (.tmp t) a h
    | false=>rw[i]at h;exact A (.tmp t) a h
   | agg=>
    simp only at h |-;cases i:aZ l with
    | true=>rw[i]at h;exact b (.tmp t) a h
    | false=>rw[i]at h;exact A (.tmp t) a h
   | tup O=>exact b _ a h
   | box=>exact b _ a h
  | c2 P J Q q=>
   rw[n]at h;simp only at h |-;cases i:N.al dj with
   | true=>rw[i]at h;exact b (.tmp t) a h
   | false=>rw[i]at h;exact A (.tmp t) a h
  | dead=>rw[n]at h;exact b _ a h
  | ref=>rw[n]at h;exact b _ a h
  | iref=>rw[n]at h;exact b _ a h
  | fn=>rw[n]at h;exact b _ a h
  | fv=>rw[n]at h;exact b _ a h
 | const c=>exact b (.const c) a h
 | global g=>exact b (.global g) a h
 | func f=>exact b (.func f) a h
def DQ{d t:Nat}{v:AV}(b:t≠d):kill (eff none d v F) t=eff none d (P7 t v) (kill F t):=by
 funext s
 by_cases e:s=d
 ·subst e
  rw[ir,iN _ (Ne.symm b),ir]
 rw[bE e];by_cases a:s=t
 ·subst a;rw[mX,mX]
 rw[iN _ a,iN _ a,bE e]
def Rg{d dj:Nat}{ts:List Nat}{v:AV}{x:Operand}{K:(Nat->AV)->Prop}(h:DT N (eff none d v F) dj x K)(b:dj≠d)(c:d∉ts)(g:∀t,t∈tm x->t∈ts)(k:∀t,(F t).uses d=false):DT N F dj x (Fq d ts v F K):=by
 have i:Ek N (eff none d v F) dj x=Ek N F dj x:=by
  cases x with
  | tmp t=>
   have a:t≠d:=λe=>c (e ▸ g t (by simp[tm]))
   have l:eff none d v F t=F t:=bE a;unfold Ek;simp only;rw[l]
  | _=>rfl
 unfold DT at h |-;cases f:Lw N dj x with
 | true=>
  rw[f]at h;simp only[cond_true]at h |-;exact iC (ts:=ts) h b jm
 | false=>
 rw[f]at h;simp only[cond_false]at h |-;unfold HT at h |-;rw[i]at h;cases j:Ek N F dj x with
 | none=>rw[j]at h;exact LD h b c g k
 | some p=>
  rw[j]at h;simp only at h |-;obtain⟨rfl,o⟩:=Bk j;have a:p.1≠d:=λe=>c (e ▸ g p.1 (by simp[tm]))
  rw[DQ a]at h;exact bw (iC (ts:=ts) h b jm) λq n=>Fq.trans (F1:=kill F p.1) (λe=>by rw[iN _ (Ne.symm a),e]) bW.kill n
def Jg{d:Nat}{ts:List Nat}{v:AV}{x:Operand}{cs:List C}{K:(Nat->AV)->Prop}(h:qL (eff none d v F) x cs K)(p:d∉tm x)(q:∀t,(F t).uses d=false):qL F x cs (Fq d ts v F K):=by
 have fin:∀{t:Nat}{k:Kd}{cs:List C},t≠d->K (updH (eff none d v F) t k cs)->Fq d ts v F K (updH F t k cs):=fun {t k cs} a h=>by
  rw[nE a]at h;exact⟨_,λe=>by rw[xt a,e],h,bW.updH⟩
 have eS:∀{t:Nat}{k:Kd}{cs:List C},t≠d->K (updN (eff none d v F) t k cs)->Fq d ts v F K (updN F t k cs):=fun {t k cs} a h=>by
  rw[J0 a]at h;exact⟨_,λe=>by rw[FP a,e],h,bW.updN⟩
 have finP:∀{t:Nat}{k:Kd}{cs:List C},t≠d->K (Qc (eff none d v F) t k cs)->Fq d ts v F K (Qc F t k cs):=fun {t k cs} a h=>by
  cases k with
  | box=>exact fin a h
  | _=>exact eS a h
 cases x with
 | tmp t=>
  have a:t≠d:=λe=>p (by simp[tm,e])
  simp only[qL]at h |-;rw[bE a]at h;cases f:F t with
  | H k g=>
   rw[f]at h;cases k with
   | box=>
    simp only at h |-;cases c:Nat.ble cs.length g.length with
    | false=>rw[c]at h;exact h.elim
    | true=>rw[c]at h;simp only[cond_true,du]at h |-;exact fin a h
   | _=>exact h.elim
  | ref l n o=>
   rw[f]at h;have i:l≠d:=λe=>by have:=q t;rw[f,e]at this;simp[AV.uses]at this
   cases o with
   | cons s o=>
    simp only at h |-;rw[bE i]at h;cases b:F l with
    | H k g=>
     rw[b]at h;obtain⟨r,j,u,w,y,A⟩:=Pu.out h;exact Pu.mk u w y rfl (finP i A)
    | _=>rw[b]at h;exact h.elim
   | nil=>
    simp only at h |-;rw[bE i]at h;cases b:F l with
    | H k g=>
     rw[b]at h;cases k with
     | box=>
      simp only at h |-;cases c:Nat.ble (n+cs.length) g.length with
      | false=>rw[c]at h;exact h.elim
      | true=>rw[c]at h;simp only[cond_true,du]at h |-;exact fin i h
     | _=>exact h.elim
    | _=>rw[b]at h;exact h.elim
  | _=>rw[f]at h;exact h.elim
 | _=>exact h.elim
def ME{d T:Nat}{ts:List Nat}{v:AV}{x y:Operand}{K:(Nat->AV)->Prop}(h:mB TE (eff none d v F) T x y K)(e:d∉ts)(j:d∉tm x)(k:d∉tm y)(c:∀t,(F t).uses d=false):mB TE F T x y (Fq d ts v F K):=by
 unfold mB at h |-;split at h
 ·rename_i i r
  obtain⟨u,l,a,f⟩:=cz h;refine f F (nJ k c) _ ?_;cases n:Nat.beq l.length i.size with
  | false=>rw[n]at a;exact a.elim
  | true=>
   rw[n]at a;simp only[cond_true]at a |-;cases o:aZ l with
   | true=>rw[o]at a;exact Jg a j c
   | false=>
    rw[o]at a;simp only[cond_false]at a |-;refine gx (sQ (ts:=ts) a k c) λw q g h=>?_
    obtain⟨A,a,h,p⟩:=h;cases b:Nat.beq g.length i.size with
    | false=>rw[b]at h;exact h.elim
    | true=>rw[b]at h;exact uA (Jg (ts:=ts) h j (p.clean e c)) λB f=>Fq.trans a p f
 exact h.elim
def Rx{d:Nat}{v:AV}{y:Operand}(a:d∉tm y):np (eff none d v F) y=np F y:=by
 cases y with
 | tmp t=>exact bE λe=>a (by simp[tm,e])
 | _=>rfl
def R0{d:Nat}{ts:List Nat}{v:AV}{y:Operand}{K:Bool->(Nat->AV)->List (List C)->Prop}(h:DE (eff none d v F) y K)(c:d∉tm y)(f:∀t,(F t).uses d=false):DE F y λg F1 rows=>∃v1,(v=F d->v1=F1 d)/\K g (eff none d v1 F1) rows/\bW ts F F1:=by
 have b:=Rx (F:=F) (v:=v) c;unfold DE at h |-;rw[b]at h;split at h
 ·refine gx (sQ (ts:=ts) h c f) λF1 i l h=>?_
  obtain⟨v1,a,h,j⟩:=h;split at h
  ·exact⟨v1,a,h,j⟩
  exact h.elim
 rw[<-b]at h;obtain⟨i,xs,a,k⟩:=cz h;refine k F (nJ c f) _ ?_;split at a
 ·exact⟨v,λe=>e,a,bW.refl _ _⟩
 ·exact⟨v,λe=>e,a,bW.refl _ _⟩
 exact a.elim
def QG{d:Nat}{ts:List Nat}{v:AV}{y:Operand}{K:(Nat->AV)->List (List C)->Prop}(h:Au (eff none d v F) y K)(b:d∉tm y)(c:∀t,(F t).uses d=false):Au F y λF1 rows=>∃v1,(v=F d->v1=F1 d)/\K (eff none d v1 F1) rows/\bW ts F F1:=by
 obtain⟨f,xs,a,g⟩:=cz h;refine g F (nJ b c) _ ?_;split at a
 ·exact⟨v,λe=>e,a,bW.refl _ _⟩
 ·refine gx (sQ (ts:=ts) a b c) λF1 f j h=>?_
  obtain⟨v1,a,h,i⟩:=h;split at h
  ·exact⟨v1,a,h,i⟩
  exact h.elim
 exact a.elim
def Qe{d dj T:Nat}{ts:List Nat}{v:AV}{x y:Operand}{K:(Nat->AV)->Prop}(h:AM TE N (eff none d v F) dj T x y K)(b:dj≠d)(c:d∉ts)(j:d∉tm x)(k:d∉tm y)(f:∀t,(F t).uses d=false):AM TE N F dj T x y (Fq d ts v F K):=by
 obtain⟨e,B,h,a⟩:=jP h;refine a _ (Gp (R0 (ts:=ts) h k f) λC D E h=>?_);obtain⟨G,l,h,g⟩:=h;refine AB (QG (ts:=ts) h j (g.clean c f)) λH i h=>?_
 obtain⟨J,n,h,o⟩:=h;obtain⟨p,q,r,u,w,h⟩:=Ap.out h;refine CU p q r u w rfl (bw (iC (ts:=ts) h b jm) λL A=>?_);exact Fq.trans l g (Fq.trans n o A)
def Mt{f:Oper}{d:Nat}{v:AV}{K:(Nat->AV)->Prop}(E:f.guard=none)(u:Ra f.op=true)(q:f.dst≠some d)(j:d∉f.looksAt ops)(r:∀t,(F t).uses d=false)(h:jx P TE N ops f K (eff none d v F)) :
  jx P TE N ops f (Fq d (f.looksAt ops) v F K) F:=by
 unfold jx fW at h |-;rw[E]at h |-;simp only at h |-;have l:∀t,t∈di f.op->t∈f.looksAt ops:=λt w=>gm f t w
 have pur:∀b,b≠d->dt P TE (eff none d v F) f.op (λA=>bR N (eff none d v F) b A K)->dt P TE F f.op λA=>bR N F b A (Fq d (f.looksAt ops) v F K):=λb q h=>
  Dp (p:=λF K=>dt P TE F f.op K) (kj h) q l j r
 have dne:∀b,f.dst=some b->b≠d:=λb a e=>q (e ▸ a)
 have tmI:∀x,x∈f.op.operands.toList->∀t,t∈tm x->t∈f.looksAt ops:=λx G t w=>l t (List.mem_flatMap.2 ⟨x,G,w⟩)
 cases g:f.op with
 | store T x y=>
  rw[g]at h tmI;simp only[Ef]at h |-;cases a:f.dst with
  | some b=>rw[a]at h;simp only[nY]at h;exact h.elim
  | none=>
   rw[a]at h;simp only at h |-;exact ME h j (λk=>j (tmI x (by simp[Op.operands]) d k)) (λk=>j (tmI y (by simp[Op.operands]) d k)) r
 | move x=>
  rw[g]at h tmI;cases a:f.dst with
  | none=>rw[a]at h;exact h.elim
  | some b=>
   rw[a]at h;cases x with
   | tmp t=>
    simp only[Ef,nY]at h |-;exact NR h (dne b a) j (tmI (.tmp t) (by simp[Op.operands]) t (by simp[tm])) r
   | _=>rw[g]at u;cases u
 | assign x=>
  rw[g]at h tmI;cases a:f.dst with
  | none=>rw[a]at h;exact h.elim
  | some b=>
   rw[a]at h;simp only[Ef,nY]at h |-;exact Rg h (dne b a) j (tmI x (by simp[Op.operands])) r
 | build T H=>
  rw[g]at h tmI;cases a:f.dst with
  | none=>rw[a]at h;exact h.elim
  | some b=>
   rw[a]at h;simp only[Ef,nY]at h |-;refine KV h (dne b a) j (λp B k=>j (tmI p.2 ?_ d k)) r;simp only[Op.operands];simpa using ⟨p.1,by simpa using B⟩
 | buildSlice T n H=>
  rw[g]at h tmI;cases a:f.dst with
  | none=>rw[a]at h;exact h.elim
  | some b=>
   rw[a]at h;simp only[Ef,nY]at h |-;refine Hi h (dne b a) j (λp B k=>j (tmI p.2 ?_ d k)) r;simp only[Op.operands];simpa using ⟨p.1,by simpa using B⟩
 | extract x i=>rw[g]at h pur;cases a:f.dst with|none=>rw[a]at h;exact h.elim|some b=>rw[a]at h;exact pur b (dne b a) h
 | load T x=>rw[g]at h pur;cases a:f.dst with|none=>rw[a]at h;exact h.elim|some b=>rw[a]at h;exact pur b (dne b a) h
 | fieldAddr T x i=>rw[g]at h pur;cases a:f.dst with|none=>rw[a]at h;exact h.elim|some b=>rw[a]at h;exact pur b (dne b a) h
 | field T x i=>rw[g]at h pur;cases a:f.dst with|none=>rw[a]at h;exact h.elim|some b=>rw[a]at h;exact pur b (dne b a) h
 | binOp o T x y J=>rw[g]at h pur;cases a:f.dst with|none=>rw[a]at h;exact h.elim|some b=>rw[a]at h;exact pur b (dne b a) h
 | unOp o T x=>rw[g]at h pur;cases a:f.dst with|none=>rw[a]at h;exact h.elim|some b=>rw[a]at h;exact pur b (dne b a) h
 | call c=>
  rw[g]at u h tmI;cases C:pK c with
  | none=>simp[Ra,C]at u
  | some p=>
   have D:=wQ C;subst D;cases a:f.dst with
   | none=>rw[a]at h;exact h.elim
   | some b=>
    rw[a]at h;simp only[Ef,nY,C]at h |-;exact Qe h (dne b a) j (λk=>j (tmI p.2.1 (by simp[Op.operands,Call.operands]) d k)) (λk=>j (tmI p.2.2 (by simp[Op.operands,Call.operands]) d k)) r
 | _=>rw[g]at u;cases u
def Rj{a:Oper}{d:Nat}{K:(Nat->AV)->Prop}(f:a.guard=none)(g:Ra a.op=true)(b:a.dst≠some d)(i:d∉a.looksAt ops)(j:∀t,(F t).uses d=false)(h:jx P TE N ops a K F) :
  jx P TE N ops a (λF1=>K F1/\bW (a.looksAt ops) F F1) F:=by
 refine kr (Mt (d:=d) (v:=F d) f g b i j (by rw[Nf];exact h)) λF1 k=>?_
 obtain⟨l,e,c,u⟩:=k;rw[e rfl,Nf]at c;exact⟨c,u⟩
def bW.setH{ts:List Nat}{t:Nat}{k:Kd}{cs:List C} : bW ts F (setH F t (.H k cs)):=λs e a=>by
 unfold Ab.setH at a;cases b:Nat.beq s t with
 | true=>rw[b]at a;cases a
 | false=>rw[b]at a;exact .inr ⟨s,a⟩
def Ke{ts:List Nat}{d:Nat}{k:Kd}{rcs:List C}{K:(Nat->AV)->Prop}(h:bR N F d (.H k rcs) K):bR N F d (.H k rcs) λF1=>K F1/\bW ts F F1:=by
 unfold bR at h |-;cases a:(N.free d&&!(AV.H k rcs).uses d) with
 | false=>rw[a]at h;exact h.elim
 | true=>rw[a]at h;exact⟨h,bW.put λe b=>by cases b⟩
def tT{ts:List Nat}{t off n:Nat}{st:cC}{K:(Nat->AV)->List C->Prop}(h:lendAt F t off st n K):lendAt F t off st n λF1 cs=>K F1 cs/\bW ts F F1:=by
 unfold lendAt at h |-;split at h
 case h_2=>exact h.elim
 split at h
 ·rename_i k b _ _
  cases a:Nat.ble (off+n) b.length with
  | false=>rw[a]at h;exact h.elim
  | true=>
   rw[a]at h;simp only[cond_true,du]at h |-;exact⟨h,bW.updH⟩
 obtain⟨r,j,c,d,e,f⟩:=Lq.out h;refine .mk_ ?_;exact⟨r,j,_,_,c,d,e,rfl,rfl,f,bW.updH⟩
def lI{ts:List Nat} : ∀{xs:List (Operand × Nat)}{K:(Nat->AV)->List (MA × rR)->Prop}{F:Nat->AV},lendP xs K F->lendP xs (λF1 l=>K F1 l/\bW ts F F1) F
 | [],K,F,h=>⟨h,bW.refl _ _⟩
 | (x,0)::xs,K,F,h=>lI (xs:=xs) h
 | (x,1)::xs,K,F,h=>by
  simp only[lendP]at h |-;split at h
  case h_2=>exact h.elim
  split at h
  ·exact f7 (tT (ts:=ts) h) λF1 c h=>cq (lI (ts:=ts) h.1) λb l a=>⟨a.1,h.2.trans a.2⟩
  ·exact f7 (tT (ts:=ts) h) λF1 c h=>cq (lI (ts:=ts) h.1) λb l a=>⟨a.1,h.2.trans a.2⟩
  ·exact f7 (tT (ts:=ts) h) λF1 c h=>cq (lI (ts:=ts) h.1) λb l a=>⟨a.1,h.2.trans a.2⟩
  exact h.elim
 | (x,n+2)::xs,K,F,h=>by
  simp only[lendP]at h |-;split at h
  case h_2=>exact h.elim
  split at h
  ·split at h
   ·exact cq (lI (ts:=ts) h) λb l a=>⟨a.1,bW.kill.trans a.2⟩
   exact h.elim
  ·exact cq (lI (ts:=ts) h) λb l a=>⟨a.1,bW.kill.trans a.2⟩
  exact h.elim
def lE{ts:List Nat}{K:(Nat->AV)->Prop} : ∀{l:List (MA × rR)}{B:List MA}{F:Nat->AV},ip l B K F->ip l B (λF1=>K F1/\bW ts F F1) F
 | [],[],F,h=>⟨h,bW.refl _ _⟩
 | [],_::_,F,h=>h.elim
 | (m,.no)::l,[],F,h=>h.elim
 | (m,.at_ t off st)::l,[],F,h=>h.elim
 | (m,.box t)::l,[],F,h=>h.elim
 | (m,.no)::l,.val _ _::B,F,h=>lE (l:=l) (B:=B) h
 | (m,.no)::l,.mut _ _::B,F,h=>lE (l:=l) (B:=B) h
 | (m,.no)::l,.ptr _::B,F,h=>lE (l:=l) (B:=B) h
 | (m,.at_ t off st)::l,.val _ _::B,F,h=>h.elim
 | (m,.at_ t off st)::l,.ptr _::B,F,h=>h.elim
 | (m,.box t)::l,.val _ _::B,F,h=>h.elim
 | (m,.box t)::l,.mut _ _::B,F,h=>h.elim
 | (m,.at_ t off st)::l,.mut ag out::B,F,h=>by
  simp only[ip]at h |-;split at h
  case h_2=>exact h.elim
  split at h
  ·rename_i k d _ _
   cases b:Nat.ble (off+out.length) d.length with
   | false=>rw[b]at h;exact h.elim
   | true=>
    rw[b]at h;simp only[cond_true,du]at h |-;exact dv (λc a=>⟨a.1,bW.updH.trans a.2⟩) (lE (ts:=ts) h)
  obtain⟨r,j,e,f,g,i⟩:=Pu.out h;exact Pu.mk e f g rfl (dv (λc a=>⟨a.1,bW.updH.trans a.2⟩) (lE (ts:=ts) i))
 | (m,.box t)::l,.ptr out::B,F,h=>by
  simp only[ip]at h |-;split at h
  ·exact dv (λc a=>⟨a.1,bW.setH.trans a.2⟩) (lE (ts:=ts) h)
  exact h.elim
def Ny{ts:List Nat}{d:Option Nat}{f:Nat}{args:List Operand}{modes:List Nat}{K:(Nat->AV)->Prop}(h:lw P N F d f args modes K):lw P N F d f args modes λF1=>K F1/\bW ts F F1:=by
 unfold lw at h |-;refine cq (lI (ts:=ts) h) λn l h=>?_
 obtain⟨h,c⟩:=h;cases e:(vK l&&Nat.beq args.length modes.length) with
 | false=>rw[e]at h;exact h.elim
 | true=>
  rw[e]at h;refine jE h λb A h=>?_
  obtain⟨o,B,k,rcs,i,a,j⟩:=cJ.out h;refine CK i a (dv (λF'' h=>?_) (lE (ts:=ts) j));obtain⟨h,g⟩:=h;cases d with
  | none=>exact⟨h,c.trans g⟩
  | some d=>exact bw (Ke (ts:=ts) h) λp a=>⟨a.1,(c.trans g).trans a.2⟩
def PW{ts:List Nat}{d:Option Nat}{t:Nat}{cs:List C}{c a e b:Nat}{K:(Nat->AV)->Prop}{k:Kd}{rcs:List C}{B:List MA}(h:yr N F d t cs c a e b K k rcs B):yr N F d t cs c a e b (λF1=>K F1/\bW ts F F1) k rcs B:=by
 unfold yr at h |-;split at h
 case h_2=>exact h.elim
 rename_i i j;cases f:(Nat.beq i.length a&&Nat.beq j.length b) with
 | false=>rw[f]at h;exact h.elim
 | true=>
  rw[f]at h;simp only[cond_true,du]at h |-;cases d with
  | none=>exact⟨h,bW.kill.trans bW.setH⟩
  | some d=>exact bw (Ke (ts:=ts) h) λl g=>⟨g.1,(bW.kill.trans bW.setH).trans g.2⟩
def Nw{ts:List Nat}{d:Option Nat}{f:Nat}{args:List Operand}{a b:Nat}{K:(Nat->AV)->Prop}(h:kD P N F d f args a b K):kD P N F d f args a b λF1=>K F1/\bW ts F F1:=by
 unfold kD at h |-;split at h
 case h_2=>exact h.elim
 refine lf h λt g h=>lf h λi c h=>?_
 split at h
 case h_2=>exact h.elim
 rename_i j p;cases e:(Nat.beq i t&&Nat.ble (g+a) c&&Nat.ble (c+b) j.length) with
 | false=>rw[e]at h;exact h.elim
 | true=>
  rw[e]at h;simp only[cond_true,du]at h |-;obtain⟨q,B,k,rcs,l,n,o⟩:=cJ.out h;exact CK l n (PW o)
def N1{ts:List Nat}{d:Option Nat}{f:Nat}{args:List Operand}{modes:List Nat}{K:(Nat->AV)->Prop}(h:k7 P N F d f args modes K):k7 P N F d f args modes λF1=>K F1/\bW ts F F1:=by
 unfold k7 at h |-;split
 ·rename_i p a;rw[a]at h;exact Nw h
 rename_i a;rw[a]at h;exact Ny h
def R4{ts:List Nat}{dj:Option Nat}{s:Nat}{b:Nat->AV}(u:bW ts F b):bW ts F (rv1 F dj s b):=by
 unfold rv1;split
 case h_2=>exact u
 rename_i t d f;cases g:(dne dj s&&dne dj t) with
 | false=>exact u
 | true=>
  simp only[cond_true];split
  case h_2=>exact u
  split
  case h_2=>exact u
  intro q e a;by_cases c:q=s
  ·subst c
   rw[qw]at a;exact .inr ⟨q,by rw[f];exact a⟩
  rw[fH _ _ c]at a;exact u q e a
def GS{ts:List Nat}{dj:Option Nat} : ∀{l:List Nat}{a:Nat->AV},bW ts F a->bW ts F (rvE F dj l a)
 | [],_,u=>u
 | _::l,_,u=>GS (l:=l) (R4 u)
def PL{a:Oper}{K:(Nat->AV)->Prop}(k:a.guard=none)(i:pM a.op=true)(h:jx P TE N ops a K F):jx P TE N ops a (λF1=>K F1/\bW (a.looksAt ops) F F1) F:=by
 have pur:∀d,a.dst=some d->dt P TE F a.op (λj=>bR N F d j K)->dt P TE F a.op λj=>bR N F d j λF1=>K F1/\bW (a.looksAt ops) F F1:=λd f h=>by
  have A:gV P TE N ops a K F:=by unfold gV fW;rw[k,f];exact h
  obtain⟨G,j,l,B⟩:=y8 A;have g:=l.dst;rw[f]at g;simp only[Z0]at g;subst g;have n:=l.at_ F (j7.refl _ _) (λF1=>K F1/\bW (a.looksAt ops) F F1) ⟨B,bW.put λe C=>(l.from_ e C).imp id λ⟨t,_,h⟩=>⟨t,h⟩⟩;unfold gV fW at n;rw[k,f]at n;exact n
 unfold jx fW at h |-;rw[k]at h |-;simp only at h |-;cases b:a.op with
 | call c=>
  rw[b]at h i;have o:pK c=none:=by
   simp only[pM]at i;unfold pK;cases D:c.callee with
   | value=>rfl
   | _=>simp[D]at i
  have pl:iv P TE N a K F->iv P TE N a (λF1=>K F1/\bW (a.looksAt ops) F F1) F:=λh=>by
   unfold iv at h |-;rw[b]at h |-;cases f:a.dst with
   | none=>rw[f]at h;exact h.elim
   | some d=>
    rw[f]at h;simp only[nY,o]at h |-;have r:=pur d f;rw[b]at r;exact r h
  cases w:Ef N F (.call c) with
  | some p=>
   rw[w]at h;simp only at h |-;have lt:tq P N F a.dst p.1 p.2.1 p.2.2 K->tq P N F a.dst p.1 p.2.1 p.2.2 λF1=>K F1/\bW (a.looksAt ops) F F1:=λh=>rW (N1 (ts:=a.looksAt ops) h) λF1 ⟨h,u⟩=>by
    rw[ny]at h |-;exact⟨h,GS u⟩
   cases y:NI N (.call c) with
   | false=>rw[y]at h;exact lt h
   | true=>
    rw[y]at h;rcases h with h|h
    ·exact .pl (pl h)
    exact .lt (lt h)
  | none=>
   rw[w]at h;have E:iv P TE N a K F:=by unfold iv;rw[b];exact h
   have q:=pl E;unfold iv at q;rw[b]at q;exact q
 | _=>rw[b]at i;cases i
def QP{a:Oper}{d:Nat}{K:(Nat->AV)->Prop}(e:a.guard=none)(b:(Ra a.op || pM a.op)=true)(c:a.dst≠some d)(f:d∉a.looksAt ops)(g:∀t,(F t).uses d=false)(h:jx P TE N ops a K F) :
  jx P TE N ops a (λF1=>K F1/\bW (a.looksAt ops) F F1) F:=by
 rw[O6]at b;rcases b with b|b
 ·exact Rj e b c f g h
 exact PL e b h
def Gq(d:Nat)(ts:List Nat)(F:Nat->AV)(K:(Nat->AV)->Prop)(F1:Nat->AV):Prop:=∃a,K (eff none d a F1)/\bW ts F F1
def Gq.trans{d:Nat}{ts:List Nat}{F1 a:Nat->AV}{K:(Nat->AV)->Prop}(b:bW ts F F1)(h:Gq d ts F1 K a):Gq d ts F K a:=by
 obtain⟨c,e,f⟩:=h;exact⟨c,e,b.trans f⟩
def Dv{d t:Nat}{v av:AV}(a:t≠d):setH (eff none d v F) t av=eff none d v (setH F t av):=by
 funext s
 by_cases b:s=d
 ·subst b
  rw[ir,fH _ _ (Ne.symm a),ir]
 rw[bE b];unfold setH;rw[bE b]
def uz{ts:List Nat}{d t off n:Nat}{v:AV}{st:cC}{K:(Nat->AV)->List C->Prop}(h:lendAt (eff none d v F) t off st n K)(a:t≠d):lendAt F t off st n λF1 cs=>∃v1,K (eff none d v1 F1) cs/\bW ts F F1:=by
 unfold lendAt at h |-;rw[bE a]at h;split at h
 case h_2=>exact h.elim
 split at h
 ·rename_i k e _ _
  cases b:Nat.ble (off+n) e.length with
  | false=>rw[b]at h;exact h.elim
  | true=>
   rw[b]at h;simp only[cond_true,du]at h |-;rw[nE a]at h;exact⟨_,h,bW.updH⟩
 obtain⟨r,j,f,g,i,c⟩:=Lq.out h;refine .mk_ ?_;rw[nE a]at c;exact⟨r,j,_,_,f,g,i,rfl,rfl,_,c,bW.updH⟩
def mM{ts:List Nat}{d:Nat}(a:d∉ts):∀{xs:List (Operand × Nat)}{K:(Nat->AV)->List (MA × rR)->Prop}{F:Nat->AV}{v:AV},lendP xs K (eff none d v F)->(∀x,x∈xs->d∉tm x.1)->(∀t,(F t).uses d=false)->
  lendP xs (λF1 l=>(∃v1,K (eff none d v1 F1) l/\bW ts F F1)/\∀q,q∈l->d∉q.2.slot) F
 | [],K,F,v,h,_,_=>⟨⟨v,h,bW.refl _ _⟩,λq b=>by cases b⟩
 | (x,0)::xs,K,F,v,h,f,g=>by
  simp only[lendP]at h |-;refine cq (mM a h (λx i=>f x (O5 _ i)) g) λF1 l h=>⟨h.1,λq b=>?_⟩
  rcases List.mem_cons.1 b with rfl|b
  ·exact λA=>by cases A
  exact h.2 q b
 | (x,1)::xs,K,F,v,h,f,g=>by
  simp only[lendP]at h |-;split at h
  case h_2=>exact h.elim
  rename_i s;have k:s≠d:=λe=>f _ W1 (by simp[tm,e])
  rw[bE k]at h;have y:∀{t:Nat}{F1:Nat->AV}{l:List (MA × rR)}{m:MA}{j:Nat}{B:cC}{K2:(Nat->AV)->List (MA × rR)->Prop},t≠d->((∃v1,K2 (eff none d v1 F1) ((m,.at_ t j B)::l)/\bW ts F F1)/\∀q,q∈l->d∉q.2.slot)->(∃v1,K2 (eff none d v1 F1) ((m,.at_ t j B)::l)/\bW ts F F1)/\∀q,q∈(m,rR.at_ t j B)::l->d∉q.2.slot:=λc h=>⟨h.1,λq b=>by
    rcases List.mem_cons.1 b with rfl|b
    · exact λA=>c (O1.1 A).symm
    exact h.2 q b⟩
  split at h
  ·exact f7 (uz (ts:=ts) h k) λF1 p h=>by
    obtain⟨v1,h,o⟩:=h;exact cq (mM a h (λx i=>f x (O5 _ i)) (o.clean a g)) λD l h=>by
     obtain⟨⟨r,h,u⟩,w⟩:=h;exact y (K2:=K) k ⟨⟨r,h,o.trans u⟩,w⟩
  ·exact f7 (uz (ts:=ts) h k) λF1 p h=>by
    obtain⟨v1,h,o⟩:=h;exact cq (mM a h (λx i=>f x (O5 _ i)) (o.clean a g)) λD l h=>by
     obtain⟨⟨r,h,u⟩,w⟩:=h;exact y (K2:=K) k ⟨⟨r,h,o.trans u⟩,w⟩
  ·rename_i t j B H E
   have c:t≠d:=λe=>by have:=g s;rw[E,e]at this;simp[AV.uses]at this
   exact f7 (uz (ts:=ts) h c) λF1 p h=>by
    obtain⟨v1,h,o⟩:=h;exact cq (mM a h (λx i=>f x (O5 _ i)) (o.clean a g)) λD l h=>by
     obtain⟨⟨r,h,u⟩,w⟩:=h;exact y (K2:=K) c ⟨⟨r,h,o.trans u⟩,w⟩
  exact h.elim
 | (x,n+2)::xs,K,F,v,h,f,g=>by
  simp only[lendP]at h |-;split at h
  case h_2=>exact h.elim
  rename_i s;have k:s≠d:=λe=>f _ W1 (by simp[tm,e])
  rw[bE k]at h;have y:∀{t:Nat}{p:List C},t≠d->lendP xs (λG l=>K G ((.ptr p,.box t)::l)) (kill (eff none d v F) t)->lendP xs (λF1 l=>(∃v1,K (eff none d v1 F1) ((.ptr p,.box t)::l)/\bW ts F F1)/\∀q,q∈(MA.ptr p,rR.box t)::l->d∉q.2.slot) (kill F t):=fun {t p} c h=>by
   rw[DQ c]at h;refine cq (mM a h (λx i=>f x (O5 _ i)) ((bW.kill (ts:=ts)).clean a g)) λD l h=>?_
   obtain⟨⟨r,h,u⟩,w⟩:=h;refine⟨⟨r,h,bW.kill.trans u⟩,λq b=>?_⟩;rcases List.mem_cons.1 b with rfl|b
   ·exact λA=>c (O1.1 A).symm
   exact w q b
  split at h
  ·rename_i t E
   have c:t≠d:=λe=>by have:=g s;rw[E,e]at this;simp[AV.uses]at this
   rw[bE c]at h;split at h
   ·exact y c h
   exact h.elim
  ·exact y k h
  exact h.elim
def tg{d:Nat}{v:AV}(c:∀t,(F t).uses d=false):∀{l:List (MA × rR)}{xs:List Operand}{K:Bool->List MA->Prop},valsP (eff none d v F) l xs K->(∀x,x∈xs->d∉tm x)->valsP F l xs K
 | [],[],K,h,_=>h
 | (m,.no)::l,x::xs,K,h,a=>by
  obtain⟨g,i,e,f⟩:=cz h;exact f F (nJ (a x W1) c) _ (tg c e λx b=>a x (O5 _ b))
 | (m,.at_ t off st)::l,x::xs,K,h,a=>tg (l:=l) (xs:=xs) c h λx b=>a x (O5 _ b)
 | (m,.box t)::l,x::xs,K,h,a=>tg (l:=l) (xs:=xs) c h λx b=>a x (O5 _ b)
 | [],_::_,K,h,_=>h.elim
 | (m,.no)::l,[],K,h,_=>h.elim
 | (m,.at_ t off st)::l,[],K,h,_=>h.elim
 | (m,.box t)::l,[],K,h,_=>h.elim
def lv{ts:List Nat}{d:Nat}{K:(Nat->AV)->Prop} : ∀{l:List (MA × rR)}{B:List MA}{F:Nat->AV}{v:AV},ip l B K (eff none d v F)->(∀q,q∈l->d∉q.2.slot)->ip l B (Gq d ts F K) F
 | [],[],F,v,h,_=>⟨v,h,bW.refl _ _⟩
 | [],_::_,F,v,h,_=>h.elim
 | (m,.no)::l,[],F,v,h,_=>h.elim
 | (m,.at_ t off st)::l,[],F,v,h,_=>h.elim
 | (m,.box t)::l,[],F,v,h,_=>h.elim
 | (m,.no)::l,.val _ _::B,F,v,h,a=>lv (l:=l) (B:=B) h λq b=>a q (O5 _ b)
 | (m,.no)::l,.mut _ _::B,F,v,h,a=>lv (l:=l) (B:=B) h λq b=>a q (O5 _ b)
 | (m,.no)::l,.ptr _::B,F,v,h,a=>lv (l:=l) (B:=B) h λq b=>a q (O5 _ b)
 | (m,.at_ t off st)::l,.val _ _::B,F,v,h,_=>h.elim
 | (m,.at_ t off st)::l,.ptr _::B,F,v,h,_=>h.elim
 | (m,.box t)::l,.val _ _::B,F,v,h,_=>h.elim
 | (m,.box t)::l,.mut _ _::B,F,v,h,_=>h.elim
 | (m,.at_ t off st)::l,.mut ag out::B,F,v,h,a=>by
  have f:t≠d:=λe=>a _ W1 (by simp[rR.slot,e])
  have c:∀q,q∈l->d∉q.2.slot:=λq b=>a q (O5 _ b)
  simp only[ip]at h |-;rw[bE f]at h;split at h
  case h_2=>exact h.elim
  split at h
  ·rename_i k p _ _
   cases i:Nat.ble (off+out.length) p.length with
   | false=>rw[i]at h;exact h.elim
   | true=>
    rw[i]at h;simp only[cond_true,du]at h |-;rw[nE f]at h;exact dv (λn g=>Gq.trans bW.updH g) (lv (ts:=ts) h c)
  obtain⟨r,j,u,w,y,o⟩:=Pu.out h;rw[nE f]at o;exact Pu.mk u w y rfl (dv (λn g=>Gq.trans bW.updH g) (lv (ts:=ts) o c))
 | (m,.box t)::l,.ptr out::B,F,v,h,a=>by
  have f:t≠d:=λe=>a _ W1 (by simp[rR.slot,e])
  have c:∀q,q∈l->d∉q.2.slot:=λq b=>a q (O5 _ b)
  simp only[ip]at h |-;rw[bE f]at h;split at h
  ·rw[Dv f]at h
   exact dv (λn g=>Gq.trans bW.setH g) (lv (ts:=ts) h c)
  exact h.elim
def NY{ts:List Nat}{d:Nat}{dj:Option Nat}{v:AV}{f:Nat}{args:List Operand}{modes:List Nat}{K:(Nat->AV)->Prop}(h:lw P N (eff none d v F) dj f args modes K)(c:dj≠some d)(a:d∉ts)(j:∀x,x∈args->d∉tm x)(n:∀t,(F t).uses d=false) :
  lw P N F dj f args modes (Gq d ts F K):=by
 unfold lw at h |-;refine cq (mM a h (λx q=>j _ (List.of_mem_zip q).1) n) λG l h=>?_
 obtain⟨⟨H,h,g⟩,r⟩:=h;cases o:(vK l&&Nat.beq args.length modes.length) with
 | false=>rw[o]at h;exact h.elim
 | true=>
  rw[o]at h;refine jE (tg (g.clean a n) h j) λb A h=>?_
  obtain⟨J,B,k,rcs,u,i,w⟩:=cJ.out h;refine CK u i (dv (λF'' h=>?_) (lv (ts:=ts) w r));obtain⟨y,h,p⟩:=h;cases dj with
  | none=>exact⟨y,h,g.trans p⟩
  | some dj=>
   refine bw (iC (ts:=ts) h (λe=>c (by rw[e])) jm) λL i=>?_
   obtain⟨C,-,D,E⟩:=i;exact⟨C,D,(g.trans p).trans E⟩
def Q4{ts:List Nat}{d:Nat}{dj:Option Nat}{v:AV}{t:Nat}{cs:List C}{f a g b:Nat}{K:(Nat->AV)->Prop}{k:Kd}{rcs:List C}{B:List MA}(i:t≠d)(c:dj≠some d)(h:yr N (eff none d v F) dj t cs f a g b K k rcs B):yr N F dj t cs f a g b (Gq d ts F K) k rcs B:=by
 unfold yr at h |-;split at h
 case h_2=>exact h.elim
 rename_i l n;cases j:(Nat.beq l.length a&&Nat.beq n.length b) with
 | false=>rw[j]at h;exact h.elim
 | true=>
  rw[j]at h;simp only[cond_true,du]at h |-;rw[DQ i,Dv i]at h;cases dj with
  | none=>exact⟨_,h,bW.kill.trans bW.setH⟩
  | some dj=>
   refine bw (iC (ts:=ts) h (λe=>c (by rw[e])) jm) λu o=>?_
   obtain⟨p,-,q,r⟩:=o;exact⟨p,q,(bW.kill.trans bW.setH).trans r⟩
def Kh{d:Nat}{v:AV}{x:Operand}{K:Nat->Nat->Prop}(b:d∉tm x)(c:∀t,(F t).uses d=false)(h:zX (eff none d v F) x K):zX F x λt o=>t≠d/\K t o:=by
 obtain⟨s,t,f,rfl,a,g⟩:=sW h;have i:s≠d:=λe=>b (by simp[tm,e])
 rw[bE i]at a;have j:t≠d:=λe=>by have:=c s;rw[a,e]at this;simp[AV.uses]at this
 simp only[zX,a];exact⟨j,g⟩
def Md{ts:List Nat}{d:Nat}{dj:Option Nat}{v:AV}{f:Nat}{args:List Operand}{a b:Nat}{K:(Nat->AV)->Prop}(h:kD P N (eff none d v F) dj f args a b K)(c:dj≠some d)(e:∀x,x∈args->d∉tm x)(g:∀t,(F t).uses d=false) :
  kD P N F dj f args a b (Gq d ts F K):=by
 unfold kD at h |-;split at h
 case h_2=>exact h.elim
 refine lf (Kh (e _ (by simp)) g h) λt n h=>?_
 obtain⟨i,h⟩:=h;refine lf (Kh (e _ (by simp)) g h) λo j h=>?_
 replace h:=h.2;rw[bE i]at h;split at h
 case h_2=>exact h.elim
 rename_i p w;cases l:(Nat.beq o t&&Nat.ble (n+a) j&&Nat.ble (j+b) p.length) with
 | false=>rw[l]at h;exact h.elim
 | true=>
  rw[l]at h;simp only[cond_true,du]at h |-;obtain⟨y,B,k,rcs,q,r,u⟩:=cJ.out h;exact CK q r (Q4 i c u)
def Ps{ts:List Nat}{d:Nat}{dj:Option Nat}{v:AV}{f:Nat}{args:List Operand}{modes:List Nat}{K:(Nat->AV)->Prop}(h:k7 P N (eff none d v F) dj f args modes K)(a:dj≠some d)(b:d∉ts)(e:∀x,x∈args->d∉tm x)(g:∀t,(F t).uses d=false) :
  k7 P N F dj f args modes (Gq d ts F K):=by
 unfold k7 at h |-;split
 ·rename_i p c;rw[c]at h;exact Md h a e g
 rename_i c;rw[c]at h;exact NY h a b e g
def Qs{dj:Option Nat}{s q:Nat}{F1:Nat->AV}(a:q≠s):rv1 F dj s F1 q=F1 q:=by
 unfold rv1;cases F s with
 | ref t b c=>
  cases c with
  | cons=>rfl
  | nil=>
   simp only;cases(dne dj s&&dne dj t) with
   | false=>rfl
   | true=>
    simp only[cond_true];cases F1 t with
    | H k d=>
     cases k with
     | box=>
      simp only;cases F1 s with
      | dead=>exact fH _ _ a
      | _=>rfl
     | _=>rfl
    | _=>rfl
 | _=>rfl
def Rz{d:Nat}{dj:Option Nat}{v v1:AV}{s:Nat}{F1:Nat->AV}(f:∀t,(F t).uses d=false):∃b,rv1 (eff none d v F) dj s (eff none d v1 F1)=eff none d b (rv1 F dj s F1):=by
 by_cases c:s=d
 ·subst c
  have g:∃b,rv1 (eff none s v F) dj s (eff none s v1 F1)=eff none s b F1:=by
   unfold rv1;rw[ir];have set:∀x:AV,setH (eff none s v1 F1) s x=eff none s x F1:=λx=>by
    funext q
    by_cases a:q=s
    ·subst a;rw[qw,ir]
    rw[fH _ _ a,bE a,bE a]
   split
   case h_2=>exact⟨v1,rfl⟩
   cases h:(dne dj s&&dne dj _) with
   | false=>exact⟨v1,rfl⟩
   | true=>
    simp only[cond_true];split
    case h_2=>exact⟨v1,rfl⟩
    split
    case h_2=>exact⟨v1,rfl⟩
    exact⟨_,set _⟩
  obtain⟨b,i⟩:=g;refine⟨b,i.trans ?_⟩
  funext q
  by_cases a:q=s
  ·subst a;rw[ir,ir]
  rw[bE a,bE a,Qs a]
 refine⟨v1,?_⟩;unfold rv1;rw[bE c];cases j:F s with
 | ref t l n=>
  cases n with
  | cons=>rfl
  | nil=>
   have o:t≠d:=λe=>by have:=f s;rw[j,e]at this;simp[AV.uses]at this
   simp only;cases h:(dne dj s&&dne dj t) with
   | false=>rfl
   | true=>
    simp only[cond_true];rw[bE o,bE c];cases F1 t with
    | H k p=>
     cases k with
     | box=>
      simp only;cases F1 s with
      | dead=>exact Dv c
      | _=>rfl
     | _=>rfl
    | _=>rfl
 | _=>rfl
def Mp{d:Nat}{dj:Option Nat}{v:AV}(a:∀t,(F t).uses d=false):∀{l:List Nat}{v1:AV}{F1:Nat->AV},∃b,rvE (eff none d v F) dj l (eff none d v1 F1)=eff none d b (rvE F dj l F1)
 | [],v1,_=>⟨v1,rfl⟩
 | s::l,v1,F1=>by
  simp only[rvE];obtain⟨b,e⟩:=Rz (dj:=dj) (v:=v) (v1:=v1) (s:=s) (F1:=F1) a;rw[e];exact Mp a
def PM{a:Oper}{d:Nat}{v:AV}{K:(Nat->AV)->Prop}(M:a.guard=none)(i:pM a.op=true)(j:a.dst≠some d)(w:d∉a.looksAt ops)(g:∀t,(F t).uses d=false)(h:jx P TE N ops a K (eff none d v F)) :
  jx P TE N ops a (Gq d (a.looksAt ops) F K) F:=by
 have k:∀t,t∈di a.op->t∈a.looksAt ops:=λt A=>gm a t A
 have tmI:∀x,x∈a.op.operands.toList->∀t,t∈tm x->t∈a.looksAt ops:=λx q t A=>k t (List.mem_flatMap.2 ⟨x,q,A⟩)
 have pur:∀dj,dj≠d->dt P TE (eff none d v F) a.op (λr=>bR N (eff none d v F) dj r K)->dt P TE F a.op λr=>bR N F dj r (Fq d (a.looksAt ops) v F K):=λdj j h=>
  Dp (p:=λF K=>dt P TE F a.op K) (kj h) j k w g
 unfold jx fW at h |-;rw[M]at h |-;simp only at h |-;cases b:a.op with
 | call c=>
  rw[b]at h i tmI;have B:pK c=none:=by
   simp only[pM]at i;unfold pK;cases g:c.callee with
   | value=>rfl
   | _=>simp[g]at i
  have C:Ef N (eff none d v F) (.call c)=Ef N F (.call c):=by
   simp only[pM]at i;simp only[Ef];cases g:c.callee with
   | value x=>
    cases x with
    | func f=>rfl
    | _=>simp[g]at i
   | _=>rfl
  rw[C]at h;have pl:iv P TE N a K (eff none d v F)->iv P TE N a (Gq d (a.looksAt ops) F K) F:=λh=>by
   unfold iv at h |-;rw[b]at h |-;cases D:a.dst with
   | none=>rw[D]at h;exact h.elim
   | some dj=>
    rw[D]at h;simp only[nY,B]at h |-;have J:=pur dj (λe=>j (by rw[D,e]));rw[b]at J;obtain⟨r,O,-,Q⟩:=kj (J h);exact Q F (j7.refl _ _) _ (bw O λU E=>by
      obtain⟨v1,-,R,u⟩:=E;exact⟨v1,R,u⟩)
  cases n:Ef N F (.call c) with
  | some p=>
   rw[n]at h;simp only at h |-;have o:∀x,x∈p.2.1->d∉tm x:=λx q G=>by
    have S:p.2.1=c.args.toList:=by
     simp only[pM]at i;simp only[Ef]at n;cases g:c.callee with
     | value y=>
      cases y with
      | func f=>
       rw[g]at n;simp only at n;split at n
       ·cases n;rfl
       cases n
      | _=>simp[g]at i
     | _=>simp[g]at i
    rw[S]at q;refine w (tmI x ?_ d G);simp only[Op.operands,Call.operands];simp
    first|exact .inl (by simpa using q)|exact .inr (by simpa using q)|(simpa using q)
   have lt:tq P N (eff none d v F) a.dst p.1 p.2.1 p.2.2 K->tq P N F a.dst p.1 p.2.1 p.2.2 (Gq d (a.looksAt ops) F K):=λh=>rW (Ps (ts:=a.looksAt ops) h j w o g) λF1 h=>by
    obtain⟨v1,h,u⟩:=h;rw[ny]at h |-;obtain⟨T,e⟩:=Mp (dj:=a.dst) (v:=v) (l:=T8 N.mo) (v1:=v1) (F1:=F1) g;rw[e]at h;exact⟨T,h,GS u⟩
   cases L:NI N (.call c) with
   | false=>rw[L]at h;exact lt h
   | true=>
    rw[L]at h;rcases h with h|h
    ·exact .pl (pl h)
    exact .lt (lt h)
  | none=>
   rw[n]at h;have E:iv P TE N a K (eff none d v F):=by unfold iv;rw[b];exact h
   have H:=pl E;unfold iv at H;rw[b]at H;exact H
 | _=>rw[b]at i;cases i
def Q6{a:Oper}{d:Nat}{v:AV}{K:(Nat->AV)->Prop}(e:a.guard=none)(b:(Ra a.op || pM a.op)=true)(c:a.dst≠some d)(f:d∉a.looksAt ops)(g:∀t,(F t).uses d=false)(h:jx P TE N ops a K (eff none d v F)) :
  jx P TE N ops a (Gq d (a.looksAt ops) F K) F:=by
 rw[O6]at b;rcases b with b|b
 ·refine kr (Mt e b c f g h) λl i=>?_
  obtain⟨j,-,k,u⟩:=i;exact⟨j,k,u⟩
 exact PM e b c f g h
structure mG(ops:Array Oper)(ds:List Nat)(F:Nat->AV)(listed:Array Bool):Prop where
 dst:∀(j:Nat)(o:Oper)(d:Nat),oP ds o=true->ops[j]? = some o->listed.getD j true=false->o.dst=some d->∀t,(F t).uses d=false
 mv:∀(j:Nat)(o:Oper)(T:Option Nat)(s:Nat),oP ds o=true->ops[j]? = some o->listed.getD j true=false->o.guard=none->ns o.op=some (T,s)->jA ops o s=true->∀t,(F t).uses s=false
def mG.put{j d:Nat}{r:Option Nat}{listed:Array Bool}{av:AV}(h:mG ops ds F listed)(o:∀b a g,oP ds a=true->b≠j->ops[b]? = some a->listed.getD b true=false->a.dst=some g->av.uses g=false)(p:∀b a T s,oP ds a=true->b≠j->ops[b]? = some a->listed.getD b true=false->a.guard=none->ns a.op=some (T,s)->jA ops a s=true->av.uses s=false) :
  mG ops ds (eff r d av F) (listed.setIfInBounds j true):=by
 refine⟨λb a g i c f k t=>?_,λb a T s i c f q l n t=>?_⟩
 ·have e:=iR f
  rw[getD_set_ne true (Ne.symm e)]at f;exact jZ (o b a g i e c f k) (h.dst b a g i c f k t)
 have e:=iR f;rw[getD_set_ne true (Ne.symm e)]at f;exact jZ (p b a T s i e c f q l n) (h.mv b a T s i c f q l n t)
def xP{o:Oper}(h:Ta o=true):o.guard=none:=by
 unfold Ta at h;cases a:o.guard with
 | none=>rfl
 | some p=>rw[a]at h;cases h
def M8{ts:List Nat}{d:Nat}(h:(!ts.any (Nat.beq d))=true):d∉ts:=λa=>by
 have:ts.any (Nat.beq d)=true:=t4.2 ⟨d,a,Nat.beq_refl d⟩;rw[this]at h;cases h
def Nd{b c:Oper}{d:Nat}{f:Bool}(h:RW ops b c f=true)(i:c.dst=some d):b.guard=none/\(Ra b.op || pM b.op)=true/\b.dst≠some d/\d∉b.looksAt ops/\c.guard=none/\d∉c.looksAt ops/\(f=true\/∀T s,ns c.op=some (T,s)->jA ops c s=false):=by
 unfold RW at h;rw[i]at h;simp only[I0]at h;obtain⟨⟨⟨⟨⟨⟨j,k⟩,g⟩,l⟩,n⟩,o⟩,a⟩:=h;refine⟨xP j,k,λe=>?_,M8 l,xP n,M8 o,?_⟩
 ·rw[e]at g;simp at g
 rw[O6]at a;rcases a with a|a
 ·exact .inl a
 exact .inr λT s e=>by rw[e]at a;simpa using a
def Nv{j i:Nat}(h:vY ops j i=true):oA ops j i:=tO j _ (λ_ a=>.one (yl a)) i h
def JY{o:Oper}(h:oP ds o=true):∃d,o.dst=some d/\ds.any (Nat.beq d)=true:=by
 unfold oP at h;cases a:o.dst with
 | none=>rw[a]at h;cases h
 | some d=>rw[a]at h;exact⟨d,rfl,h⟩
structure RX(ops:Array Oper)(ds:List Nat)(nm:Nat->Bool):Prop where
 back:∀(j:Nat)(oj:Oper),ops[j]? = some oj->∀e∈oj.after,Region.binds .any e=true->e.on<j
 apart:∀(i j:Nat)(oi oj:Oper),oP ds oi=true->oP ds oj=true->i≠j->ops[i]? = some oi->ops[j]? = some oj->dh oj i=true\/dh oi j=true\/oi.apart ops oj=true
 look:∀(i j:Nat)(oi oj:Oper)(d:Nat),oP ds oi=true->i≠j->ops[i]? = some oi->ops[j]? = some oj->oi.dst=some d->d∈oj.looksAt ops->dh oj i=true
 differ:∀(i j:Nat)(oi oj:Oper)(d:Nat),oP ds oi=true->oP ds oj=true->i≠j->ops[i]? = some oi->ops[j]? = some oj->oi.dst=some d->oj.dst≠some d
 nf:∀(i j:Nat)(oi oj:Oper),oP ds oi=true->oP ds oj=false->i≠j->ops[i]? = some oi->ops[j]? = some oj->vY ops j i=true\/vY ops i j=true\/RW ops oj oi (nm i)=true
 mvs:∀(j:Nat)(oj:Oper)(T:Option Nat)(s:Nat),oP ds oj=true->ops[j]? = some oj->ns oj.op=some (T,s)->jA ops oj s=true->ds.any (Nat.beq s)=true
def pU{listed:Array Bool}{j i:Nat}{h:Oper}(c:RX ops ds nm)(d:DC ops listed)(a:ops[j]? = some h)(b:∀e∈h.after,Region.binds .any e=true->listed.getD e.on false=true)(n:vY ops j i=true):listed.getD i false=true:=
 ou d c.back (Nv n) (V3.1 a).1 λk l=>by
  rw[bc a]at l;obtain⟨e,f,g,rfl⟩:=cu.1 l;exact b e f g
def unl{listed:Array Bool}{k:Nat}(h1:listed.getD k true=false)(a:listed.getD k false=true):False:=by
 rcases Nat.lt_or_ge k listed.size with b|b
 ·simp[b]at h1 a;rw[h1]at a;cases a
 simp[Array.getElem?_eq_none b]at a
def j7.trans{F1 a:Nat->AV}{ts:List Nat}(h1:j7 F F1 ts)(g:j7 F1 a ts):j7 F a ts:=λt b=>by
 obtain⟨c,h⟩:=h1 t b;obtain⟨i,j⟩:=g t b;refine⟨i.trans c,λd e k f l=>j d (by rw[c];exact e) k f (h d e k f l)⟩
def mG.us{j:Nat}{f:Oper}{F1:Nat->AV}{listed:Array Bool}(r:RX ops ds nm)(h:mG ops ds F listed)(g:ops[j]? = some f)(i:∀e∈f.after,Region.binds .any e=true->listed.getD e.on false=true)(u:bW (f.looksAt ops) F F1):mG ops ds F1 (listed.setIfInBounds j true):=by
 refine⟨λk l y q b c n=>u.clean (λd=>?_) (h.dst k l y q b ?_ n),λk l T s q b c A o p=>u.clean (λd=>?_) (h.mv k l T s q b ?_ A o p)⟩
 ·have a:=iR c
  rw[getD_set_ne true (Ne.symm a)]at c;have:=r.look k j l f y q a b g n d;obtain⟨e,t,w,rfl⟩:=cu.1 this;exact unl c (i e t w)
 ·have a:=iR c
  rwa [getD_set_ne true (Ne.symm a)]at c
 ·have a:=iR c
  exact a ((gy p).2 k j l f b g (dc o) d)
 have a:=iR c
 rwa [getD_set_ne true (Ne.symm a)]at c
def R2{p d:Nat}{v:AV}{F1:Nat->AV}{b:Oper}(a:ops[p]? = some b)(g:d∉b.looksAt ops)(i:∀t,(F1 t).uses d=false)(c:b.dst≠some d)(h:Ro P TE ops p (eff none d v F1)):Ro P TE ops p F1:=by
 obtain⟨n,f,j,k⟩:=h;rw[bc a]at f j k;refine⟨n,by rw[bc a];exact f,?_,?_⟩
 ·rw[bc a]
  rw[<-j];exact w9 (ops:=ops) (nJ g i)
 rw[bc a];obtain⟨r,l,-,o⟩:=kj k;rw[bE (λe=>c (by rw[f,e]))]at l;exact o F1 (nJ (λq=>g (gm b d q)) i) _ l
def Hd(B:RX ops ds nm){i d:Nat}{b:Oper}{K:(Nat->AV)->Prop}(C:ops[i]? = some b)(o:oP ds b=true) :
  ∀(fuel:Nat)(listed:Array Bool)(F:Nat->AV)(q:Option Nat)(av:AV),i∈Region.ready .any ops listed->mG ops ds F listed->DC ops listed->Yl P TE N ops b F q d av->(nm i=true->q=none)->EA P TE N ops ds K fuel (listed.setIfInBounds i true) (eff q d av F)->EA P TE N ops ds K (fuel+1) listed F:=by
 have self:∀(listed:Array Bool)(F:Nat->AV)(q:Option Nat)(av:AV),i∈Region.ready .any ops listed->mG ops ds F listed->Yl P TE N ops b F q d av->∀K':(Nat->AV)->Prop,K' (eff q d av F)->lM P TE N ops b K' F:=λlisted F q av W c f K' hK=>by
  have a:=(mem_ready.1 W).1;refine f.at_ F (j7.refl _ _) (c.dst i b d o C a f.dst) (λs hs=>?_) K' hK;obtain⟨L,⟨T,h2⟩,h3⟩:=f.mvl s hs;exact c.mv i b T s o C a L h2 h3
 intro fuel
 induction fuel with
 | zero=>
  intro listed F q av W c M f E H;refine⟨λh=>(by rw[h]at W;cases W),λj hj=>?_⟩;by_cases g:j=i
  ·subst g
   unfold v8;rw[C];simp only[CB o];exact self listed F q av W c f _ H
  have:=ready_mono hj g;rw[H.1]at this;cases this
 | succ fuel ih=>
  intro listed F q av W c M f E H;refine⟨λh=>(by rw[h]at W;cases W),λj hj=>?_⟩;by_cases g:j=i
  ·subst g
   unfold v8;rw[C];simp only[CB o];exact self listed F q av W c f _ H
  have L:=H.2 j (ready_mono hj g);obtain⟨G,n,l,X⟩:=mem_ready.1 hj;obtain⟨a,oi',Y,Z⟩:=mem_ready.1 W;rw[C]at Y;simp only[Z0]at Y;subst Y;have noedge:∀k ok,ops[k]? = some ok->listed.getD k true=false->dh n k=false:=λk ok hk hkun=>by
   rw[<-U5];intro he;obtain⟨e,he1,he2,he3⟩:=cu.1 he;exact unl hkun (he3 ▸ X e he1 he2)
  have noedge':∀k ok,ops[k]? = some ok->listed.getD k true=false->dh b k=false:=λk ok hk hkun=>by
   rw[<-U5];intro he;obtain⟨e,he1,he2,he3⟩:=cu.1 he;exact unl hkun (he3 ▸ Z e he1 he2)
  have cd:∀t,(F t).uses d=false:=c.dst i b d o C a f.dst
  unfold v8 at L |-;rw[l]at L |-;simp only at L |-;by_cases O:oP ds n=true
  case neg=>
   rw[C9 O]at L |-;have hji1:vY ops j i=false:=by
    rw[<-U5];exact λh=>unl a (pU B M l X h)
   have hij1:vY ops i j=false:=by
    rw[<-U5];exact λh=>unl G (pU B M C Z h)
   have hfb:RW ops n b (nm i)=true:=by
    rcases B.nf i j b n o (by simpa using O) (Ne.symm g) C l with h|h|h
    ·rw[hji1]at h;cases h
    ·rw[hij1]at h;cases h
    exact h
   obtain⟨Q,y,J,g4,g5,g6,g7⟩:=Nd hfb f.dst;have hmv:q=none:=by
    cases q with
    | none=>rfl
    | some s=>
     obtain⟨-,⟨T,q1⟩,q2⟩:=f.mvl s rfl;rcases g7 with g7|g7
     ·exact E g7
     rw[g7 T s q1]at q2;cases q2
   subst hmv;refine kr (Q6 Q y J g4 cd L) λF1 hF1=>?_
   obtain⟨v,⟨hchk,hrun⟩,u⟩:=hF1;have cd1:∀t,(F1 t).uses d=false:=u.clean g4 cd
   have hisz:i<listed.size:=by
    rcases Nat.lt_or_ge i listed.size with h|h
    ·exact h
    simp[Array.getElem?_eq_none h]at a
   have hrd:Ro P TE ops i (eff none d v F1):=hchk i (by simp[hisz]) (by rw[bc C];exact o) hji1;refine⟨λp hp1 hp2 hp3=>?_,ih (listed.setIfInBounds j true) F1 none v (ready_mono W (Ne.symm g)) (c.us B l X u) (M.put hj) ?_ (λ_=>rfl) (by rw[Array.setIfInBounds_comm _ _ g];exact hrun)⟩
   ·have hpi:p≠i:=λe=>by subst e;exact unl a hp1
    have hpl:p<ops.size:=by
     rcases Nat.lt_or_ge p ops.size with h|h
     ·exact h
     rw[show de ops p=default by simp[de,W6,Array.getElem?_eq_none h]]at hp2;cases hp2
    have h0:ops[p]? = some ops[p]:=U6 hpl;have hp2':=hp2;rw[bc h0]at hp2';refine R2 h0 (λhlk=>?_) cd1 (B.differ i p b _ d o hp2' (Ne.symm hpi) C h0 f.dst) (hchk p (getD_set_true hp1) hp2 hp3);have:=B.look i p b _ d o (Ne.symm hpi) C h0 f.dst hlk;exact unl a (M p _ h0 hp1 i this)
   obtain⟨dp,q1,q2,q3⟩:=hrd;rw[bc C]at q1 q2 q3;have hdp:dp=d:=by rw[f.dst]at q1;simpa using q1.symm
   subst hdp;rw[ir]at q3;obtain⟨R,e1,e2,e3⟩:=kj q3;subst e1;have agr1:j7 (eff none dp R F1) F1 (b.looksAt ops):=nJ g6 cd1;have fromv:eI F1 (b.looksAt ops) R:=λe he=>by
    rcases e2 e he with h|⟨t,A,h⟩
    ·exact .inl (gm b e h)
    have htl:=gm (ops:=ops) b t A;have hne:t≠dp:=λe=>g6 (e ▸ htl)
    rw[bE hne]at h;exact .inr ⟨t,htl,h⟩
   have hself:R.uses dp=false:=by
    cases D:R.uses dp with
    | false=>rfl
    | true=>
     rcases fromv dp D with h|⟨t,_,h⟩
     ·exact absurd h g6
     rw[cd1 t]at h;cases h
   refine⟨f.dst,f.lt,hself,fromv,λs hs=>(by cases hs),λF' hA S _ K' hK=>?_⟩;have agr2:=agr1.trans hA;unfold lM;rw[w9 agr2,q2];simp only;unfold gV fW;rw[g5,f.dst];simp only;refine e3 F' (agr2.mono λt A=>gm b t A) _ ?_;unfold bR;rw[f.lt,hself];show K' (put F' dp R);rw[D7 R S];exact hK
  rw[CB O]at L |-;have hap:b.apart ops n=true:=by
   rcases B.apart i j b n o O (Ne.symm g) C l with h|h|h
   ·rw[noedge i b C a]at h;cases h
   ·rw[noedge' j n l G]at h;cases h
   exact h
  obtain⟨ap1,ap2,ap3⟩:=Oper.apart_spec hap;have hdl:d∉n.looksAt ops:=ap1 d f.dst;have cdj':∀r,n.dst=some r->∀t,(F t).uses r=false:=λr hdj=>c.dst j n r O l G hdj
  have cmv:∀s,q=some s->(∀t,(F t).uses s=false)/\s∉n.looksAt ops/\s∈b.looksAt ops:=λs hs=>by
   obtain⟨Q,⟨T,y⟩,J⟩:=f.mvl s hs;exact⟨c.mv i b T s o C a Q y J,λhl=>g ((gy J).2 i j b n C l (dc y) hl).symm,dc y⟩
  have cmvj:∀T s,n.guard=none->ns n.op=some (T,s)->jA ops n s=true->(∀t,(F t).uses s=false)/\s∉b.looksAt ops/\s∈n.looksAt ops:=λT s Q y J=>
   ⟨c.mv j n T s O l G Q y J,λhl=>g ((gy J).2 i j b n C l hl (dc y)).symm,dc y⟩
  have avno:∀e,e∉b.looksAt ops->(∀t,(F t).uses e=false)->av.uses e=false:=λe L h2=>by
   cases D:av.uses e with
   | false=>rfl
   | true=>
    rcases f.from_ e D with h|⟨t,_,h⟩
    ·exact absurd h L
    rw[h2 t]at h;cases h
  obtain⟨mvj,r,avj,U,hKj⟩:=qi L (λr hdj t=>jZ (avno r (ap3 r hdj) (cdj' r hdj)) (cdj' r hdj t)) (λT s Q y J t=>by
    obtain⟨c1,c2,-⟩:=cmvj T s Q y J;exact jZ (avno s c2 c1) (c1 t))
  have hdne:d≠r:=λe=>ap2 d f.dst (by rw[U.dst,e])
  have hdjl:r∉b.looksAt ops:=ap3 r U.dst;have cdj:∀t,(F t).uses r=false:=cdj' r U.dst
  have cmj:∀s,mvj=some s->(∀t,(F t).uses s=false)/\s∉b.looksAt ops/\s∈n.looksAt ops:=λs hs=>by
   obtain⟨Q,⟨T,y⟩,J⟩:=U.mvl s hs;exact cmvj T s Q y J
  have lookj:∀t,t∈n.looksAt ops->eff q d av F t=F t:=λt A=>by
   unfold eff;have e1:t≠d:=λe=>hdl (e ▸ A)
   have e2:q≠some t:=λe=>(cmv t e).2.1 A
   rw[C9 e1,C9 e2]
  have looki:∀t,t∈b.looksAt ops->eff mvj r avj F t=F t:=λt A=>by
   unfold eff;have e1:t≠r:=λe=>hdjl (e ▸ A)
   have e2:mvj≠some t:=λe=>(cmj t e).2.1 A
   rw[C9 e1,C9 e2]
  have avjno:∀e,e∉n.looksAt ops->(∀t,(F t).uses e=false)->avj.uses e=false:=λe L h2=>by
   cases D:avj.uses e with
   | false=>rfl
   | true=>
    rcases U.from_ e D with h|⟨t,A,h⟩
    ·exact absurd h L
    rw[lookj t A,h2 t]at h;cases h
  have agrj:j7 (eff q d av F) F (n.looksAt ops):=λt A=>by
   rw[lookj t A];refine⟨rfl,λt' D k cs hh=>?_⟩;have w:t'≠d:=λe=>by rw[e,cd t]at D;cases D
   have E:q≠some t':=λe=>by rw[(cmv t' e).1 t]at D;cases D
   unfold eff at hh;rw[C9 w,C9 E]at hh;exact hh
  refine U.at_ F agrj cdj (λs hs=>(cmj s hs).1) _ (ih (listed.setIfInBounds j true) (eff mvj r avj F) q av (ready_mono W (Ne.symm g)) (c.put (λj' o' d' hm' w V hl' S=>?_) (λj' o' T s hm' w V hl' Q y J=>?_)) (M.put hj) ?_ E ?_)
  ·refine avjno d' (λh=>?_) (c.dst j' o' d' hm' V hl' S)
   have:=B.look j' j o' n d' hm' w V l S h;rw[noedge j' o' V hl']at this;cases this
  ·exact avjno s (λh=>w ((gy J).2 j' j o' n V l (dc y) h)) (c.mv j' o' T s hm' V hl' Q y J)
  ·refine⟨f.dst,f.lt,f.self,λe he=>?_,f.mvl,λF' hA S hs' K' hK=>f.at_ F' (λt A=>?_) S hs' K' hK⟩
   ·rcases f.from_ e he with h|⟨t,A,h⟩
    ·exact .inl h
    exact .inr ⟨t,A,by rw[looki t A];exact h⟩
   obtain⟨a1,a2⟩:=hA t A;rw[looki t A]at a1 a2;refine⟨a1,λt' D k cs hh=>a2 t' D k cs ?_⟩;have w:t'≠r:=λe=>by rw[e,cdj t]at D;cases D
   have E:mvj≠some t':=λe=>by rw[(cmj t' e).1 t]at D;cases D
   unfold eff;rw[C9 w,C9 E];exact hh
  rw[Array.setIfInBounds_comm _ _ g];have:eff q d av (eff mvj r avj F)=eff mvj r avj (eff q d av F):=by
   funext t
   unfold eff;by_cases e1:t=d
   ·have Q:t≠r:=λe=>hdne (e1.symm.trans e)
    have y:mvj≠some t:=λe=>hdl (e1 ▸ (cmj t e).2.2)
    simp only[CB e1,C9 Q,C9 y]
   rw[C9 e1];by_cases e2:t=r
   ·have y:q≠some t:=λe=>hdjl (e2 ▸ (cmv t e).2.2)
    simp only[CB e2,C9 y]
   simp only[C9 e2,C9 e1];by_cases e3:q=some t
   ·by_cases e4:mvj=some t
    ·simp only[CB e3,CB e4]
    simp only[CB e3,C9 e4]
   by_cases e4:mvj=some t
   ·simp only[C9 e3,CB e4]
   simp only[C9 e3,C9 e4]
  rw[this];exact hKj
def Bl:∀{g:List Nat}{X:Prop}{F:Nat->AV},Nk P TE ops g X F->X/\∀p,p∈g->Ro P TE ops p F
 | [],X,F,h=>⟨h,λp k=>by cases k⟩
 | p::l,X,F,h=>by
  simp only[Nk]at h;unfold T5 at h;cases c:(de ops p).dst with
  | none=>rw[c]at h;exact h.elim
  | some d=>
   rw[c]at h;simp only at h;cases f:GV F (de ops p) with
   | some q=>rw[f]at h;exact h.elim
   | none=>
    rw[f]at h;simp only at h;obtain⟨i,j,-,-⟩:=kj h;obtain⟨e,n,b⟩:=(show i=F d/\X/\∀p,p∈l->Ro P TE ops p F from⟨j.out.1,Bl j.out.2⟩)
    refine⟨n,λo a=>?_⟩;rcases List.mem_cons.1 a with rfl|a
    ·exact⟨d,c,f,tR h λi h=>h.out.1⟩
    exact b o a
def qn{l:List (Nat × List Nat)}{i:Nat} : q8 l i=true↔∃p,p∈l/\p.1=i:=by
 unfold q8;rw[t4];exact⟨λ⟨p,a,b⟩=>⟨p,a,C2 b⟩,λ⟨p,a,b⟩=>⟨p,a,by rw[b];exact Nat.beq_refl i⟩⟩
def ll{k:Nat × List Nat}{l:List (Nat × List Nat)}{i:Nat} : q8 (k::l) i=(Nat.beq k.1 i || q8 l i):=rfl
def DP(f:RX ops ds nm){K:(Nat->AV)->Prop} : ∀(l:List (Nat × List Nat))(listed:Array Bool)(F:Nat->AV),Gj ops ds l=true->listed.size=ops.size->(∀j,j<ops.size->listed.getD j true = !q8 l j)->mG ops ds F listed->DC ops listed->
  Ks P TE N ops ds nm l K F->EA P TE N ops ds K l.length listed F
 | [],listed,F,_,hs,g,_,_,w=>by
  refine⟨?_,w⟩;apply List.eq_nil_iff_forall_not_mem.2;intro j hj;obtain⟨h1,o,ho,-⟩:=mem_ready.1 hj;have y:=(V3.1 ho).1;rw[g j y]at h1;cases h1
 | k::l,listed,F,Q,hs,g,n,L,w=>by
  simp only[Gj,I0]at Q;obtain⟨⟨⟨⟨q1,q2⟩,q3⟩,q4⟩,q5⟩:=Q;have hk:k.1<ops.size:=by simpa[Nat.blt_eq] using q1
  have u:ops[k.1]? = some ops[k.1]:=U6 hk;have hrf:∀i,i<ops.size->listed.getD i true=true->listed.getD i false=true:=λi hi h=>by
   have h2:i<listed.size:=ω
   simp[h2]at h |-;exact h
  have hready:k.1∈Region.ready .any ops listed:=mem_ready.2 ⟨by rw[g k.1 hk,ll,Nat.beq_refl];rfl,_,u,λe he hb=>by
    have y:=f.back k.1 _ u e he hb;have hx:=q3;rw[bc u]at hx;have h3:=v4.1 hx e (by simpa using he);rw[hb]at h3;refine hrf e.on ω ?_;rw[g e.on ω,ll];simpa using h3⟩
  have A:∀j,j<ops.size->(listed.setIfInBounds k.1 true).getD j true = !q8 l j:=λj hj=>by
   by_cases B:j=k.1
   ·subst B
    have:q8 l k.1=false:=by simpa using q2
    rw[this];simp[hs,hj]
   rw[getD_set_ne true (Ne.symm B),g j hj,ll,show Nat.beq k.1 j=false by rw[<-U5,Nat.beq_eq];exact Ne.symm B];rfl
  show EA P TE N ops ds K (l.length+1) listed F;simp only[Ks]at w;rw[bc u]at w q4;have S:listed.getD k.1 true=false:=(mem_ready.1 hready).1;cases a:oP ds ops[k.1] with
  | true=>
   rw[a]at w;simp only[cond_true]at w;obtain⟨mv,d,av,hy,w,hnm⟩:=K9 w (λd hd=>n.dst k.1 _ d a u S hd) (λT s g1 g2 g3=>n.mv k.1 _ T s a u S g1 g2 g3);have b:∀e∈ops[k.1].after,Region.binds .any e=true->listed.getD e.on false=true:=by
    obtain⟨-,R,U,b⟩:=mem_ready.1 hready;rw[u]at U;simp only[Z0]at U;subst U;exact b
   refine Hd f u a l.length listed F mv av hready n L hy hnm (DP f l _ _ q5 (by simpa using hs) A (n.put (λM R d' r C c hl'' V=>?_) (λM R T s r C c hl'' g1 g2 g3=>?_)) (L.put hready) w)
   ·cases hu:av.uses d' with
    | false=>rfl
    | true=>
     rcases hy.from_ d' hu with h|⟨t,_,h⟩
     ·have:=f.look M k.1 R _ d' r C c u V h
      obtain⟨e,W,X,Y⟩:=cu.1 this;exact(unl hl'' (Y ▸ b e W X)).elim
     rw[n.dst M R d' r c hl'' V t]at h;cases h
   cases hu:av.uses s with
   | false=>rfl
   | true=>
    rcases hy.from_ s hu with h|⟨t,_,h⟩
    ·exact absurd ((gy g3).2 M k.1 R _ c u (dc g2) h) C
    rw[n.mv M R T s r c hl'' g1 g2 g3 t]at h;cases h
  | false=>
   rw[a]at w q4;simp only[cond_false]at w;simp only[Bool.false_or,I0]at q4;obtain⟨⟨r1,r2⟩,r3⟩:=q4;refine⟨λh=>(by rw[h]at hready;cases hready),λj hj=>?_⟩;obtain⟨D,oj,E,b⟩:=mem_ready.1 hj;have hjlt:=(V3.1 E).1;have B:j=k.1:=by
    rw[g j hjlt,ll]at D;cases hb:Nat.beq k.1 j with
    | true=>exact(C2 hb).symm
    | false=>
     rw[hb]at D;obtain⟨p,G,rfl⟩:=qn.1 (show q8 l j=true by simpa using D);exact(unl S (pU f L E b (v4.1 r1 p G))).elim
   subst B;rw[u]at E;simp only[Z0]at E;subst E;unfold v8;rw[u];simp only[a,C9 (show ¬false=true by decide)];have post:∀J,Nk P TE ops k.2 (Ks P TE N ops ds nm l K J) J->mG ops ds J (listed.setIfInBounds k.1 true)->(∀p,listed.getD p false=true->oP ds (de ops p)=true->vY ops k.1 p=false->Ro P TE ops p J)/\EA P TE N ops ds K l.length (listed.setIfInBounds k.1 true) J:=λJ Z hcl1=>by
    obtain⟨hrun,hrd⟩:=Bl Z;refine⟨λp G hp2 hp3=>hrd p ?_,DP f l _ _ q5 (by simpa using hs) A hcl1 (L.put hready) hrun⟩;have hpl:p<ops.size:=by
     rcases Nat.lt_or_ge p ops.size with h|h
     ·exact h
     rw[show de ops p=default by simp[de,W6,Array.getElem?_eq_none h]]at hp2;cases hp2
    have h4:=gW r2 hpl;rw[hp2,hp3]at h4;have hml:q8 l p=false:=by
     rw[<-U5];intro hm;have:listed.getD p true=false:=by rw[g p hpl,ll,hm];simp
     exact unl this G
    rw[hml]at h4;simp only[Bool.not_true,Bool.false_or]at h4;obtain⟨x,O,q⟩:=t4.1 h4;exact C2 q ▸ O
   cases hlater:l.any (λj=>oP ds (de ops j.1)) with
   | false=>
    refine kr w λJ Z=>post J Z ⟨λM R d' r c hl'' V=>?_,λM R T s r c hl''=>?_⟩
    all_goals
     exfalso;have hj'lt:=(V3.1 c).1;rw[A M hj'lt]at hl'';obtain⟨p,G,rfl⟩:=qn.1 (show q8 l M=true by simpa using hl'');have:l.any (λj=>oP ds (de ops j.1))=true:=t4.2 ⟨p,G,by rw[bc c];exact r⟩;rw[this]at hlater;cases hlater
   | true=>
    rw[hlater]at r3;simp only[Bool.not_true,Bool.false_or,I0]at r3;obtain⟨x,O,q⟩:=t4.1 hlater;have H:listed.getD x.1 true=false/\x.1<ops.size:=by
     have y:x.1<ops.size:=by
      rcases Nat.lt_or_ge x.1 ops.size with h|h
      ·exact h
      rw[show de ops x.1=default by simp[de,W6,Array.getElem?_eq_none h]]at q;cases q
     refine⟨?_,y⟩;rw[g x.1 y,ll,qn.2 ⟨x,O,rfl⟩];simp
    have hx0:ops[x.1]? = some ops[x.1]:=U6 H.2;rw[bc hx0]at q;obtain⟨d,hd,hdd⟩:=JY q;have hxk:x.1≠k.1:=λe=>by
     have:q8 l k.1=true:=qn.2 ⟨x,O,e⟩;rw[this]at q2;cases q2
    refine kr (QP (d:=d) (xP r3.1) r3.2 (λe=>?_) (λhlk=>?_) (n.dst x.1 _ d q hx0 H.1 hd) w) λJ h1=>post J h1.1 (n.us f u b h1.2)
    ·unfold oP at a
     rw[e]at a;simp only at a;rw[hdd]at a;cases a
    have:=f.look x.1 k.1 _ _ d q hxk hx0 u hd hlk;obtain⟨e,W,X,Y⟩:=cu.1 this;exact unl H.1 (Y ▸ b e W X)
def DY{sch:List (Nat × List Nat)}(h:Dx ops ds sch=true):RX ops ds (TA sch)/\Gj ops ds sch=true/\sch.length=ops.size/\∀j,j<ops.size->q8 sch j=true:=by
 unfold Dx at h;simp only[I0]at h;obtain⟨⟨t,o⟩,p⟩:=h;have q:=λj (k:j<ops.size)=>gW t k
 have r:∀(i j:Nat)(g f:Oper),i≠j->ops[i]? = some g->ops[j]? = some f->B2 ops ds (TA sch) i j=true:=λi j g f a b c=>by
  have:=q j (V3.1 c).1;simp only[I0]at this;have:=gW this.2 (V3.1 b).1;rw[show Nat.beq i j=false by rw[<-U5,Nat.beq_eq];exact a]at this;exact this
 refine⟨⟨λj f k e u w=>?_,λi j g f l n a b c=>?_,λi j g f d l a b c y D=>?_,λi j g f d l n a b c y u=>?_,λi j g f l n a b c=>?_,λj f T s l k A B=>?_⟩,p,C2 o,λj k=>?_⟩
 ·have:=q j (V3.1 k).1
  rw[bc k]at this;simp only[I0]at this;have:=v4.1 this.1.1.1 e (by simpa using u);rw[w]at this;simpa[Nat.blt_eq] using this
 ·have:=r i j g f a b c
  unfold B2 at this;rw[bc b,bc c,l,n]at this;simp only[cond_true,I0,O6]at this;rcases this.1.1 with(h|h)|h
  ·exact .inl h
  ·exact .inr (.inl h)
  exact .inr (.inr h)
 ·have:=r i j g f a b c
  unfold B2 at this;rw[bc b,bc c,l]at this;have C:tU ops i j=true:=by
   unfold tU;rw[bc b,y];simp only;rw[bc c];exact t4.2 ⟨d,D,Nat.beq_refl d⟩
  rw[C]at this;cases n:oP ds f with
  | true=>
   rw[n]at this;simp only[cond_true,I0,Bool.not_true,Bool.false_or]at this;exact this.1.2
  | false=>
   rw[n]at this;simp only[cond_true,cond_false,I0,Bool.not_true,Bool.false_or]at this;exact this.2
 ·have:=r i j g f a b c
  unfold B2 at this;rw[bc b,bc c,l,n,y,u]at this;simp[Nat.beq_refl]at this
 ·have:=r i j g f a b c
  unfold B2 at this;rw[bc b,bc c,l,n]at this;simp only[cond_true,cond_false,I0,O6]at this;rcases this.1 with(h|h)|h
  ·exact .inl h
  ·exact .inr (.inl h)
  exact .inr (.inr h)
 ·have:=q j (V3.1 k).1
  rw[bc k]at this;simp only[I0]at this;have:=this.1.2;rw[l,A]at this;simp only[B,Bool.not_true,Bool.false_or]at this;exact this
 have:=q j k;simp only[I0]at this;exact this.1.1.2
def qq{l:List Nat}{j:Nat} : Du l j=true↔j∈l:=by
 unfold Du;rw[t4];exact⟨λ⟨x,a,b⟩=>C2 b ▸ a,λh=>⟨j,h,Nat.beq_refl j⟩⟩
def Fn{p:Nat->Prop} : ∀{l:List Nat}{i:Nat},TC p i l->∀j,j∈i::l->p j
 | [],i,h,j,a=>by rw[O1.1 a];exact h
 | k::l,i,h,j,a=>by
  rcases List.mem_cons.1 a with rfl|a
  ·exact h.1
  exact Fn h.2 j a
def FD{l:List Nat}{K:Prop}{p:Nat->Prop}(h:TO l K p):(l=[]->K)/\∀j∈l,p j:=by
 cases l with
 | nil=>exact⟨λ_=>h,λj a=>by cases a⟩
 | cons i l=>exact⟨λe=>(by cases e),Fn h⟩
def rP{listed:Array Bool}{done:List Nat}(t:listed.size=ops.size)(b:∀j,j<ops.size->listed.getD j true=Du done j)(q:∀k∈done,k<ops.size){j:Nat} : j∈Region.ready .any ops listed↔j∈Ms ops done:=by
 have d:∀i,listed.getD i false=Du done i:=λi=>by
  by_cases n:i<ops.size
  ·rw[<-b i n]
   have f:i<listed.size:=ω
   simp[f]
  have f:listed.getD i false=false:=by simp[Array.getElem?_eq_none (show listed.size<=i by omega)]
  rw[f]
  symm
  rw[<-U5,qq];exact λr=>n (q i r)
 rw[mem_ready];unfold Ms;rw[U4,List.mem_range,I0];constructor
 ·rintro⟨l,o,p,g⟩
  have a:=(V3.1 p).1;refine⟨a,by rw[<-b j a,l];rfl,v4.2 λe h=>?_⟩;rw[bc p]at h;cases c:Region.binds .any e with
  | false=>rfl
  | true=>
   have:=g e (by simpa using h) c;rw[d]at this;simpa using this
 rintro⟨a,l,f⟩
 refine⟨by rw[b j a];simpa using l,ops[j],U6 a,λe h c=>?_⟩;have:=v4.1 f e (by rw[bc (U6 a)];simpa using h);rw[c]at this;rw[d];simpa using this
def QU{K:(Nat->AV)->Prop} : ∀(n:Nat)(done:List Nat)(listed:Array Bool)(F:Nat->AV),listed.size=ops.size->(∀j,j<ops.size->listed.getD j true=Du done j)->(∀k∈done,k<ops.size)->Rt P TE N ops K n done F->EA P TE N ops [] K n listed F
 | 0,done,listed,F,c,a,d,h=>by
  obtain⟨o,q⟩:=FD h;have l:Ms ops done=[]:=List.eq_nil_iff_forall_not_mem.2 λj b=>q j b
  exact⟨List.eq_nil_iff_forall_not_mem.2 λj b=>(by rw[rP c a d,l]at b;cases b),o l⟩
 | n+1,done,listed,F,c,a,d,h=>by
  obtain⟨o,q⟩:=FD h;refine⟨λl=>o (List.eq_nil_iff_forall_not_mem.2 λj b=>(by rw[<-rP c a d,l]at b;cases b)),λi y=>?_⟩;have f:=(rP c a d).1 y;have t:=q i f;have g:i<ops.size:=List.mem_range.1 (U4.1 f).1;have u:ops[i]? = some ops[i]:=U6 g;unfold v8;rw[u];simp only;rw[bc u]at t;have A:oP [] ops[i]=false:=by unfold oP;split<;>rfl
  rw[C9 (by rw[A];decide)];refine kr t λB C=>⟨λp _ w=>?_,QU n (i::done) _ B (by simpa using c) (λj b=>?_) (λk r=>?_) C⟩
  ·have:oP [] (de ops p)=false:=by unfold oP;split<;>rfl
   rw[this]at w;cases w
  ·by_cases e:j=i
   ·subst e
    rw[show Du (j::done) j=true from qq.2 (W1 ..)];simp[c,b]
   rw[getD_set_ne true (Ne.symm e),a j b];rw[Y4,qq,qq,List.mem_cons];exact⟨.inr,λh=>h.resolve_left e⟩
  rcases List.mem_cons.1 r with rfl|r
  ·exact g
  exact d k r
def xp(g:∀t i,TE t=some i->bQ P t i)(C:P.follows .mixedOrders=true){id:Nat}{tb:List (Nat × Nat × List Nat)}(b:mJ tb id ops=true){K:(Nat->AV)->Prop}{Q:Exit->Act->World->Prop}(c:DD P TE N tb id ops K F)(D:St w0 M S0 N F a w)(E:∀F' U V,K F'->St w0 M S0 N F' U V->Q .normal U V):(Code.region id ops true).wp P Q a w:=by
 unfold mJ at b;unfold DD at c;cases q:xK tb id with
 | none=>rw[q]at b;cases b
 | some p=>
  obtain⟨m,L⟩:=p;rw[q]at b c;simp only at b c;cases r:Nat.ble 65536 m with
  | true=>
   rw[r]at c;refine wp_region_any C ?_;have l:St w0 M S0 N F a {w with drawn:=w.drawn+1}:=by
    obtain⟨S,φ,h⟩:=D;exact⟨S,φ,h.more (w1:={w with drawn:=w.drawn+1}) (λ_ _ h=>h) (λ_ _ h=>.inl h) ⟨rfl,rfl,rfl,C3 _,λ_ _ _=>rfl,λ_ _ _ _=>rfl,λ_ _ _ _=>rfl⟩⟩
   refine rA g (ds:=[]) E ops.size (Array.replicate ops.size false) _ a _ ?_ l;exact QU ops.size [] _ F (by simp) (λj n=>by simp[n,Du]) (λk Z=>by cases Z) c
  | false=>
  rw[r]at b c;simp only[cond_false]at b c;cases u:Nat.ble 256 m with
  | false=>
   rw[u]at b c;exact Ed g C b c D E
  | true=>
   rw[u]at b c;simp only[cond_true,Jc]at b c;generalize L.take (m - 256)=ds at b c;generalize dec (L.drop (m - 256))=sch at b c;obtain⟨W,y,e,A⟩:=DY b;refine wp_region_any C ?_;have l:St w0 M S0 N (Ab.clr ds F) a {w with drawn:=w.drawn+1}:=by
    have h1:=D.clr ds;obtain⟨S,φ,h⟩:=h1;exact⟨S,φ,h.more (w1:={w with drawn:=w.drawn+1}) (λ_ _ h=>h) (λ_ _ h=>.inl h) ⟨rfl,rfl,rfl,C3 _,λ_ _ _=>rfl,λ_ _ _ _=>rfl,λ_ _ _ _=>rfl⟩⟩
   refine rA g (ds:=ds) E ops.size (Array.replicate ops.size false) _ a _ ?_ l;have B:∀d,ds.any (Nat.beq d)=true->∀t,(Ab.clr ds F t).uses d=false:=λd G t=>by
    rw[Dy];cases X:ds.any (λd=>(F t).uses d) with
    | true=>rfl
    | false=>
     simp only[cond_false];cases hu:(F t).uses d with
     | false=>rfl
     | true=>
      obtain⟨d',f,he⟩:=t4.1 G;have H:=C2 he;subst H;have:ds.any (λd=>(F t).uses d)=true:=t4.2 ⟨_,f,hu⟩;rw[this]at X;cases X
   rw[<-e];refine DP W sch _ _ y (by simp[e]) (λj n=>by rw[A j n];simp[e,n]) ⟨λj o d J Y _ G t=>?_,λj o T s J Y _ _ g2 g3 t=>B s (W.mvs j o T s J Y g2 g3) t⟩ (λj oj n hl=>by
     have O:=(V3.1 n).1;simp[e,O]at hl) c
   obtain⟨d',f,R⟩:=JY J;rw[G]at f;simp only[Z0]at f;subst f;exact B d R t
end
def g9:List (Option Nat)->Kd
 | [ag]=>jY ag
 | a=>.tup a
def oR:ResultVar->Nat
 | .tmp t=>t
 | .cell t _=>t
def AK(tmps:Array Value):ResultVar->Sem Value
 | .tmp t=>pure (tmps.getD t undef)
 | .cell a t=>do loadVar t (<-asAddr (tmps.getD a undef))
def resOne(TE:Nat->Option TI)(F:Nat->AV)(r:ResultVar)(K:Option Nat->List C->Prop):Prop:=
 match r with
 | .tmp t=>(match F t with
   | .H .one cs=>K none cs
   | .H .agg cs=>K (some cs.length) cs
   | _=>False)
 | .cell t T=>match TE T with
  | some i=>bif i.agg || Nat.beq i.size 1 then(match F t with
    | .H .box cs=>bif Nat.beq cs.length i.size then K (qA i) cs else False
    | _=>False) else False
  | none=>False
def resA(TE:Nat->Option TI)(F:Nat->AV):List ResultVar->List Nat->(List (Option Nat)->List C->Prop)->Prop
 | [],_,K=>K [] []
 | r::rs,seen,K=>bif seen.any (Nat.beq (oR r)) then False else resOne TE F r λb c=>resA TE F rs (oR r::seen) λd a=>K (b::d) (c++a)
def TR:RA->AV
 | .val a cs=>.H (jY a) cs
 | .ptr cs=>.iref cs 0
 | .fn Ok=>.fv Ok
def wa:Nat->List RA->List (Nat × AV)
 | _,[]=>[]
 | i,A::As=>(i,TR A)::wa (i+1) As
inductive LO:C->C->Prop
 |rfl_ (c:C):LO c c
 |z_:LO .z (.s .own [])
 |own_ (rows rows':List (List C)) (hl:rows.length=rows'.length) (hk:∀(i:Nat)(r r':List C),rows[i]? = some r->rows'[i]? = some r'->r.length=r'.length)
   (hr:∀(i j:Nat)(r r':List C)(c c':C),rows[i]? = some r->rows'[i]? = some r'->r[j]? = some c->r'[j]? = some c'->LO c c'):LO (.s .own rows) (.s .own rows')
def P0(cs a:List C):Prop:=cs.length=a.length/\∀(j:Nat)(c b:C),cs[j]? = some c->a[j]? = some b->LO c b
def P0.nil:P0 [] []:=⟨rfl,λj c a h=>by simp at h⟩
def P0.cons{c e:C}{cs a:List C}(h:LO c e)(f:P0 cs a):P0 (c::cs) (e::a):=by
 refine⟨by simp[f.1],λj y g b d=>?_⟩;cases j with
 | zero=>simp at b d;subst b d;exact h
 | succ j=>exact f.2 j y g (by simpa using b) (by simpa using d)
def LO.rep{n:Nat}{r k:List C}(h:P0 r k):LO (.s .own (List.replicate n r)) (.s .own (List.replicate n k)):=by
 refine .own_ _ _ (by simp) (λi a b d e=>?_) (λi j a b c p d e l o=>?_)
 ·have f:=List.mem_replicate.1 (Z1 d)
  have g:=List.mem_replicate.1 (Z1 e);rw[f.2,g.2];exact h.1
 have f:=List.mem_replicate.1 (Z1 d);have g:=List.mem_replicate.1 (Z1 e);rw[f.2]at l;rw[g.2]at o;exact h.2 j c p l o
def PY{w:World}{S Y:ah}{c:C}{v:Value}(h:fg w S Y c v):∀y,LO c y->fg w S Y y v:=by
 induction h with
 | z F a=>
  intro y l;cases l with
  | rfl_=>exact .z _ _
  | z_=>exact .nil _ _ _ trivial
 | nil F o a T=>
  intro y l;cases l with
  | rfl_=>exact .nil _ _ _ T
  | own_ d e L=>obtain rfl:e=[]:=S7 (by simpa using L.symm);exact .nil _ _ _ trivial
 | own F o g k n B d u f T Q R q E K hu hf l M ih=>
  intro y U;cases U with
  | rfl_=>exact .own _ o g k n B d u f T Q R q E K hu hf l M
  | own_ d e L N V=>
   have G:∀(i:Nat)(D:List C),e[i]? = some D->∃r,d[i]? = some r:=λi D H=>⟨_,I2 (by have:=(O2.1 H).1;omega)⟩
   refine .own _ .own g k n B e u f trivial (L.symm.trans Q) (λD W=>?_) q E K hu hf l (λi j D y H hj=>?_)
   ·obtain⟨i,H⟩:=List.mem_iff_getElem?.1 W
    obtain⟨r,t⟩:=G i D H;rw[<-N i r D t H];exact R r (Z1 t)
   obtain⟨r,t⟩:=G i D H;have hlen:=N i r D t H;have hjl:=(O2.1 hj).1;have O:r[j]? = some (r[j]'(ω)):=I2 ω;exact ih i j r _ t O _ (V i j r D _ y t H O hj)
 | v F x X=>intro y l;cases l;exact .v _ _ X
 | x F u X=>intro y l;cases l;exact .x _ _ X
 | X F g Z k n B d u Q R q hS M ih=>intro y l;cases l;exact .X _ g Z k n B d u Q R q hS M
 | m F b p es A K hb he hv J=>intro y l;cases l;exact .m _ b p es A K hb he hv J
 | it F r b since c0 p seen A cur left K V hb J M hv L P=>intro y l;cases l;exact .it _ r b since c0 p seen A cur left K V hb J M hv L P
def WK(cs a:List C):Prop:=M0 cs a\/P0 cs a
inductive jG(k k':Kd)(cs cs':List C):Prop
 |mk_ (h:k=k'/\WK cs cs')
def mP:∀(cs:List C),M0 cs cs
 | []=>trivial
 | c::cs=>by
  refine⟨?_,mP cs⟩;cases c with
  | s o a=>cases o<;>rfl
  | x=>trivial
  | _=>rfl
def jG.mk{k b:Kd}{cs a:List C}(h1:k=b)(c:cs=a):jG k b cs a:=by refine .mk_ ?_;exact⟨h1,.inl (c ▸ mP cs)⟩
def jG.wk{k b:Kd}{cs a:List C}(h1:k=b)(c:M0 cs a):jG k b cs a:=.mk_ ⟨h1,.inl c⟩
def jG.dk{k b:Kd}{cs a:List C}(h1:k=b)(c:P0 cs a):jG k b cs a:=.mk_ ⟨h1,.inr c⟩
def jG.out{k b:Kd}{cs a:List C}(h:jG k b cs a):k=b/\WK cs a:=by obtain⟨h⟩:=h;exact h
def WK.len{cs a:List C}(h:WK cs a):cs.length=a.length:=h.elim (λh=>(tf h).1) (λh=>h.1)
def WK.row{w:World}{S Y:ah}{cs c:List C}{u:Nat->Value}(a:WK cs c)(h:cV w S Y cs u):cV w S Y c u:=by
 rcases a with a|a
 ·exact Ee a h
 obtain⟨f,k,l,n⟩:=h;refine⟨f,λj i b=>?_,λj b=>l j (by rw[a.1];exact b),λj o b g=>n j o (by rw[a.1];exact b) (by rw[a.1];exact g)⟩;have d:=(O2.1 b).1;have e:cs[j]? = some (cs[j]'(by rw[a.1];exact d)):=I2 (by rw[a.1];exact d);exact PY (k j _ e) i (a.2 j _ i e b)
def QF(TE:Nat->Option TI)(c:List ResultVar)(k:Kd)(rcs:List C):Exit->(Nat->AV)->Prop:=λe F=>
 match e with
 | .normal=>resA TE F c [] λa b=>jG (g9 a) k b rcs
 | .ret=>resA TE F c [] λa b=>jG (g9 a) k b rcs
 | _=>False
def QH(F:Nat->AV)(t:Nat)(rcs:List C):Prop:=
 match F t with
 | .H .box cs=>jG .box .box cs rcs
 | .ref a 0 []=>(match F a with
   | .H .box cs=>jG .box .box cs rcs
   | _=>False)
 | _=>False
def Tt(t:Nat)(rcs:List C):Exit->(Nat->AV)->Prop:=λe F=>
 match e with
 | .normal=>QH F t rcs
 | .ret=>QH F t rcs
 | _=>False
section
variable{P:Program}{w0 w w1:World}{M S0 S:ah}{N:fC}{φ:Nat->ah}{F:Nat->AV}{a:Act}{TE:Nat->Option TI}
def bj.resOne(h:bj w0 M S0 N S φ F a w)(u:∀t i,TE t=some i->bQ P t i){r:ResultVar}{K:Option Nat->List C->Prop}(b:resOne TE F r K) :
  ∃ag cs v,K ag cs/\bM w S (φ (oR r)) ag cs v/\(AK a.tmps r).run P w=.ok v w:=by
 cases r with
 | tmp t=>
  have e:=h.slot t;simp only[Ab.resOne]at b;cases f:F t with
  | H k cs=>
   rw[f]at b e;obtain⟨G,Y,H,l,J,E,n⟩:=e;cases k with
   | one=>exact⟨none,cs,tvs a t,b,⟨E,_,rfl,n.mono (λ_ _ h=>h) l⟩,rfl⟩
   | agg=>
    obtain⟨arr,p,y⟩:=E;refine⟨some cs.length,cs,tvs a t,b,⟨rfl,cg w .agg (tvs a t),?_,n.mono (λ_ _ h=>h) l⟩,rfl⟩;rw[p];have:=ql arr;rw[y]at this;exact this
   | _=>exact b.elim
  | _=>rw[f]at b;exact b.elim
 | cell t T=>
  have e:=h.slot t;simp only[Ab.resOne]at b;split at b
  case h_2=>exact b.elim
  rename_i i L;have O:=u _ _ L;cases q:(i.agg || Nat.beq i.size 1) with
  | false=>rw[q]at b;exact b.elim
  | true=>
   rw[q]at b;simp only[cond_true]at b;cases f:F t with
   | H k cs=>
    rw[f]at b e;cases k with
    | box=>
     simp only at b;cases A:Nat.beq cs.length i.size with
     | false=>rw[A]at b;exact b.elim
     | true=>
      rw[A]at b;have B:=C2 A;obtain⟨G,Y,H,l,J,⟨g,o,p,Q⟩,n⟩:=e;have c:∀d,d<i.size->cel w g (o+d)=some (cg w .box (tvs a t) d):=λd U=>by
       obtain⟨-,⟨z,R⟩,-⟩:=Q d ω;rw[p];simp only[cg,R,Option.getD_some]
      have j:=yy (w:=w) O q c;refine⟨_,cs,_,b,⟨by rw[p9 q];exact B,_,rfl,n.mono (λ_ _ h=>h) l⟩,?_⟩;have D:a.tmps.getD t undef=.pointer (some ⟨g,o,none⟩):=p;simp only[AK,D,asAddr];exact j
    | _=>exact b.elim
   | _=>rw[f]at b;exact b.elim
def Hf{ag:Option Nat}{cs:List C}{v:Value}{Y:ah}(h:bM w S Y ag cs v):∃u,v.cells.toList=(List.range cs.length).map u/\cV w S Y cs u/\v=mkv ag u:=by
 obtain⟨a,u,rfl,b⟩:=h;refine⟨u,?_,b,rfl⟩;rw[qu (λe=>by subst e;exact b.one (by simp at a;omega)),a]
def GT{p q:ah}{cs l:List C}{u D:Nat->Value}(h:cV w S p cs u)(h':cV w S q l D)(E:∀b o,p b o->¬q b o) :
  cV w S (λb o=>p b o\/q b o) (cs++l) (λj=>if j<cs.length then u j else D (j - cs.length)):=by
 obtain⟨f,F,r,G⟩:=h;obtain⟨H,t,k,y⟩:=h';refine⟨λj=>if j<cs.length then f j else H (j - cs.length),λj c i=>?_,λj i b o g=>?_,λj n i A B b o g a=>?_⟩
 ·by_cases e:j<cs.length
  ·simp only[CB e];rw[V4 e]at i;exact F j c i
  simp only[C9 e];rw[W4 ω]at i;exact t _ c i
 ·rw[O3]at i
  by_cases e:j<cs.length
  ·rw[CB e]at g;exact .inl (r j e b o g)
  rw[C9 e]at g;exact .inr (k _ ω b o g)
 rw[O3]at i A;by_cases e:j<cs.length
 ·rw[CB e]at g
  by_cases d:n<cs.length
  ·rw[CB d]at a;exact G j n e d B b o g a
  rw[C9 d]at a;exact E b o (r j e b o g) (k _ ω b o a)
 rw[C9 e]at g;by_cases d:n<cs.length
 ·rw[CB d]at a;exact E b o (r n d b o a) (k _ ω b o g)
 rw[C9 d]at a;exact y _ _ ω ω ω b o g a
def bj.resA(h:bj w0 M S0 N S φ F a w)(l:∀t i,TE t=some i->bQ P t i):∀{E:List ResultVar}{seen:List Nat}{K:List (Option Nat)->List C->Prop},resA TE F E seen K->
  ∃sh cs vs u,K sh cs/\(E.mapM (AK a.tmps)).run P w=.ok vs w/\y5 sh vs/\sh.length=E.length/\oW sh=cs.length/\
   (vs.flatMap λv=>v.cells.toList)=(List.range cs.length).map u/\(∀ag,sh=[ag]->∃v,vs=[v]/\bM w S (λb o=>∃t,t∉seen/\φ t b o) ag cs v)/\cV w S (λb o=>∃t,t∉seen/\φ t b o) cs u
 | [],seen,K,f=>⟨[],[],[],λ_=>undef,f,rfl,trivial,rfl,rfl,rfl,λ_ h=>by simp at h,cV.nil _ _ _ _⟩
 | r::E,seen,K,f=>by
  simp only[Ab.resA]at f;cases c:seen.any (Nat.beq (oR r)) with
  | true=>rw[c]at f;exact f.elim
  | false=>
   rw[c]at f;simp only[cond_false]at f;have p:oR r∉seen:=λH=>by
    have:seen.any (Nat.beq (oR r))=true:=t4.2 ⟨_,H,Nat.beq_refl _⟩;rw[this]at c;cases c
   obtain⟨ag,cs,v,f,G,q⟩:=h.resOne l f;obtain⟨sh,d,vs,X,Y,k,J,L,U,hcells,-,y⟩:=bj.resA h l f;obtain⟨u,O,V,A⟩:=Hf G;have Z:∀b o,φ (oR r) b o->¬∃t,t∉oR r::seen/\φ t b o:=λb o g ⟨t,Q,R⟩=>h.dis _ _ (λe=>Q (by rw[<-e];simp)) b o g R
   refine⟨ag::sh,cs++d,v::vs,λj=>if j<cs.length then u j else X (j - cs.length),Y,?_,?_,by simp[L],?_,?_,?_,?_⟩
   ·rw[List.mapM_cons]
    simp only[Sem.run_bind,q,Result.andThen_ok,k,Sem.run_pure]
   ·obtain⟨hl,-⟩:=G
    cases ag with
    | none=>
     refine⟨?_,J⟩;rw[A];have W:(u 0).oneCell'=true:=V.one (by simp at hl;omega);show(u 0).cells = #[u 0];cases hu:u 0<;>first|(rw[hu]at W;cases W;done)|rfl
    | some n=>exact⟨⟨_,by rw[A];rfl,by simp⟩,J⟩
   ·rw[rk,O3,U,G.1]
   ·simp only[X6,O,hcells,O3]
    apply List.ext_getElem?;intro j;by_cases T:j<cs.length
    ·rw[V4 (by simpa using T)];simp[T,Nat.lt_add_right]
    rw[W4 (by simp;omega)];by_cases B:j - cs.length<d.length
    ·simp[T,B,show j<cs.length+d.length by omega]
    simp[B,show ¬j<cs.length+d.length by omega]
   ·intro ag' D
    simp only[List.cons.injEq]at D;obtain⟨rfl,rfl⟩:=D;cases vs with
    | cons _ _=>exact J.elim
    | nil=>
     have:d=[]:=S7 (by simpa[oW] using U.symm);subst this;exact⟨v,rfl,by rw[List.append_nil];exact G.mono (λ_ _ h=>h) (λb o g=>⟨_,p,g⟩)⟩
   exact(GT V y Z).mono (λ_ _ h=>h) (λb o g=>g.elim (λg=>⟨_,p,g⟩) (λ⟨t,Q,g⟩=>⟨t,λH=>Q (O5 _ H),g⟩))
def vg:∀{A:List RA}{vs:List Value}(i:Nat),zi w S A vs->∀t,(lay (wa i A) t=.dead)\/(∃a v,i<=t/\vs[t - i]? = some v/\lay (wa i A) t=TR a/\oZ w S a v)
 | [],_,i,_,t=>.inl rfl
 | a::A,[],i,h,t=>h.elim
 | a::A,v::vs,i,h,t=>by
  simp only[wa,lay];cases b:Nat.beq t i with
  | true=>
   have:=C2 b;subst this;exact .inr ⟨a,v,C3 _,by simp,rfl,h.1⟩
  | false=>
   have d:t≠i:=λe=>by subst e;rw[Nat.beq_refl]at b;cases b
   rcases vg (i+1) h.2 t with c|⟨f,g,c,j,k⟩
   ·exact .inl c
   refine .inr ⟨f,g,ω,?_,k⟩;rw[show t - i=(t - (i+1))+1 by omega];simpa using j
def oZ.slot{A:RA}{v:Value}(h:oZ w S A v){tv:Nat->Value} : cL w S F tv NO (TR A) v:=by
 cases A with
 | val f a=>exact bM.slot h
 | ptr a=>obtain⟨g,b,u,c,d,e⟩:=h;exact⟨g,b,u,by rw[c,Nat.add_zero],d,e⟩
 | fn Ok=>exact h
def Di:∀{A:List RA}{vs:List Value},zi w S A vs->A.length=vs.length
 | [],[],_=>rfl
 | _::_,_::_,h=>by simp[Di h.2]
 | [],_::_,h=>h.elim
 | _::_,[],h=>h.elim
def L9{D : Nat -> Array Oper -> ((Nat -> AV) -> Prop) -> (Nat -> AV) -> Prop}{f : Nat}{d : Func}{c : Code}{sh : Bool}{A : List RA}{k : Kd}{rcs : List C}(M : ∀t i, TE t = some i -> bQ P t i)(hf : P.funcs[f]? = some d)(hn : (d.name == "runtime.NumGoroutine") = false)(g:d.body=some c){ck:Nat->Array Oper->Bool}(hD:uC P N ck D)(hc:fU ck c=true)(hN:A.length+(d.ntmps - A.length)=N.n)(hkp:N.kp=[])(hsh:sh=true\/ia rcs)(W:aw P TE N D c (QF TE d.results.toList k rcs) (lay (wa 0 A))):ar P f sh A k rcs:=by
 refine⟨⟨d,hf,hn,by rw[g];rfl⟩,λw S y hS hA=>?_⟩;have hlen:=Di hA;refine calls_of_wp hf g ?_;have hst:St w NO S N (lay (wa 0 A)) {tmps:=y.toArray++Array.replicate (d.ntmps - y.toArray.size) undef,defers:=[]} w:=by
  refine⟨S,λ_=>NO,λt=>?_,λ_ _ _ _ _ h=>h.elim,λ_ _ _ h=>h.elim,λ_ _ _ h=>h.elim,λ_ _ h=>h,λb o h=>⟨hS b o h,.inl h⟩,CZ _ _,by simp;omega,rfl,λp W=>by rw[hkp]at W;cases W⟩;rcases vg 0 hA t with r|⟨A0,v,-,B,G,h4⟩
  ·rw[r];trivial
  rw[G];have hv:tvs {tmps:=y.toArray++Array.replicate (d.ntmps - y.toArray.size) undef,defers:=[]} t=v:=by
   have hlt:=(O2.1 B).1;simp only[tvs,W6];rw[Array.getElem?_append_left (by simpa using hlt)];simp only[List.getElem?_toArray];rw[show y[t]? = some v by simpa using B];rfl
  rw[hv];exact h4.slot
 refine i6 M hD c hc _ _ _ _ w W hst λe F' K l he hs'=>?_
 obtain⟨S',φ',h⟩:=hs';have fin:resA TE F' d.results.toList [] (λsh O=>jG (g9 sh) k O rcs)->K.defers=[]/\∃v,(results d K.tmps).run P l=.ok v l/\(∃v',Ending.returned v=.returned v'/\bS NO w l/\∃X S1:ah,(∀b o,X b o->b<l.heap.size/\w.heap.size<=b)/\
     (∀b o,S1 b o->(sh=true/\S b o)\/(b<l.heap.size/\w.heap.size<=b))/\(∀b o,X b o->¬S1 b o)/\fX l NO k rcs.length v'/\cV l S1 X rcs (cg l k v')):=by
  intro hr;obtain⟨shs,O,a,u,Q,R,E,hln,T,hcells,q,U⟩:=h.resA M hr;obtain⟨rfl,V⟩:=Q.out;refine⟨h.defers,?_⟩;have J:(results d K.tmps).run P l=.ok (if h:a.toArray.size=1 then a.toArray[0] else .tuple a.toArray) l:=by
   have e:results d K.tmps=(do let y <-d.results.mapM (AK K.tmps);pure (if h:y.size=1 then y[0] else .tuple y)):=by
    unfold results
    congr 1
   rw[e,<-Array.toArray_toList (xs:=d.results),List.mapM_toArray];simp only[Sem.run_bind,Sem.run_map,R,Result.andThen_ok,Sem.run_pure]
  refine⟨_,J,_,rfl,h.old,λb o=>∃t,φ' t b o,λb o=>(sh=true/\S' b o)\/(S' b o/\w.heap.size<=b),λb o ⟨t,g⟩=>⟨(h.ex t b o g).1,(h.ex t b o g).2.resolve_right (λh=>h)⟩,λb o g=>?_,λb o ⟨t,g⟩ hb'=>h.disS t b o g (hb'.elim (·.2) (·.1)),?_⟩
  ·rcases g with⟨r,B⟩|⟨r,B⟩
   ·rcases(h.sup b o B).2 with G|G|G
    ·exact .inl ⟨r,G⟩
    ·exact .inr ⟨(h.sup b o B).1,G⟩
    exact G.elim
   exact .inr ⟨(h.sup b o r).1,B⟩
  have L:fX l NO (g9 shs) O.length (if h:a.toArray.size=1 then a.toArray[0] else .tuple a.toArray)/\cV l S' (λb o=>∃t,φ' t b o) O (cg l (g9 shs) (if h:a.toArray.size=1 then a.toArray[0] else .tuple a.toArray)):=by
   have H:∀b o,(∃t,t∉([]:List Nat)/\φ' t b o)->∃t,φ' t b o:=λb o ⟨t,_,g⟩=>⟨t,g⟩
   match shs,E,q,T with
   | [],E,_,T=>
    cases a with
    | cons _ _=>exact E.elim
    | nil=>
     have:O=[]:=S7 (by simpa[oW] using T.symm);subst this;exact⟨⟨_,rfl,trivial,rfl⟩,cV.nil _ _ _ _⟩
   | [Z],_,q,_=>
    obtain⟨v,rfl,hv⟩:=q Z rfl;have:=(hv.mono (λ_ _ h=>h) H).slot (F:=F') (tv:=tvs K);obtain⟨X1,Y,r,B,G,h4,h5⟩:=this;refine⟨?_,h5.mono (λ_ _ h=>h) B⟩;cases Z<;>exact h4
   | Z::ag2::sh,E,_,T=>
    have hsz:¬a.toArray.size=1:=by
     match a,E with
     | [],E=>simp
     | [v],E=>cases Z<;>cases ag2<;>exact E.2.elim
     | _::_::_,_=>simp
    rw[dif_neg hsz];refine⟨⟨_,rfl,E,T⟩,(U.mono (λ_ _ h=>h) H).congr λj hj=>?_⟩;simp only[cg,g9,lH,hcells];simp[List.getD,hj]
  replace L:=CL L.1 (V.row L.2);refine⟨by rw[<-V.len];exact L.1,?_⟩;rcases hsh with r|r
  ·exact L.2.mono (λb o g=>.inl ⟨r,g⟩) (λ_ _ h=>h)
  exact(L.2.fresh r).mono (λ_ _ h=>h.elim) (λ_ _ h=>h)
 cases e with
 | normal=>exact fin he
 | ret=>exact fin he
 | _=>exact he.elim
def KJ{D : Nat -> Array Oper -> ((Nat -> AV) -> Prop) -> (Nat -> AV) -> Prop}{f t : Nat}{j : Func}{c : Code}{A : List RA}{rcs : List C}(R : ∀t i, TE t = some i -> bQ P t i)(hf : P.funcs[f]? = some j)(hn : (j.name == "runtime.NumGoroutine") = false)(a:j.body=some c){ck:Nat->Array Oper->Bool}(hD:uC P N ck D)(hc:fU ck c=true)(hN:A.length+(j.ntmps - A.length)=N.n)(T:N.kp=[])(hr:j.results = #[.tmp t])(K:aw P TE N D c (Tt t rcs) (lay (wa 0 A))):rO P f true A .box rcs:=by
 refine⟨⟨j,hf,hn,by rw[a];rfl⟩,λw S E hS hA=>?_⟩;have hlen:=Di hA;refine calls_of_wp hf a ?_;have U:St w NO S N (lay (wa 0 A)) {tmps:=E.toArray++Array.replicate (j.ntmps - E.toArray.size) undef,defers:=[]} w:=by
  refine⟨S,λ_=>NO,λt=>?_,λ_ _ _ _ _ h=>h.elim,λ_ _ _ h=>h.elim,λ_ _ _ h=>h.elim,λ_ _ h=>h,λb o h=>⟨hS b o h,.inl h⟩,CZ _ _,by simp;omega,rfl,λp K=>by rw[T]at K;cases K⟩;rcases vg 0 hA t with L|⟨A0,v,-,F,M,V⟩
  ·rw[L];trivial
  rw[M];have O:tvs {tmps:=E.toArray++Array.replicate (j.ntmps - E.toArray.size) undef,defers:=[]} t=v:=by
   have W:=(O2.1 F).1;simp only[tvs,W6];rw[Array.getElem?_append_left (by simpa using W)];simp only[List.getElem?_toArray];rw[show E[t]? = some v by simpa using F];rfl
  rw[O];exact V.slot
 refine i6 R hD c hc _ _ _ _ w K U λe F' y q Z hs'=>?_
 obtain⟨S',φ',h⟩:=hs';have fin:QH F' t rcs->y.defers=[]/\∃v,(results j y.tmps).run P q=.ok v q/\(∃v',Ending.returned v=.returned v'/\bS NO w q/\∃X S1:ah,(∀b o,X b o->b<q.heap.size/\w.heap.size<=b)/\
     (∀b o,S1 b o->(true=true/\S b o)\/(b<q.heap.size/\w.heap.size<=b))/\(∀b o,X b o->¬S1 b o)/\∃B Y:ah,(∀b o,B b o->X b o)/\(∀b o,Y b o->X b o)/\(∀b o,B b o->¬Y b o)/\fX q B .box rcs.length v'/\cV q S1 Y rcs (cg q .box v')):=by
  intro k;have core:∃(d:Nat)(r:List C),tvs y t=tvs y d/\F' d=.H .box r/\jG .box .box r rcs:=by
   unfold QH at k;split at k
   ·rename_i r u
    exact⟨t,r,rfl,u,k⟩
   ·rename_i d hF2
    split at k
    case h_2=>exact k.elim
    rename_i r u;refine⟨d,r,?_,u,k⟩;have G:=h.slot t;rw[hF2]at G;obtain⟨k0,cs0,r0,j0,g0,o0,e1,-,Q,e4⟩:=G;have H:=h.slot d;rw[u]at H;rw[u]at e1;simp only[AV.H.injEq]at e1;obtain⟨rfl,rfl⟩:=e1;obtain⟨B,Y,L,F,M,⟨g,o,O,-⟩,h5⟩:=H;rw[O]at Q;simp only[plc,oK,I5,Z0,Prod.mk.injEq]at Q;rw[e4,O,<-Q.1,<-Q.2]
    rfl
   exact k.elim
  obtain⟨d,r,htt,u,k⟩:=core;have J:=k.out.2;have H:=h.slot d;rw[u]at H;obtain⟨B,Y,L,F,M,V,h5⟩:=H;refine⟨h.defers,tvs y d,?_,tvs y d,rfl,h.old,φ' d,λb o=>S' b o/\(S b o\/w.heap.size<=b),λb o a=>⟨(h.ex d b o a).1,(h.ex d b o a).2.resolve_right (λh=>h)⟩,λb o a=>?_,λb o a hb'=>h.disS d b o a hb'.1,B,Y,L,F,M,?_,?_⟩
  ·rw[<-htt];simp[results,hr,tvs]
  ·rcases a.2 with l|l
   ·exact .inl ⟨rfl,l⟩
   exact .inr ⟨(h.sup b o a.1).1,l⟩
  ·rw[<-J.len];exact V
  exact(J.row h5).mono (λb o a=>⟨a,by
    rcases(h.sup b o a).2 with l|l|l
    · exact .inl l
    · exact .inr l
    exact l.elim⟩) (λ_ _ h=>h)
 cases e with
 | normal=>exact fin Z
 | ret=>exact fin Z
 | _=>exact Z.elim
end
def DF(P:Program)(TE:Nat->Option TI)(N:fC)(tb:List (Nat × Nat × List Nat))(id:Nat)(ops:Array Oper)(K:(Nat->AV)->Prop)(F:Nat->AV):Prop:=
 match xK tb (id+1048576) with
 | some (t,offs)=>tz t offs (DD P TE N tb id ops K) F
 | none=>DD P TE N tb id ops K F
def oe{P:Program}{TE:Nat->Option TI}(a:∀t i,TE t=some i->bQ P t i)(e:P.follows .mixedOrders=true)(N:fC)(tb:List (Nat × Nat × List Nat)):uC P N (mJ tb) (DF P TE N tb):=
 λ_ _ b _ _ _ _ _ _ _ _ c f g=>by
  unfold DF at c;split at c
  ·obtain⟨j,h,d⟩:=yb c f
   exact xp a e b h d g
  exact xp a e b c f g
end Go.Proofs.YtecefhjnejfheaaGreat.Ab
