/- A slot-only operation looks at its operands alone (the rest), and: a region that draws its order may be run in the text's. No condition. -/
import Derived.Test.YtecefhjnejfheaaGreatKob
import Derived.Orders
import Derived.Test.YtecefhjnejfheaaGreatKoa
set_option linter.unusedVariables false
set_option linter.defProp false
set_option linter.unusedSimpArgs false
set_option linter.constructorNameAsVariable false
namespace Go.Proofs.YtecefhjnejfheaaGreat.Ab
open Go.RowKit
section
variable{F:Nat->AV}{K:AV->Prop}{TE:Nat->Option TI}{P:Program}
variable{K':Value->Prop}
def M5{g:BinOp}{x y:Value}{K:Value->Prop}(h:D0 g x y K)(i:∀v,K v->K' v):D0 g x y K':=by
 cases x<;>cases y<;>try exact h.elim
 rename_i k a j b;have c:∀{X Y:Prop},(bif g9 k j then X else False)->(X->Y)->(bif g9 k j then Y else False):=fun {X Y} h e=>by
  cases o:g9 k j with
  | true=>rw[o]at h;exact e h
  | false=>rw[o]at h;exact h.elim
 have d:∀{k:IntKind}{x:Int},Wr k x (λz=>K (.int k z))->Wr k x (λz=>K' (.int k z)):=λh=>by
  obtain⟨z,l,n⟩:=h.out;exact CO l (i _ n)
 have q:∀{k:IntKind}{x:Int},Ev x (λz=>K (.int k z))->Ev x (λz=>K' (.int k z)):=λh=>by
  obtain⟨z,l,n⟩:=h.out;exact CX l (i _ n)
 have f:∀{p X Y:Prop},Cd p X->(X->Y)->Cd p Y:=λh e=>CQ h.out.1 (e h.out.2)
 cases g<;>simp only[D0]at h |-
 case add=>exact c h d
 case sub=>exact c h d
 case mul=>exact c h d
 case quo=>exact c h λh=>f h d
 case rem=>exact c h λh=>f h q
 case and=>exact c h d
 case or=>exact c h d
 case xor=>exact c h d
 case andNot=>exact c h d
 case shl=>exact f h d
 case shr=>exact f h q
 all_goals exact c h (i _)
def N3{f:BinOp}{x y:Value}{K:Value->Prop}(h:D0 f x y K):∃v,K v/\D0 f x y (· = v):=by
 cases x<;>cases y<;>try exact h.elim
 rename_i k a g b;have e:∀{X:Prop},(bif g9 k g then X else False)->X/\∀Y:Prop,Y->(bif g9 k g then Y else False):=fun {X} h=>by
  cases i:g9 k g with
  | true=>rw[i]at h;exact⟨h,λY j=>j⟩
  | false=>rw[i]at h;exact h.elim
 cases f<;>simp only[D0]at h |-
 case add=>obtain⟨h,b⟩:=e h;obtain⟨z,c,d⟩:=h.out;exact⟨_,d,b _ (CO c rfl)⟩
 case sub=>obtain⟨h,b⟩:=e h;obtain⟨z,c,d⟩:=h.out;exact⟨_,d,b _ (CO c rfl)⟩
 case mul=>obtain⟨h,b⟩:=e h;obtain⟨z,c,d⟩:=h.out;exact⟨_,d,b _ (CO c rfl)⟩
 case quo=>obtain⟨h,b⟩:=e h;obtain⟨z,c,d⟩:=h.out.2.out;exact⟨_,d,b _ (CQ h.out.1 (CO c rfl))⟩
 case rem=>obtain⟨h,b⟩:=e h;obtain⟨z,c,d⟩:=h.out.2.out;exact⟨_,d,b _ (CQ h.out.1 (CX c rfl))⟩
 case and=>obtain⟨h,b⟩:=e h;obtain⟨z,c,d⟩:=h.out;exact⟨_,d,b _ (CO c rfl)⟩
 case or=>obtain⟨h,b⟩:=e h;obtain⟨z,c,d⟩:=h.out;exact⟨_,d,b _ (CO c rfl)⟩
 case xor=>obtain⟨h,b⟩:=e h;obtain⟨z,c,d⟩:=h.out;exact⟨_,d,b _ (CO c rfl)⟩
 case andNot=>obtain⟨h,b⟩:=e h;obtain⟨z,c,d⟩:=h.out;exact⟨_,d,b _ (CO c rfl)⟩
 case shl=>obtain⟨z,c,d⟩:=h.out.2.out;exact⟨_,d,CQ h.out.1 (CO c rfl)⟩
 case shr=>obtain⟨z,c,d⟩:=h.out.2.out;exact⟨_,d,CQ h.out.1 (CX c rfl)⟩
 all_goals(obtain⟨h,b⟩:=e h;exact⟨_,h,b _ rfl⟩)
variable{T:Nat}
def MU{b:BinOp}{x y:Value}{K:Value->Prop}(h:EH TE b T x y K):∃v,K v/\∀K':Value->Prop,K' v->EH TE b T x y K':=by
 unfold EH at h;split at h
 ·split at h
  case h_2=>exact h.elim
  rename_i f;cases b<;>simp only at h<;>try exact h.elim
  all_goals exact⟨_,h,λK' a=>by unfold EH;simp only[f];exact a⟩
 ·cases b<;>simp only at h<;>try exact h.elim
  case add=>obtain⟨c,d⟩:=h.out;obtain⟨z,g,i⟩:=d.out;exact⟨_,i,λK' a=>CQ c (Es.mk g a)⟩
  all_goals exact⟨_,h,λK' a=>a⟩
 rename_i c d;obtain⟨v,j,k⟩:=N3 h;refine⟨v,j,λK' a=>?_⟩;have:=M5 (K':=K') k λl e=>by rw[e];exact a
 unfold EH;split
 ·exact(c _ _ rfl rfl).elim
 ·exact(d _ _ rfl rfl).elim
 exact this
def NC{a:UnOp}{x:Value}{K:Value->Prop}(h:QH a x K)(b:∀v,K v->K' v):QH a x K':=by
 unfold QH at h |-;split at h
 ·exact b _ h
 ·obtain⟨z,c,d⟩:=Wr.out h;exact CO c (b _ d)
 exact h.elim
def Q2{a:UnOp}{x:Value}{K:Value->Prop}(h:QH a x K):∃v,K v/\QH a x (· = v):=by
 unfold QH at h;split at h
 ·exact⟨_,h,rfl⟩
 ·obtain⟨z,b,c⟩:=Wr.out h;exact⟨_,c,CO b rfl⟩
 exact h.elim
variable{x y:Operand}
def P6{c:Operand}(h:JG F c x y K):pc (λF K=>JG F c x y K) F (tm c++tm x++tm y) K:=by
 obtain⟨z,f,r⟩:=jt h;cases z with
 | bool b=>
  cases b with
  | true=>
   obtain⟨g,i,j,k⟩:=ko (Bf.out f);refine⟨g,i,λd l=>(j d l).imp (λh=>by simp[h]) (λ⟨t,n,o⟩=>⟨t,by simp[n],o⟩),λa e p q=>r a (e.mono (by simp +contextual)) _ (Bf.in_ (k a (e.mono (by simp +contextual)) p q))⟩
  | false=>
   obtain⟨g,i,j,k⟩:=ko (Bf.out f);refine⟨g,i,λd l=>(j d l).imp (λh=>by simp[h]) (λ⟨t,n,o⟩=>⟨t,by simp[n],o⟩),λa e p q=>r a (e.mono (by simp +contextual)) _ (Bf.in_ (k a (e.mono (by simp +contextual)) p q))⟩
 | _=>exact f.elim
def Rk(h:QG F x K):pc (λF K=>QG F x K) F (tm x) K:=by
 obtain⟨i,c,a,d⟩:=cI h;cases b:aZ c with
 | false=>rw[b]at a;exact a.elim
 | true=>rw[b]at a;exact⟨_,a,CT _ _ _ _,λe f j g=>d e f _ (by rw[b];exact g)⟩
def EU{i:Nat}(h:kD F x i K):pc (λF K=>kD F x i K) F (tm x) K:=by
 cases x with
 | tmp t=>
  have e:t∈tm (.tmp t):=by simp[tm]
  simp only[kD]at h;cases a:F t with
  | H k l=>
   rw[a]at h;cases k with
   | tup n=>
    simp only at h;cases b:Ej n i with
    | none=>rw[b]at h;exact h.elim
    | some p=>
     rw[b]at h;simp only at h;cases c:aZ (bz l p.1 (p.2.getD 1)) with
     | true=>rw[c]at h;exact⟨_,h,CT _ _ _ _,λo f q g=>by simp only[kD,(f t e).1,a,b,c,cond_true];exact g⟩
     | false=>rw[c]at h;exact⟨_,h,λd j=>.inl (by simp[AV.uses]at j;subst j;exact e),λo f q g=>by simp only[kD,(f t e).1,a,b,c,cond_false];exact g⟩
   | _=>exact h.elim
  | _=>rw[a]at h;exact h.elim
 | _=>exact h.elim
def R8(h:Hx TE F T x K):pc (λF K=>Hx TE F T x K) F (tm x) K:=by
 unfold Hx at h;unfold pc Hx;split at h
 ·obtain⟨g,i,a,e⟩:=cI h
  match g,i,a with
  | none,[.s o rows],a=>exact⟨_,Ln.out a,CT _ _ _ _,λb c f d=>e b c _ (Ln.mk rfl d)⟩
  | none,[.z],a=>exact⟨_,a,CT _ _ _ _,λb c f d=>e b c _ d⟩
 ·obtain⟨z,a,e⟩:=jt h
  cases z with
  | string s=>exact⟨_,Ln.out a,CT _ _ _ _,λb c f d=>e b c _ (Ln.mk rfl d)⟩
  | _=>exact a.elim
 exact h.elim
def QV(h:HU TE F T x K):pc (λF K=>HU TE F T x K) F (tm x) K:=by
 unfold HU at h;unfold pc HU;split at h
 ·obtain⟨g,i,a,f⟩:=cI h
  match g,i,a with
  | none,[.s o rows],a=>exact⟨_,a.out.2,CT _ _ _ _,λb d j e=>f b d _ (Nn.mk a.out.1 e)⟩
  | none,[.v (.slice A n c)],a=>exact⟨_,a,CT _ _ _ _,λb d j e=>f b d _ e⟩
 exact h.elim
def QB{f:BinOp}(h:GS P F f T x y K):pc (λF K=>GS P F f T x y K) F (tm x++tm y) K:=by
 unfold GS at h;unfold pc GS;obtain⟨j,C,k,l⟩:=cI h;obtain⟨ag2,ds,a,b⟩:=cI k
 match j,ag2,a with
 | some n,some m,c=>
  obtain⟨o,p,q⟩:=pp c;obtain⟨t,u,w⟩:=pp p;obtain⟨r,A,B⟩:=u.out;exact⟨_,B,CT _ _ _ _,λg i D d=>l g (i.mono λ_ e=>List.mem_append_left _ e) _ (b g (i.mono λ_ e=>List.mem_append_right _ e) _ (by rw[q,w];exact GR o (GR t (Ld.mk A d))))⟩
variable{F':Nat->AV}
def Br(a:jA F F' (tm x)):isAgg F' x=isAgg F x:=by
 cases x with
 | tmp t=>unfold isAgg;simp only;rw[(a t (by simp[tm])).1]
 | _=>rfl
def tms(xs:List Operand):List Nat:=xs.flatMap tm
variable{k:Bool->RA->Prop}
def PL(h:argV F x k):∃b A,k b A/\∀F':Nat->AV,jA F F' (tm x)->∀i:Bool->RA->Prop,i b A->argV F' x i:=by
 have key:∀F':Nat->AV,jA F F' (tm x)->n8 F' x=n8 F x:=λF' j=>j.ev
 have w:∀n,n8 F x=n->iO F n (wi k)->(∀F' i,n8 F' x=n->(argV F' x i=iO F' n (wi i)))->∃b A,k b A/\∀F':Nat->AV,jA F F' (tm x)->∀i:Bool->RA->Prop,i b A->argV F' x i:=λn a D B=>by
  obtain⟨E,q,o,C⟩:=cI (x:=x) (by rw[a];exact D);unfold wi at o;cases u:aZ q with
  | true=>
   rw[u]at o;refine⟨true,_,o,λF' j i d=>?_⟩;have p:=key F' j;rw[B F' i (p.trans a),<-a,<-p];exact C F' j _ (by unfold wi;rw[u];exact d)
  | false=>
   rw[u]at o;refine⟨false,_,o,λF' j i d=>?_⟩;have p:=key F' j;rw[B F' i (p.trans a),<-a,<-p];exact C F' j _ (by unfold wi;rw[u];exact d)
 have c:=h;unfold argV at c;cases a:n8 F x with
 | H G q=>
  rw[a]at c;cases G with
  | box=>exact⟨false,_,c,λF' j i d=>by unfold argV;rw[key F' j,a];exact d⟩
  | one=>exact w _ a c λF' i e=>by unfold argV;rw[e];rfl
  | agg=>exact w _ a c λF' i e=>by unfold argV;rw[e];rfl
  | tup K=>exact c.elim
 | c2 t l H E=>rw[a]at c;exact w _ a c λF' i e=>by unfold argV;rw[e]
 | ref t l H=>
  rw[a]at c;simp only at c;split at c
  ·rename_i q J
   refine⟨false,_,c,λF' j i d=>?_⟩;unfold argV;rw[key F' j,a];have:F' t=.H .box q:=by
    cases x with
    | tmp s=>exact(j s (by simp[tm])).2 t (by show AV.uses t (F s)=true;rw[show F s=_ from a];simp[AV.uses]) _ _ J
    | const v=>simp only[n8]at a;have:=my v t;rw[a]at this;simp[AV.uses]at this
    | global g=>cases a
    | func f=>cases a
   simp only[this];exact d
  exact c.elim
 | iref r l=>
  rw[a]at c;simp only at c;cases y:Nat.beq l 0 with
  | false=>rw[y]at c;exact c.elim
  | true=>rw[y]at c;exact⟨true,_,c,λF' j i d=>by unfold argV;rw[key F' j,a];simp only[y];exact d⟩
 | fv Ok=>rw[a]at c;exact⟨true,_,c,λF' j i d=>by unfold argV;rw[key F' j,a];exact d⟩
 | fn f caps=>rw[a]at c;exact c.elim
 | dead=>rw[a]at c;exact c.elim
def pL:∀{cs:List Nat}{k:List RA->Prop},ns F cs k->∃D,k D/\∀F':Nat->AV,(∀t,t∈cs->∀j xs,F t=.H j xs->F' t=.H j xs)->∀d:List RA->Prop,d D->ns F' cs d
 | [],k,h=>⟨[],h,λ_ _ _ h=>h⟩
 | c::cs,k,h=>by
  simp only[ns]at h;split at h
  ·rename_i xs e
   obtain⟨D,f,g⟩:=pL h;exact⟨_,f,λF' b d a=>by simp only[ns,b c (C2 ..) _ _ e];exact g F' (λt i=>b t (C6 _ i)) _ a⟩
  ·rename_i xs e
   obtain⟨D,f,g⟩:=pL h;exact⟨_,f,λF' b d a=>by simp only[ns,b c (C2 ..) _ _ e];exact g F' (λt i=>b t (C6 _ i)) _ a⟩
  ·rename_i xs e
   obtain⟨D,f,g⟩:=pL h;exact⟨_,f,λF' b d a=>by simp only[ns,b c (C2 ..) _ _ e];exact g F' (λt i=>b t (C6 _ i)) _ a⟩
  exact h.elim
variable{ts:List Nat}
def K4{t:Nat}{f:FuncId}{caps:List Nat}(b:jA F F' ts)(d:t∈ts)(e:F t=.fn f caps):∀c,c∈caps->∀a xs,F c=.H a xs->F' c=.H a xs:=λc g a xs h=>
 (b t d).2 c (by rw[e];simp only[AV.uses,O4];exact⟨c,g,Nat.beq_refl c⟩) a xs h
def Nb(h:argA P F x k):∃b A,k b A/\∀F':Nat->AV,jA F F' (tm x)->∀e:Bool->RA->Prop,e b A->argA P F' x e:=by
 have j:=h;unfold argA at j;split at j
 ·rename_i f caps a
  obtain⟨D,l,n⟩:=pL j;obtain⟨Q,q,r,u⟩:=l;refine⟨false,_,u,λF' i e d=>?_⟩;unfold argA;rw[i.ev,a];refine n F' ?_ _ ⟨Q,q,r,d⟩;cases x with
  | tmp s=>exact K4 i (t:=s) (by simp[tm]) a
  | const v=>
   intro c o;simp only[n8]at a;have:=my v c;rw[a]at this;simp only[AV.uses]at this;have w:caps.any (Nat.beq · c)=true:=O4.2 ⟨c,o,Nat.beq_refl c⟩;rw[w]at this;cases this
  | global g=>cases a
  | func f=>cases a;intro c o;cases o
 rename_i p;obtain⟨b,A,l,n⟩:=PL j;refine⟨b,A,l,λF' i e d=>?_⟩;have:=n F' i e d;unfold argA;rw[i.ev];split
 ·rename_i f caps a;exact absurd a (p f caps)
 exact this
def xm:∀{xs:List Operand}{k:Bool->List RA->Prop},AC P F xs k->∃b A,k b A/\∀F':Nat->AV,jA F F' (tms xs)->∀c:Bool->List RA->Prop,c b A->AC P F' xs c
 | [],k,h=>⟨true,[],h,λ_ _ _ h=>h⟩
 | x::xs,k,h=>by
  obtain⟨n,A,d,g⟩:=Nb h;obtain⟨b,As,d,e⟩:=xm d;have i:∀{F':Nat->AV},jA F F' (tms (x::xs))->jA F F' (tm x):=λa=>a.mono (by simp +contextual [tms])
  have j:∀{F':Nat->AV},jA F F' (tms (x::xs))->jA F F' (tms xs):=λa=>a.mono (λt l=>by simp only[tms,W7,V3];exact .inr l)
  exact⟨_,_,d,λF' a c f=>g F' (i a) _ (e F' (j a) _ f)⟩
def Bw:∀{xs:List Operand}{k:List (Option Nat × List C)->Prop},argsV F xs k->∃L,k L/\∀F':Nat->AV,jA F F' (tms xs)->∀b:List (Option Nat × List C)->Prop,b L->argsV F' xs b
 | [],k,h=>⟨[],h,λ_ _ _ h=>h⟩
 | x::xs,k,h=>by
  obtain⟨l,n,c,f⟩:=cI h;obtain⟨L,c,d⟩:=Bw c;have g:∀{F':Nat->AV},jA F F' (tms (x::xs))->jA F F' (tm x):=λa=>a.mono (by simp +contextual [tms])
  have i:∀{F':Nat->AV},jA F F' (tms (x::xs))->jA F F' (tms xs):=λa=>a.mono (λt j=>by simp only[tms,W7,V3];exact .inr j)
  exact⟨_,c,λF' a b e=>f F' (g a) _ (d F' (i a) _ e)⟩
variable{xs:List Operand}
def NZ{f:Nat}(h:KC P F f xs K):pc (λF K=>KC P F f xs K) F (tms xs) K:=by
 obtain⟨b,A,a,c⟩:=xm h;obtain⟨d,k,rcs,e,g,i⟩:=a.out;exact⟨_,i,CT _ _ _ _,λj l o n=>c j l _ (.mk_ ⟨d,k,rcs,e,g,n⟩)⟩
def KS{t:Nat}(h:mL P F t xs K):pc (λF K=>mL P F t xs K) F (t::tms xs) K:=by
 have d:=h;unfold mL at d;split at d
 ·rename_i f caps g
  obtain⟨b,A,e,i⟩:=xm d;obtain⟨D,e,j⟩:=pL e;obtain⟨u,k,rcs,l,n,o⟩:=e.out;refine⟨_,o,CT _ _ _ _,λa c p q=>?_⟩;show mL P a t xs p;unfold mL;rw[(c t (C2 ..)).1,g];exact i a (c.mono λt r=>C6 _ r) _ (j a (K4 c (C2 ..) g) _ (.mk_ ⟨u,k,rcs,l,n,q⟩))
 ·rename_i Ok g
  obtain⟨L,e,i⟩:=Bw d;obtain⟨Q,k,rcs,l,n,o⟩:=e;refine⟨_,o,CT _ _ _ _,λa c p q=>?_⟩;show mL P a t xs p;unfold mL;rw[(c t (C2 ..)).1,g];exact i a (c.mono λt r=>C6 _ r) _ ⟨Q,k,rcs,l,n,q⟩
 exact d.elim
def jY{k:Nat->TI->Prop}(h:KF TE T k):∃e a,k e a/\∀b:Nat->TI->Prop,b e a->KF TE T b:=by
 unfold KF at h;split at h
 case h_2=>exact h.elim
 rename_i e d;split at h
 case h_2=>exact h.elim
 rename_i a f;cases c:(Nat.beq a.zero.length a.size&&Nat.ble 1 a.size) with
 | false=>rw[c]at h;exact h.elim
 | true=>rw[c]at h;exact⟨e,a,h,λb g=>by unfold KF;simp only[d,f,c,cond_true];exact g⟩
def sB{k:Int->Prop}(h:FY F x k):∃n,k n/\∀F':Nat->AV,jA F F' (tm x)->∀a:Int->Prop,a n->FY F' x a:=by
 obtain⟨z,b,c⟩:=jt h;cases z with
 | int f n=>exact⟨n,b,λF' d a e=>c F' d _ e⟩
 | _=>exact b.elim
def otm(x:Option Operand):List Nat:=x.toList.flatMap tm
def JZ{x:Option Operand}{k:Option Int->Prop}(h:Nv F x k):∃n,k n/\∀F':Nat->AV,jA F F' (otm x)->∀a:Option Int->Prop,a n->Nv F' x a:=by
 cases x with
 | none=>exact⟨none,h,λ_ _ _ b=>b⟩
 | some x=>
  obtain⟨n,c,d⟩:=sB h;exact⟨some n,c,λF' e a b=>d F' (e.mono (by simp +contextual [otm])) _ b⟩
def uj{i:Nat->Option (Nat × Nat)} : ∀{parts:List (Nat × Operand)}{cs:List C}{k:List C->Prop},fillP F i parts cs k->∃a,k a/\∀F':Nat->AV,jA F F' (tms (parts.map (·.2)))->∀c:List C->Prop,c a->fillP F' i parts cs c
 | [],cs,k,h=>⟨cs,h,λ_ _ _ h=>h⟩
 | p::rest,cs,k,h=>by
  simp only[fillP]at h;split at h
  case h_2=>exact h.elim
  rename_i q l;obtain⟨r,xs,b,n⟩:=cI h;cases d:(aZ xs&&Nat.beq xs.length q.2&&Nat.ble (q.1+q.2) cs.length) with
  | false=>rw[d]at b;exact b.elim
  | true=>
   rw[d]at b;simp only[cond_true,d3]at b;obtain⟨a,e,f⟩:=uj b;refine⟨a,e,λF' j c g=>?_⟩;simp only[fillP,l];refine n F' (j.mono (by simp +contextual [tms])) _ ?_;rw[d];simp only[cond_true,d3];exact f F' (j.mono (λt o=>by simp only[tms,Y6,W7,V3];exact .inr o)) _ g
variable{parts:List (Nat × Operand)}
def Mq(h:rS TE F T parts K):pc (λF K=>rS TE F T parts K) F (tms (parts.map (·.2))) K:=by
 unfold rS at h;unfold pc rS;split at h
 case h_2=>exact h.elim
 rename_i size bytes zero flds i;cases a:yP TE flds with
 | false=>rw[a]at h;exact h.elim
 | true=>
  rw[a]at h;obtain⟨b,c,d⟩:=uj h;exact⟨_,c,CT _ _ _ _,λe f j g=>by simp only[cond_true];exact d e f _ g⟩
def H8{n:Nat}(h:wK TE F T n parts K):pc (λF K=>wK TE F T n parts K) F (tms (parts.map (·.2))) K:=by
 obtain⟨e,j,a,f⟩:=jY h;cases c:Nat.ble (n*j.size) 16777216 with
 | false=>rw[c]at a;exact a.elim
 | true=>
  rw[c]at a;simp only[cond_true]at a;split at a
  ·exact⟨_,a,CT _ _ _ _,λg i k d=>f _ (by rw[c];exact d)⟩
  ·rw[d3]at a
   obtain⟨l,b,o⟩:=uj a;rw[pY]at b;exact⟨_,b,CT _ _ _ _,λg i k d=>f _ (by rw[c];simp only[cond_true,d3];exact o g i _ (by rw[pY];exact d))⟩
  exact a.elim
def NA(h:JN TE F T x y K):pc (λF K=>JN TE F T x y K) F (tm x++tm y) K:=by
 obtain⟨e,r,a,g⟩:=jY h;obtain⟨j,k,a,i⟩:=cI a
 match j,k,a with
 | none,[.z],a=>
  obtain⟨ag2,cs2,a,b⟩:=cI a
  match ag2,cs2,a with
  | none,[.s o rows],a=>
   obtain⟨l,n,p,a⟩:=a.out;exact⟨_,a,CT _ _ _ _,λc d q f=>g _ (i c (d.mono (by simp +contextual)) _ (b c (d.mono (by simp +contextual)) _ (Fl.mk l n p f)))⟩
  | none,[.z],a=>
   exact⟨_,a,CT _ _ _ _,λc d q f=>g _ (i c (d.mono (by simp +contextual)) _ (b c (d.mono (by simp +contextual)) _ f))⟩
def MY(h:J0 TE F T x y K):pc (λF K=>J0 TE F T x y K) F (tm x++tm y) K:=by
 obtain⟨e,r,a,g⟩:=jY h;obtain⟨l,a,i⟩:=sB a;obtain⟨c,a,b⟩:=sB a;obtain⟨n,j,k,o,p,a⟩:=a.out;exact⟨_,a,CT _ _ _ _,λd f t q=>g _ (i d (f.mono (by simp +contextual)) _ (b d (f.mono (by simp +contextual)) _ (Mk.mk n j k o p rfl q)))⟩
def Qe{ok:Bool}(h:y2 TE F T x y ok K):pc (λF K=>y2 TE F T x y ok K) F (tm x++tm y) K:=by
 unfold y2 at h;split at h
 case h_2=>exact h.elim
 rename_i i;cases ok with
 | true=>exact h.elim
 | false=>
  simp only[cond_false]at h;obtain⟨j,k,b,c⟩:=cI h
  match j,k,b,c with
  | none,[.m es],b,c=>
   obtain⟨v,d,a⟩:=jt b
   match v,d,a with
   | .int .i64 z,d,a=>
    refine⟨_,d.out,CT _ _ _ _,λf g l e=>?_⟩;simp only[y2,i,cond_false];exact c f (g.mono (by simp +contextual)) _ (a f (g.mono (by simp +contextual)) _ (Ml.mk rfl e))
def KP{lo j:Option Operand}(h:Dj TE F T x lo j K):pc (λF K=>Dj TE F T x lo j K) F (tm x++otm lo++otm j) K:=by
 obtain⟨e,q,b,t⟩:=jY h;obtain⟨l,b,u⟩:=JZ b;obtain⟨r,b,g⟩:=JZ b;obtain⟨w,A,b,i⟩:=cI b;have back:∀(c:List (List C))(k:List (List C)->Prop),Sl c q.size l r k->∃a,k a/\∀n:List (List C)->Prop,n a->Sl c q.size l r n:=λc k h=>by
  obtain⟨x,y,B,D,E,G,H,J⟩:=h.out;exact⟨_,J,λn b=>by refine .mk_ ?_;exact⟨x,y,B,D,E,G,H,_,rfl,b⟩⟩
 match w,A,b with
 | none,[.s .U c],b=>
  obtain⟨a,b,o⟩:=back _ _ b;exact⟨_,b,CT _ _ _ _,λd f L p=>t _ (u d (f.mono (by simp +contextual)) _ (g d (f.mono (by simp +contextual)) _ (i d (f.mono (by simp +contextual)) _ (o _ p))))⟩
 | none,[.z],b=>
  obtain⟨a,b,o⟩:=back _ _ b;exact⟨_,b,CT _ _ _ _,λd f L p=>t _ (u d (f.mono (by simp +contextual)) _ (g d (f.mono (by simp +contextual)) _ (i d (f.mono (by simp +contextual)) _ (o _ p))))⟩
def Hp{c d:Operand}(h:Q9 TE F T x c d K):pc (λF K=>Q9 TE F T x c d K) F (tm x) K:=by
 obtain⟨e,q,a,j⟩:=jY h;cases b:Tp c&&Tp d with
 | false=>rw[b]at a;exact a.elim
 | true=>
  rw[b]at a;obtain⟨l,n,a,k⟩:=cI a
  match l,n,a with
  | none,[.s o rows],a=>exact⟨_,a,CT _ _ _ _,λf g p i=>j _ (by rw[b];exact k f g _ i)⟩
  | none,[.z],a=>exact⟨_,a,CT _ _ _ _,λf g p i=>j _ (by rw[b];exact k f g _ i)⟩
def Li{f:Nat}(h:rT TE F T x f K):pc (λF K=>rT TE F T x f K) F (tm x) K:=by
 unfold rT at h;split at h
 case h_2=>exact h.elim
 rename_i flds e;split at h
 case h_2=>exact h.elim
 rename_i p g;split at h
 case h_2=>exact h.elim
 rename_i i j;obtain⟨k,d,a,l⟩:=cI h;cases b:(k.isSome&&(i.agg || Nat.beq i.size 1)&&Nat.ble (p.1+i.size) d.length) with
 | false=>rw[b]at a;exact a.elim
 | true=>
  rw[b]at a;simp only[cond_true]at a;cases c:aZ (bz d p.1 i.size) with
  | false=>rw[c]at a;exact a.elim
  | true=>
   rw[c]at a;simp only[cond_true,d3]at a;exact⟨_,a,CT _ _ _ _,λn o r q=>by unfold rT;simp only[e,g,j];exact l n o _ (by rw[b,c];simp only[cond_true,d3];exact q)⟩
def Pd{b c:Nat}(h:yF TE F b c x K):pc (λF K=>yF TE F b c x K) F (tm x) K:=by
 unfold yF at h;split at h
 ·rename_i d e
  obtain⟨n,a,f⟩:=sB h;obtain⟨z,g,a⟩:=a.out;exact⟨_,a,CT _ _ _ _,λi j l k=>by unfold yF;simp only[d,e];exact f i j _ (CO g k)⟩
 exact h.elim
def Pe{c:Bool}(h:Uy c F x y K):pc (λF K=>Uy c F x y K) F (tm x++tm y) K:=by
 obtain⟨z,d,g⟩:=jt h;cases z with
 | int k n=>
  obtain⟨m,a,b⟩:=sB d;obtain⟨z,i,a⟩:=a.out;exact⟨_,a,CT _ _ _ _,λe f l j=>g e (f.mono (by simp +contextual)) _ (b e (f.mono (by simp +contextual)) _ (CX i j))⟩
 | _=>exact d.elim
variable{ts':List Nat}
def eG.mono{av:AV}(h:eG F ts av)(a:∀t,t∈ts->t∈ts'):eG F ts' av:=λd b=>(h d b).imp (a d) (λ⟨t,c,e⟩=>⟨t,a t c,e⟩)
def pc.mono{p:(Nat->AV)->(AV->Prop)->Prop}(h:pc p F ts K)(a:∀t,t∈ts->t∈ts'):pc p F ts' K:=by
 obtain⟨b,c,d,e⟩:=h;exact⟨b,c,d.mono a,λf g i j=>e f (g.mono a) i j⟩
def dm(o:Op):List Nat:=o.operands.toList.flatMap tm
def ki{o:Op}(h:dz P TE F o K):pc (λF K=>dz P TE F o K) F (dm o) K:=by
 cases o with
 | move x=>exact(ko h).mono (by simp[dm,Op.operands])
 | assign x=>exact(ko h).mono (by simp[dm,Op.operands])
 | nilCheck x=>
  cases x with
  | tmp t=>
   have A:t∈tm (.tmp t):=by simp[tm]
   have key:∀a:Nat->AV,a t=F t->∀b,dz P TE a (.nilCheck (.tmp t)) b=(match F t with|.ref ..=>bu a (.tmp t) b|.iref ..=>bu a (.tmp t) b|.H .box _=>bu a (.tmp t) b|_=>False):=λa e b=>by
    unfold dz;simp only
    first
     |(rw[e];done)
     |(rw[e]
       cases F t with
       | H k O=>cases k<;>rfl
       | _=>rfl)
   rw[key F rfl]at h;have fin:bu F (.tmp t) K->(∀b (a:Nat->AV),a t=F t->bu a (.tmp t) b->dz P TE a (.nilCheck (.tmp t)) b)->pc (λF K=>dz P TE F (.nilCheck (.tmp t)) K) F (dm (.nilCheck (.tmp t))) K:=λp Q=>by
    obtain⟨B,C,D,E⟩:=ko p;exact⟨B,C,D.mono (by simp[dm,Op.operands]),λa j b g=>Q _ a (j t (by simp[dm,Op.operands,tm])).1 (E a (j.mono (by simp[dm,Op.operands])) b g)⟩
   cases G:F t with
   | H k O=>
    rw[G]at h;cases k with
    | box=>exact fin h λb a e p=>by rw[key a e,G];exact p
    | _=>exact h.elim
   | ref=>rw[G]at h;exact fin h λb a e p=>by rw[key a e,G];exact p
   | iref=>rw[G]at h;exact fin h λb a e p=>by rw[key a e,G];exact p
   | _=>rw[G]at h;exact h.elim
  | _=>exact h.elim
 | load T x=>exact(MN h).mono (by simp[dm,Op.operands])
 | fieldAddr T x f=>exact(zC h).mono (by simp[dm,Op.operands])
 | indexAddr T x y=>exact(zy h).mono (by simp[dm,Op.operands])
 | binOp R T x y yT=>
  simp only[dz]at h;cases q:yo R y with
  | true=>
   rw[q]at h;obtain⟨B,C,D,E⟩:=QV h;exact⟨B,C,D.mono (by simp +contextual [dm,Op.operands]),λa j b g=>by simp only[dz,q,cond_true];exact E a (j.mono (by simp +contextual [dm,Op.operands])) b g⟩
  | false=>
   rw[q]at h;have u:∀t,t∈tm x->t∈dm (.binOp R T x y yT):=λt A=>by simp[dm,Op.operands,A]
   cases M:isAgg F x with
   | true=>
    rw[M]at h;obtain⟨B,C,D,E⟩:=QB h;exact⟨B,C,D.mono (by simp +contextual [dm,Op.operands]),λa j b g=>by
      simp only[dz,q,cond_false];rw[Br (j.mono u),M];exact E a (j.mono (by simp +contextual [dm,Op.operands])) b g⟩
   | false=>
   rw[M]at h;obtain⟨z,S,J⟩:=jt h;obtain⟨z2,U,V⟩:=jt S;obtain⟨v,W,X⟩:=MU U;refine⟨_,W,CT _ _ _ _,λa j b g=>by simp only[dz,q,cond_false];rw[Br (j.mono u),M];exact J a (j.mono (by simp +contextual [dm,Op.operands])) _ (V a (j.mono (by simp +contextual [dm,Op.operands])) _ (X _ g))⟩
 | unOp R T x=>
  obtain⟨z,S,J⟩:=jt h;obtain⟨v,W,X⟩:=Q2 S;exact⟨_,W,CT _ _ _ _,λa j b g=>J a (j.mono (by simp[dm,Op.operands])) _ (NC X λv' e=>by rw[e];exact g)⟩
 | pick c x y=>exact(P6 h).mono (by simp[dm,Op.operands])
 | alloc T=>
  simp only[dz]at h;unfold xU at h;split at h
  ·rename_i i L
   exact⟨_,h,CT _ _ _ _,λa _ b g=>by simp only[dz,xU,L];exact g⟩
  exact h.elim
 | box T x=>exact(Rk h).mono (by simp[dm,Op.operands])
 | extract x i=>exact(EU h).mono (by simp[dm,Op.operands])
 | build T ps=>exact(Mq h).mono (by simp +contextual [dm,Op.operands,tms])
 | buildSlice T n ps=>exact(H8 h).mono (by simp +contextual [dm,Op.operands,tms])
 | makeSlice T x y=>exact(MY h).mono (by simp[dm,Op.operands])
 | makeMap T r=>
  simp only[dz,sO]at h |-;split at h
  case h_2=>exact h.elim
  exact⟨_,h,CT _ _ _ _,λa _ b g=>g⟩
 | lookup T x y ok=>exact(Qe h).mono (by simp[dm,Op.operands])
 | slice T x lo hi mx=>
  cases mx with
  | none=>exact(KP h).mono (by cases lo<;>cases hi<;>simp[dm,Op.operands,otm])
  | some m=>
   cases lo with
   | some _=>exact h.elim
   | none=>
    cases hi with
    | none=>exact h.elim
    | some y=>exact(Hp h).mono (by simp +contextual [dm,Op.operands])
 | field T x f=>exact(Li h).mono (by simp[dm,Op.operands])
 | convert T1 N x=>exact(Pd h).mono (by simp[dm,Op.operands])
 | makeFunc fn fs O=>
  simp only[dz]at h;split at h
  ·rename_i f Y
   obtain⟨l,g,J⟩:=rR h;refine⟨_,g,λd hd=>.inl ?_,λa _ b Z=>?_⟩
   ·simp only[AV.uses,O4]at hd
    obtain⟨c,Q,he⟩:=hd;have:=O2 he;subst this;simp only[dm,Op.operands,List.mem_flatMap];refine⟨.tmp c,?_,by simp[tm]⟩;have p:Operand.tmp c∈O.toList:=by rw[J];exact Z4.2 ⟨c,Q,rfl⟩
    simpa using .inr (by simpa using p)
   simp only[dz,Y];rw[J];exact G7 l Z
  exact h.elim
 | call c=>
  obtain⟨callee,args,ts⟩:=c;simp only[dz]at h;split at h
  ·rename_i f
   exact(NZ h).mono (by simp +contextual [dm,Op.operands,Call.operands,tms])
  ·exact(KS h).mono (λt A=>by
     rcases List.mem_cons.1 A with rfl|A
     · simp[dm,Op.operands,Call.operands,tm]
     simp only[tms,List.mem_flatMap]at A;obtain⟨x,w,hx2⟩:=A;simp only[dm,Op.operands,Call.operands,List.mem_flatMap];exact⟨x,by simp_all,hx2⟩)
  ·split at h
   ·rename_i x T w L
    have H:args = #[x]:=by apply Array.ext';simpa using w
    have e2:ts = #[T]:=by apply Array.ext';simpa using L
    subst H e2;exact(R8 h).mono (by simp[dm,Op.operands,Call.operands])
   exact h.elim
  ·split at h
   ·rename_i x y T N w L
    have H:args = #[x,y]:=by apply Array.ext';simpa using w
    have e2:ts = #[T,N]:=by apply Array.ext';simpa using L
    subst H e2;cases q:Nat.beq T N with
    | false=>rw[q]at h;exact h.elim
    | true=>
     rw[q]at h;obtain⟨B,C,D,E⟩:=(NA h).mono (ts':=dm (.call ⟨.builtin .append,#[x,y],#[T,N]⟩)) (by simp[dm,Op.operands,Call.operands]);exact⟨B,C,D,λa j b g=>by simp only[dz,q,cond_true];exact E a j b g⟩
   exact h.elim
  ·split at h
   ·rename_i x y w
    have H:args = #[x,y]:=by apply Array.ext';simpa using w
    subst H;exact(Pe h).mono (by simp[dm,Op.operands,Call.operands])
   exact h.elim
  ·split at h
   ·rename_i x y w
    have H:args = #[x,y]:=by apply Array.ext';simpa using w
    subst H;exact(Pe h).mono (by simp[dm,Op.operands,Call.operands])
   exact h.elim
  exact h.elim
 | _=>exact h.elim
end
def di(o:Oper)(i:Nat):Bool:=o.after.toList.any λe=>Region.binds .any e&&Nat.beq e.on i
def dh(ops:Array Oper)(i:Nat):Oper:=ops.getD i default
def below(n:Nat)(p:Nat->Bool):Bool:=(List.range n).all p
def uP(ops:Array Oper)(i j:Nat):Bool:=match(dh ops i).dst with|some d=>((dh ops j).looksAt ops).any (Nat.beq d)|none=>false
def E1:List Nat->Nat
 | []=>0
 | k::a=>2 ^ k ||| E1 a
def ons(o:Oper):List Nat:=(o.after.toList.filter λe=>Region.binds .any e).map (·.on)
def frc{α:Type}(n:Nat)(K:Nat->α):α:=match n with|0=>K 0|n+1=>K (n+1)
def Pr{α:Type}(n:Nat)(K:Nat->α):frc n K=K n:=by cases n<;>rfl
def clo(ops:Array Oper):Nat->Nat->Nat
 | 0,S=>S
 | k+1,S=>bif S.testBit k then frc (S ||| E1 (ons (dh ops k))) (clo ops k) else clo ops k S
def D8(ops:Array Oper)(m:Nat):Bool:=
 below ops.size λj=>((dh ops j).after.toList.all λe=>!Region.binds .any e || Nat.blt e.on j) &&
  (bif Nat.blt j m then below m (λi=>Nat.beq i j || ((di (dh ops j) i || di (dh ops i) j || (dh ops i).apart ops (dh ops j))&&(!uP ops i j || di (dh ops j) i))) else frc (clo ops j (E1 (ons (dh ops j)))) λS=>below j λi=>S.testBit i)
def yG:List (Nat × Nat × List Nat)->Nat->Option (Nat × List Nat)
 | [],_=>none
 | p::l,id=>bif Nat.beq id p.1 then some p.2 else yG l id
def gJ(P:Program)(TE:Nat->Option TI)(N:fD)(ops:Array Oper)(o:Oper)(K:(Nat->AV)->Prop)(F:Nat->AV):Prop:=
 fJ F ops o.guard (λF=>match o.dst with|some d=>dz P TE F o.op λa=>bS N F d a K|none=>False)
  (λF=>match o.dst with|some d=>bS N F d (.H (.tup []) []) K|none=>False)
def oG:Op->Option (Option Nat × Nat)
 | .buildSlice T 1 ps=>(match ps.toList with|[(0,.tmp s)]=>some (some T,s)|_=>none)
 | .move (.tmp s)=>some (none,s)
 | _=>none
def own1(T:Option Nat)(k:Kd)(cs:List C):Bool:=match T with
 | some _=>(match k with
   | .one=>(match cs with|[c]=>dS c|_=>false)
   | .agg=>(match cs with|[c]=>dS c|_=>false)
   | _=>false)
 | none=>(match k with|.tup _=>!aZ cs|_=>false)
def Ui(TE:Nat->Option TI)(N:fD)(F:Nat->AV)(d:Nat)(T:Option Nat)(s:Nat)(K:(Nat->AV)->Prop):Prop:=match T with
 | some T=>gh TE N F d T 1 [(0,.tmp s)] K
 | none=>ju N F d (.tmp s) K
def HZ(F:Nat->AV)(o:Oper):Option (Option Nat × Nat):=
 match o.guard with
 | some _=>none
 | none=>match oG o.op with
  | none=>none
  | some p=>match F p.2 with
   | .H k cs=>bif own1 p.1 k cs then some p else none
   | .dead=>none
   | .ref ..=>none
   | .c2 ..=>none
   | .iref ..=>none
   | .fn ..=>none
   | .fv _=>none
def jC(ops:Array Oper)(o:Oper)(s:Nat):Bool:=
 ((List.range ops.size).any λk=>di o k&&(match(dh ops k).dst with|some a=>Nat.beq a s|none=>false))&&Nat.ble (ops.toList.filter λk=>(k.looksAt ops).any (Nat.beq s)).length 1
def pd(ds:List Nat)(o:Oper):Bool:=match o.dst with|some d=>ds.any (Nat.beq d)|none=>false
def twk:List Nat->List Nat
 | []=>[]
 | e::l=>bif Nat.ble 1000 e then(e - 1000)::twk l else []
def dec:List Nat->List (Nat × List Nat)
 | []=>[]
 | e::l=>bif Nat.ble 1000 e then dec l else(e,twk l)::dec l
def Tk:Op->Bool
 | .move (.tmp _)=>true
 | .assign _=>true
 | .extract ..=>true
 | .build ..=>true
 | .buildSlice ..=>true
 | .store ..=>true
 | .load ..=>true
 | .fieldAddr ..=>true
 | .field ..=>true
 | .binOp ..=>true
 | .unOp ..=>true
 | .call c=>(pF c).isSome
 | _=>false
def qb:Op->Bool
 | .call c=>(match c.callee with|.value (.func _)=>true|_=>false)
 | _=>false
def qF(l:List (Nat × List Nat))(i:Nat):Bool:=l.any λp=>Nat.beq p.1 i
def wv(ops:Array Oper)(j i:Nat):Bool:=(clo ops j (E1 (ons (dh ops j)))).testBit i
def Uu(o:Oper):Bool:=match o.guard with|none=>true|some _=>false
def UF(sch:List (Nat × List Nat))(i:Nat):Bool:=sch.any λp=>Nat.beq p.1 i&&!p.2.isEmpty
def U9(ops:Array Oper)(a b:Oper)(nm:Bool):Bool:=match b.dst with
 | none=>false
 | some c=>Uu a&&(Tk a.op || qb a.op)&&!(match a.dst with|some d=>Nat.beq d c|none=>false)&&!(a.looksAt ops).any (Nat.beq c)&&Uu b&&!(b.looksAt ops).any (Nat.beq c)&&(nm || match oG b.op with|none=>true|some p=>!jC ops b p.2)
def AM(ops:Array Oper)(ds:List Nat)(nm:Nat->Bool)(i j:Nat):Bool:=
 bif pd ds (dh ops j) then(bif pd ds (dh ops i) then(di (dh ops j) i || di (dh ops i) j || (dh ops i).apart ops (dh ops j))&&(!uP ops i j || di (dh ops j) i)&&!(match(dh ops i).dst with|some d=>(match(dh ops j).dst with|some e=>Nat.beq d e|none=>false)|none=>false) else true)
 else(bif pd ds (dh ops i) then(wv ops j i || wv ops i j || U9 ops (dh ops j) (dh ops i) (nm i))&&(!uP ops i j || di (dh ops j) i) else true)
def FF(ops:Array Oper)(ds:List Nat):List (Nat × List Nat)->Bool
 | []=>true
 | k::l=>Nat.blt k.1 ops.size&&!qF l k.1&&((dh ops k.1).after.toList.all λe=>!Region.binds .any e || !(Nat.beq k.1 e.on || qF l e.on)) &&
  (pd ds (dh ops k.1) || ((l.all λj=>wv ops j.1 k.1)&&(below ops.size λp=>!pd ds (dh ops p) || qF l p || wv ops k.1 p || k.2.any (Nat.beq p))&&(!(l.any λj=>pd ds (dh ops j.1)) || (Uu (dh ops k.1)&&(Tk (dh ops k.1).op || qb (dh ops k.1).op)))))&&FF ops ds l
def DM(ops:Array Oper)(ds:List Nat)(sch:List (Nat × List Nat)):Bool:=
 (below ops.size λj=>((dh ops j).after.toList.all λe=>!Region.binds .any e || Nat.blt e.on j)&&qF sch j&&(!pd ds (dh ops j) || (match oG (dh ops j).op with|none=>true|some p=>!jC ops (dh ops j) p.2 || ds.any (Nat.beq p.2)))&&below ops.size λi=>Nat.beq i j || AM ops ds (UF sch) i j)&&Nat.beq sch.length ops.size&&FF ops ds sch
def nX(tb:List (Nat × Nat × List Nat))(id:Nat)(ops:Array Oper):Bool:=
 match yG tb id with
 | some (m,ds)=>bif Nat.ble 65536 m then true else bif Nat.ble 256 m then DM ops (ds.take (m - 256)) (dec (ds.drop (m - 256))) else(Nat.ble m ops.size&&below m λj=>match(dh ops j).dst with|some d=>ds.any (Nat.beq d)|none=>true)&&D8 ops m
 | none=>false
def lN(P:Program)(TE:Nat->Option TI)(N:fD)(ops:Array Oper)(o:Oper)(K:(Nat->AV)->Prop)(F:Nat->AV):Prop:=
 match HZ F o with
 | some p=>(match o.dst with|some d=>bif jC ops o p.2 then Ui TE N F d p.1 p.2 K else False|none=>False)
 | none=>gJ P TE N ops o K F
def PZ(P:Program)(TE:Nat->Option TI)(N:fD)(ops:Array Oper):Nat->List Oper->((Nat->AV)->Prop)->(Nat->AV)->Prop
 | 0,l,K,F=>My P TE N ops l K F
 | _+1,[],K,F=>K F
 | m+1,o::l,K,F=>lN P TE N ops o (PZ P TE N ops m l K) F
def Ro(ds:List Nat)(t:Nat):Bool:=ds.any (Nat.beq t)
def US(ds:List Nat):AV->AV
 | .ref t off st=>bif Ro ds t then .dead else .ref t off st
 | .c2 t off st ag=>bif Ro ds t then .dead else .c2 t off st ag
 | .fn f caps=>bif caps.any (Ro ds) then .dead else .fn f caps
 | .H k cs=>.H k cs
 | .iref r off=>.iref r off
 | .fv Ok=>.fv Ok
 | .dead=>.dead
def clr(ds:List Nat)(F:Nat->AV):Nat->AV:=λt=>US ds (F t)
def Di(ds:List Nat)(F:Nat->AV)(t:Nat):clr ds F t=bif ds.any (λd=>(F t).uses d) then .dead else F t:=by
 unfold clr;cases F t with
 | dead=>cases ds.any λd=>AV.uses d .dead<;>rfl
 | H k i=>
  have:ds.any (λd=>(AV.H k i).uses d)=false:=by
   rw[<-I6,O4]
   rintro⟨d,_,h⟩
   cases h
  rw[this];rfl
 | iref r a=>
  have:ds.any (λd=>(AV.iref r a).uses d)=false:=by
   rw[<-I6,O4]
   rintro⟨d,_,h⟩
   cases h
  rw[this];rfl
 | fv Ok=>
  have:ds.any (λd=>(AV.fv Ok).uses d)=false:=by
   rw[<-I6,O4]
   rintro⟨d,_,h⟩
   cases h
  rw[this];rfl
 | ref j a l=>rfl
 | c2 j a l n=>rfl
 | fn f caps=>
  have:ds.any (λd=>(AV.fn f caps).uses d)=caps.any (Ro ds):=by
   rw[I5,O4,O4];constructor
   ·rintro⟨d,b,h⟩
    simp only[AV.uses,O4]at h;obtain⟨c,e,g⟩:=h;exact⟨c,e,O4.2 ⟨d,b,g⟩⟩
   rintro⟨c,e,h⟩
   obtain⟨d,b,g⟩:=O4.1 h;exact⟨d,b,by simp only[AV.uses,O4];exact⟨c,e,g⟩⟩
  rw[this];rfl
inductive Sm(a b:AV)(K:Prop):Prop
 |mk_ (h:a=b/\K)
def Sm.rf{a:AV}{K:Prop}(h:K):Sm a a K:=.mk_ ⟨rfl,h⟩
def CE:type_of% @Sm.rf:=@Sm.rf
def Sm.out{a b:AV}{K:Prop}(h:Sm a b K):a=b/\K:=h.1
def Uw(P:Program)(TE:Nat->Option TI)(ops:Array Oper)(p:Nat)(K:Prop)(F:Nat->AV):Prop:=
 match(dh ops p).dst with
 | none=>False
 | some d=>(match HZ F (dh ops p) with
   | some _=>False
   | none=>dz P TE F (dh ops p).op λa=>Sm a (F d) K)
def Qm(P:Program)(TE:Nat->Option TI)(ops:Array Oper):List Nat->Prop->(Nat->AV)->Prop
 | [],K,_=>K
 | p::l,K,F=>Uw P TE ops p (Qm P TE ops l K F) F
def Qk(P:Program)(TE:Nat->Option TI)(N:fD)(ops:Array Oper)(nm:Bool)(o:Oper)(K:(Nat->AV)->Prop)(F:Nat->AV):Prop:=
 match nm with
 | false=>lN P TE N ops o K F
 | true=>(match HZ F o with
   | some _=>False
   | none=>gJ P TE N ops o K F)
def KY(P:Program)(TE:Nat->Option TI)(N:fD)(ops:Array Oper)(ds:List Nat)(nm:Nat->Bool):List (Nat × List Nat)->((Nat->AV)->Prop)->(Nat->AV)->Prop
 | [],K,F=>K F
 | k::l,K,F=>bif pd ds (dh ops k.1) then Qk P TE N ops (nm k.1) (dh ops k.1) (KY P TE N ops ds nm l K) F else j7 P TE N ops (dh ops k.1) (λa=>Qm P TE ops k.2 (KY P TE N ops ds nm l K a) a) F
def QK:List Nat->(List Nat->Prop)->Prop
 | [],K=>K []
 | a::l,K=>QK l λb=>K (a::b)
def Kv:∀(l:List Nat)(K:List Nat->Prop),QK l K=K l
 | [],_=>rfl
 | a::l,K=>by rw[QK,Kv l]
def Dh(l:List Nat)(j:Nat):Bool:=l.any (Nat.beq j)
def Qg(ops:Array Oper)(done:List Nat):List Nat:=(List.range ops.size).filter λj=>!Dh done j&&((dh ops j).after.toList.all λe=>!Region.binds .any e || Dh done e.on)
def UT(p:Nat->Prop):Nat->List Nat->Prop
 | i,[]=>p i
 | i,j::l=>p i/\UT p j l
def UP(l:List Nat)(K:Prop)(p:Nat->Prop):Prop:=match l with
 | []=>K
 | i::l=>UT p i l
def Tz(P:Program)(TE:Nat->Option TI)(N:fD)(ops:Array Oper)(K:(Nat->AV)->Prop):Nat->List Nat->(Nat->AV)->Prop
 | 0,done,F=>UP (Qg ops done) (K F) λ_=>False
 | n+1,done,F=>UP (Qg ops done) (K F) λi=>j7 P TE N ops (dh ops i) (Tz P TE N ops K n (i::done)) F
def DD(P:Program)(TE:Nat->Option TI)(N:fD)(tb:List (Nat × Nat × List Nat))(id:Nat)(ops:Array Oper)(K:(Nat->AV)->Prop)(F:Nat->AV):Prop:=
 match yG tb id with
 | some (m,ds)=>bif Nat.ble 65536 m then Tz P TE N ops K ops.size [] F else bif Nat.ble 256 m then QK (ds.take (m - 256)) λa=>KY P TE N ops a (UF (dec (ds.drop (m - 256)))) (dec (ds.drop (m - 256))) K (clr a F) else PZ P TE N ops m ops.toList K (clr ds F)
 | none=>False
variable{i:Nat}
def gI{n:Nat}{p:Nat->Bool}(h:below n p=true)(a:i<n):p i=true:=V4.1 h i (List.mem_range.2 a)
def cG{o:Oper} : di o i=true↔∃e,e∈o.after/\Region.binds .any e=true/\e.on=i:=by
 unfold di;rw[O4];constructor
 ·rintro⟨e,b,a⟩
  simp only[I0]at a;exact⟨e,by simpa using b,a.1,O2 a.2⟩
 rintro⟨e,b,a,rfl⟩
 exact⟨e,by simpa using b,by rw[a,Nat.beq_refl];rfl⟩
def bh{ops:Array Oper}{o:Oper}(h:ops[i]? = some o):dh ops i=o:=by simp[dh,V7,h]
section
variable{P:Program}{w0 w w1:World}{M S0 S:af}{N:fD}{φ:Nat->af}{F:Nat->AV}{a:Act}{TE:Nat->Option TI}{ops:Array Oper}
variable{d:Nat}
def tW{b:Bool}(a:F d=.H .one [.v (.bool b)]):Fi F d b=F:=by
 funext t
 unfold Fi;cases c:Nat.beq t d with
 | true=>have:=O2 c;subst this;rw[a];rfl
 | false=>rfl
def fY(o:Oper)(t:Nat)(h:t∈dm o.op):t∈o.looksAt ops:=by
 unfold Oper.looksAt;refine List.mem_append_left _ ?_;unfold dm at h;obtain⟨x,b,a⟩:=List.mem_flatMap.1 h;refine List.mem_filterMap.2 ⟨x,b,?_⟩;cases x with
 | tmp c=>simp[tm]at a;subst a;rfl
 | _=>simp[tm]at a
structure Ve(P:Program)(TE:Nat->Option TI)(N:fD)(ops:Array Oper)(o:Oper)(F:Nat->AV)(d:Nat)(av:AV):Prop where
 dst:o.dst=some d
 lt:N.free d=true
 self:av.uses d=false
 from_:eG F (o.looksAt ops) av
 at_:∀F':Nat->AV,jA F F' (o.looksAt ops)->∀K':(Nat->AV)->Prop,K' (put F' d av)->gJ P TE N ops o K' F'
def jA.refl(F:Nat->AV)(ts:List Nat):jA F F ts:=λ_ _=>⟨rfl,λ_ _ _ _ h=>h⟩
variable{K:(Nat->AV)->Prop}{o:Oper}
def x5(h:gJ P TE N ops o K F):∃d av,Ve P TE N ops o F d av/\K (put F d av):=by
 cases i:o.dst with
 | none=>
  exfalso;unfold gJ at h;rw[i]at h;unfold fJ at h;cases q:o.guard with
  | none=>rw[q]at h;exact h
  | some p=>
   obtain⟨j,want⟩:=p;rw[q]at h;simp only at h;cases A:(ops[j]?).bind (·.dst) with
   | none=>rw[A]at h;exact h
   | some D=>
    rw[A]at h;simp only at h;split at h
    ·rename_i b _
     replace h:=Bf.out h;cases b<;>cases want<;>exact h
    ·exact h
    exact h
 | some d=>
  have put1:∀{a:Nat->AV}{av:AV}{c:(Nat->AV)->Prop},N.free d=true->av.uses d=false->c (put a d av)->bS N a d av c:=λB C H=>by unfold bS;rw[B,C];exact H
  have put2:∀{a:Nat->AV}{av:AV}{c:(Nat->AV)->Prop},bS N a d av c->N.free d=true/\av.uses d=false/\c (put a d av):=fun {a av c} n=>by
   unfold bS at n;cases E:(N.free d&&!av.uses d) with
   | false=>rw[E]at n;exact n.elim
   | true=>
    rw[E]at n;simp only[I0,Bool.not_eq_true']at E;exact⟨E.1,E.2,n⟩
  have pure1:dz P TE F o.op (λav=>bS N F d av K)->∃av,N.free d=true/\av.uses d=false/\K (put F d av)/\eG F (o.looksAt ops) av/\∀a:Nat->AV,jA F a (o.looksAt ops)->∀c:(Nat->AV)->Prop,c (put a d av)->dz P TE a o.op (λav=>bS N a d av c):=λn=>by
   obtain⟨av,B,C,H⟩:=ki n;obtain⟨k,l,r⟩:=put2 B;refine⟨av,k,l,r,C.mono λt J=>fY o t J,λa f c u=>?_⟩;exact H a (f.mono λt J=>fY o t J) _ (put1 k l u)
  unfold gJ at h;rw[i]at h;unfold fJ at h;cases q:o.guard with
  | none=>
   rw[q]at h;obtain⟨av,k,l,r,L,M⟩:=pure1 h;exact⟨d,av,⟨i,k,l,L,λa f c u=>by unfold gJ fJ;rw[q,i];exact M a f c u⟩,r⟩
  | some p=>
   obtain⟨j,want⟩:=p;rw[q]at h;simp only at h;cases A:(ops[j]?).bind (·.dst) with
   | none=>rw[A]at h;exact h.elim
   | some D=>
    rw[A]at h;simp only at h;have G:D∈o.looksAt ops:=by
     unfold Oper.looksAt;rw[q];simp only[A,Option.toList_some];simp
    split at h
    case h_3=>exact h.elim
    case h_2=>
     rename_i Q R w;obtain⟨k,l,r⟩:=put2 h;refine⟨d,.H (.tup []) [],⟨i,k,l,(λd i=>by cases i),λa f c u=>?_⟩,r⟩;unfold gJ fJ;rw[q,i];simp only;rw[A];simp only;rw[(f D G).1.trans w];exact put1 k l u
    rename_i b w;have same:∀{a:Nat->AV},jA F a (o.looksAt ops)->a D=.H .one [.v (.bool b)]:=λf=>(f D G).1.trans w
    have back:∀{a:Nat->AV}{c:(Nat->AV)->Prop},jA F a (o.looksAt ops)->(b=want->dz P TE a o.op (λav=>bS N a d av c))->(b = !want->bS N a d (.H (.tup []) []) c)->gJ P TE N ops o c a:=fun {a c} f B C=>by
     unfold gJ fJ;rw[q,i];simp only;rw[A];simp only;rw[same f];simp only;refine Bf.P (λO=>?_) (λO=>?_)
     ·subst O
      rw[tW (same f)];cases want with
      | true=>exact B rfl
      | false=>exact C rfl
     subst O;rw[tW (same f)];cases want with
     | true=>exact C rfl
     | false=>exact B rfl
    have g:=tW w;replace h:=Bf.out h;by_cases y:b=want
    ·have n:dz P TE F o.op (λav=>bS N F d av K):=by
      subst y;cases b with
      | true=>have:=h;rw[g]at this;exact this
      | false=>have:=h;rw[g]at this;exact this
     obtain⟨av,k,l,r,L,M⟩:=pure1 n;exact⟨d,av,⟨i,k,l,L,λa f c u=>back f (λ_=>M a f c u) (λe=>by subst y;cases b<;>cases e)⟩,r⟩
    have n:bS N F d (.H (.tup []) []) K:=by
     cases b<;>cases want<;>first|exact absurd rfl y|skip
     ·have:=h;rw[g]at this;exact this
     have:=h;rw[g]at this;exact this
    obtain⟨k,l,r⟩:=put2 n;exact⟨d,.H (.tup []) [],⟨i,k,l,(λd i=>by cases i),λa f c u=>back f (λe=>absurd e y) (λ_=>put1 k l u)⟩,r⟩
def aft:AV->AV
 | .H k a=>.H k (splice a 0 (List.replicate a.length .x))
 | _=>.H .one [.x]
def MR(v:AV)(e:Nat):(aft v).uses e=false:=by unfold aft;split<;>rfl
def eff(a:Option Nat)(d:Nat)(av:AV)(F:Nat->AV):Nat->AV:=λt=>if t=d then av else if a=some t then aft (F t) else F t
def Ec(av:AV)(a:∀t,(F t).uses d=false):put F d av=eff none d av F:=by
 funext t
 unfold eff;by_cases h:t=d
 ·subst h;rw[nk,CD rfl]
 rw[ig _ _ h,CB h,CB (λe=>by cases e),Bx,a t];rfl
variable{s:Nat}
def Ug{v:AV}(h:v.uses s=false):si s v=v:=by
 cases v with
 | c2 t a b c=>simp only[AV.uses]at h;simp[si,h]
 | ref t a b=>simp only[AV.uses]at h;cases b<;>simp[si,h]
 | _=>rfl
def Qu{k:Kd}{cs:List C}(av:AV)(b:F s=.H k cs)(c:∀t,(F t).uses d=false)(f:∀t,(F t).uses s=false):put (updH F s k (splice cs 0 (List.replicate cs.length .x))) d av=eff (some s) d av F:=by
 funext t
 unfold eff;by_cases h:t=d
 ·subst h;rw[nk,CD rfl]
 rw[ig _ _ h,CB h];by_cases a:t=s
 ·subst a;rw[ic,CD rfl,b];rfl
 rw[CB (λe=>a (by simpa using e.symm))];unfold updH;rw[show Nat.beq t s=false by rw[<-I6,Nat.beq_eq];exact a];simp only[cond_false];rw[Ug (f t),Bx,c t];rfl
def HI{T:Nat}{k:Kd}{c:C}(n:k=.one\/k=.agg)(o:F s=.H k [c])(p:dS c=true)(h:gh TE N F d T 1 [(0,.tmp s)] K) :
  ∃av,N.free d=true/\(∀e,av.uses e=false)/\K (put (updH F s k [.x]) d av)/\∀(F':Nat->AV)(K':(Nat->AV)->Prop),F' s=.H k [c]->K' (put (updH F' s k [.x]) d av)->gh TE N F' d T 1 [(0,.tmp s)] K':=by
 have key:∀F':Nat->AV,F' s=.H k [c]->∀K':(Nat->AV)->Prop,gh TE N F' d T 1 [(0,.tmp s)] K'=KF TE T λ_ a=>bif Nat.ble (1*a.size) 16777216 then(bif Nat.beq 1 a.size&&Nat.ble (0*a.size+a.size) (rep a.zero 1).length then bS N (updH F' s k [.x]) d (.H .one [.s .own (chunk a.size 1 (splice (rep a.zero 1) (0*a.size) [c]))]) K' else False) else False:=by
  intro F' g K';unfold gh
  congr 1
  funext e a
  rcases n with rfl|rfl<;>simp only[d3,fillW,UK,vK,n8,g,iO,aZ,p,cond_true,cond_false,ij,pY,List.length_singleton,List.replicate]
  all_goals rfl
 rw[key F o]at h;obtain⟨e,a,b,l⟩:=jY h;cases f:Nat.ble (1*a.size) 16777216 with
 | false=>rw[f]at b;exact b.elim
 | true=>
  cases i:(Nat.beq 1 a.size&&Nat.ble (0*a.size+a.size) (rep a.zero 1).length) with
  | false=>rw[f,i]at b;exact b.elim
  | true=>
   rw[f,i]at b;simp only[cond_true]at b;unfold bS at b;cases j:N.free d with
   | false=>rw[j]at b;exact b.elim
   | true=>
    rw[j]at b;refine⟨_,rfl,λ_=>rfl,b,λF' K' g q=>?_⟩;rw[key F' g];refine l _ ?_;simp only[f,i,cond_true];unfold bS;rw[j];exact q
variable{T:Option Nat}
def T8{k:Kd}{cs:List C}(j:F s=.H k cs)(a:own1 T k cs=true)(h:Ui TE N F d T s K) :
  ∃av,N.free d=true/\(∀e,av.uses e=false)/\K (put (updH F s k (splice cs 0 (List.replicate cs.length .x))) d av)/\∀(F':Nat->AV)(K':(Nat->AV)->Prop),F' s=.H k cs->K' (put (updH F' s k (splice cs 0 (List.replicate cs.length .x))) d av)->Ui TE N F' d T s K':=by
 cases T with
 | some T=>
  have i:(k=.one\/k=.agg)/\∃c,cs=[c]/\dS c=true:=by
   unfold own1 at a;cases k with
   | one=>match cs,a with|[c],a=>exact⟨.inl rfl,c,rfl,a⟩
   | agg=>match cs,a with|[c],a=>exact⟨.inr rfl,c,rfl,a⟩
   | _=>cases a
  obtain⟨l,c,rfl,n⟩:=i;exact HI l j n h
 | none=>
  have i:∃b,k=.tup b/\aZ cs=false:=by
   unfold own1 at a;cases k with
   | tup b=>exact⟨b,rfl,by simpa using a⟩
   | _=>cases a
  obtain⟨b,rfl,o⟩:=i;have key:∀F':Nat->AV,F' s=.H (.tup b) cs->∀K',Ui TE N F' d none s K'=bS N (updH F' s (.tup b) (splice cs 0 (List.replicate cs.length .x))) d (.H (.tup b) cs) K':=λF' f K'=>by
   simp only[Ui,ju,f,o,cond_false]
  rw[key F j]at h;unfold bS at h;cases g:N.free d with
  | false=>rw[g]at h;exact h.elim
  | true=>
   rw[g]at h;refine⟨_,rfl,λ_=>rfl,h,λF' K' f p=>?_⟩;rw[key F' f];unfold bS;rw[g];exact p
structure Yl(P:Program)(TE:Nat->Option TI)(N:fD)(ops:Array Oper)(o:Oper)(F:Nat->AV)(mv:Option Nat)(d:Nat)(av:AV):Prop where
 dst:o.dst=some d
 lt:N.free d=true
 self:av.uses d=false
 from_:eG F (o.looksAt ops) av
 mvl:∀s,mv=some s->o.guard=none/\(∃T,oG o.op=some (T,s))/\jC ops o s=true
 at_:∀F':Nat->AV,jA F F' (o.looksAt ops)->(∀t,(F' t).uses d=false)->(∀s,mv=some s->∀t,(F' t).uses s=false)->∀K':(Nat->AV)->Prop,K' (eff mv d av F')->lN P TE N ops o K' F'
def K6{o:Op}(h:oG o=some (T,s)):(∃a ps,T=some a/\o=.buildSlice a 1 ps/\ps.toList=[(0,.tmp s)])\/(T=none/\o=.move (.tmp s)):=by
 unfold oG at h;split at h
 ·split at h
  ·rename_i a ps c b
   simp only[C1,Prod.mk.injEq]at h;obtain⟨rfl,rfl⟩:=h;exact .inl ⟨_,_,rfl,rfl,b⟩
  cases h
 ·simp only[C1,Prod.mk.injEq]at h
  obtain⟨rfl,rfl⟩:=h;exact .inr ⟨rfl,rfl⟩
 cases h
def df(h:oG o.op=some (T,s)):s∈o.looksAt ops:=by
 refine fY o s ?_;unfold dm;refine List.mem_flatMap.2 ⟨.tmp s,?_,by simp[tm]⟩;rcases K6 h with⟨d,b,-,a,c⟩|⟨-,a⟩
 ·rw[a]
  simp only[Op.operands];have:b = #[(0,.tmp s)]:=Array.ext' (by rw[c]);subst this;simp
 rw[a];simp[Op.operands]
def Gw{p:Option Nat × Nat}(h:HZ F o=some p):o.guard=none/\oG o.op=some p/\∃k cs,F p.2=.H k cs/\own1 p.1 k cs=true:=by
 unfold HZ at h;split at h
 ·cases h
 rename_i b;split at h
 ·cases h
 rename_i c d;split at h
 case h_1=>
  rename_i k cs e;cases a:own1 c.1 k cs with
  | false=>rw[a]at h;cases h
  | true=>
   rw[a]at h;simp only[cond_true,C1]at h;subst h;exact⟨b,d,_,_,e,a⟩
 all_goals cases h
def w7{F':Nat->AV}(a:jA F F' (o.looksAt ops)):HZ F' o=HZ F o:=by
 unfold HZ;cases c:o.guard with
 | some _=>rfl
 | none=>
  cases b:oG o.op with
  | none=>rfl
  | some p=>simp only;rw[(a p.2 (df b)).1]
def th(e:HZ F o=none)(h:gJ P TE N ops o K F)(f:∀d,o.dst=some d->∀t,(F t).uses d=false):∃d av,Yl P TE N ops o F none d av/\K (eff none d av F):=by
 obtain⟨d,av,a,g⟩:=x5 h;refine⟨d,av,⟨a.dst,a.lt,a.self,a.from_,λs i=>(by cases i),λj c k _ l b=>?_⟩,by rw[<-Ec av (f d a.dst)];exact g⟩;unfold lN;rw[w7 c,e];exact a.at_ j c l (by rw[Ec av k];exact b)
def q7(h:lN P TE N ops o K F)(w:∀d,o.dst=some d->∀t,(F t).uses d=false)(i:∀T s,o.guard=none->oG o.op=some (T,s)->jC ops o s=true->∀t,(F t).uses s=false) :
  ∃y d av,Yl P TE N ops o F y d av/\K (eff y d av F):=by
 unfold lN at h;cases c:HZ F o with
 | none=>
  rw[c]at h;obtain⟨d,av,l⟩:=th c h w;exact⟨none,d,av,l⟩
 | some p=>
  rw[c]at h;obtain⟨A,b,k,J,j,f⟩:=Gw c;simp only at h;cases g:o.dst with
  | none=>rw[g]at h;exact h.elim
  | some d=>
   rw[g]at h;simp only at h;cases a:jC ops o p.2 with
   | false=>rw[a]at h;exact h.elim
   | true=>
    rw[a]at h;simp only[cond_true]at h;obtain⟨av,l,B,D,E⟩:=T8 j f h;refine⟨some p.2,d,av,⟨g,l,B d,λe C=>(by rw[B e]at C;cases C),λs i=>?_,λG n q r H u=>?_⟩,?_⟩
    ·simp only[C1]at i
     subst i;exact⟨A,⟨p.1,b⟩,a⟩
    ·unfold lN
     rw[w7 n,c];simp only;rw[g];simp only;rw[a];refine E G H ((n p.2 (df b)).1.trans j) ?_;rw[Qu av ((n p.2 (df b)).1.trans j) q (r p.2 rfl)];exact u
    rw[<-Qu av j (w d g) (i p.1 p.2 A b a)];exact D
def Ma{nm:Bool}(h:Qk P TE N ops nm o K F)(g:∀d,o.dst=some d->∀t,(F t).uses d=false)(i:∀T s,o.guard=none->oG o.op=some (T,s)->jC ops o s=true->∀t,(F t).uses s=false) :
  ∃a d av,Yl P TE N ops o F a d av/\K (eff a d av F)/\(nm=true->a=none):=by
 unfold Qk at h;cases nm with
 | false=>
  obtain⟨a,d,av,b,c⟩:=q7 h g i;exact⟨a,d,av,b,c,λe=>(by cases e)⟩
 | true=>
  cases f:HZ F o with
  | some p=>simp only[f]at h
  | none=>
   simp only[f]at h;obtain⟨d,av,b,c⟩:=th f h g;exact⟨none,d,av,b,c,λ_=>rfl⟩
end
section
variable{P:Program}{w0 w w1:World}{M S0 S:af}{N:fD}{φ:Nat->af}{F:Nat->AV}{a:Act}{TE:Nat->Option TI}{ops:Array Oper}
def xE(P:Program)(TE:Nat->Option TI)(N:fD)(ops:Array Oper)(m i:Nat)(K:(Nat->AV)->Prop)(F:Nat->AV):Prop:=
 match ops[i]? with
 | none=>K F
 | some o=>if i<m then lN P TE N ops o K F else j7 P TE N ops o K F
def Jp(P:Program)(TE:Nat->Option TI)(N:fD)(ops:Array Oper)(m:Nat)(K:(Nat->AV)->Prop):Nat->Array Bool->(Nat->AV)->Prop
 | 0,listed,F=>Region.ready .any ops listed=[]/\K F
 | fuel+1,listed,F=>(Region.ready .any ops listed=[]->K F)/\∀i,i∈Region.ready .any ops listed->xE P TE N ops m i (Jp P TE N ops m K fuel (listed.setIfInBounds i true)) F
variable{Q:Exit->Act->World->Prop}{Kc:Act->World->Prop}{K:(Nat->AV)->Prop}{o:Oper}
def bo.oneP0(h:bo w0 M S0 N S φ F a w)(g:∀t i,TE t=some i->bQ P t i)(b:gJ P TE N ops o K F)(n:∀F' p f,K F'->St w0 M S0 N F' p f->Kc p f) :
  if Region.wanted o (yielded ops a.tmps) then o.wp P a w Kc Q else Kc (a.put o.dst undef) w:=by
 unfold gJ at b;rcases yx h b with⟨j,b⟩|⟨j,b⟩
 ·rw[j,CD rfl]
  cases e:o.dst with
  | none=>rw[e]at b;exact b.elim
  | some d=>
   rw[e]at b;obtain⟨av,k,q⟩:=h.pure_ g b;refine q Kc Q λv f r=>?_
   obtain⟨F',l,c⟩:=h.putD_new r k;rw[e];exact n F' _ f l c
 rw[j,CB (by simp)];cases e:o.dst with
 | none=>rw[e]at b;exact b.elim
 | some d=>
  rw[e]at b;obtain⟨F',k,c⟩:=h.putD_new (v:=undef) (mi.same (av:=.H (.tup []) []) Pn) b;exact n F' _ w k c
variable{d:Nat}
def Le{p:Option Nat × Nat}(f:HZ F o=some p)(c:o.dst=some d)(h:Ui TE N F d p.1 p.2 K):j7 P TE N ops o K F:=by
 obtain⟨e,a,-⟩:=Gw f;obtain⟨T,s⟩:=p;rcases K6 a with⟨i,j,rfl,b,g⟩|⟨rfl,b⟩
 ·unfold j7 fJ
  rw[e];simp only;rw[b];simp only[BF];rw[c];simp only[ow,g];exact h
 unfold j7 fJ;rw[e];simp only;rw[b];simp only[BF];rw[c];simp only[ow];exact h
def bo.oneP(h:bo w0 M S0 N S φ F a w)(c:∀t i,TE t=some i->bQ P t i)(b:lN P TE N ops o K F)(j:∀F' k l,K F'->St w0 M S0 N F' k l->Kc k l) :
  if Region.wanted o (yielded ops a.tmps) then o.wp P a w Kc Q else Kc (a.put o.dst undef) w:=by
 unfold lN at b;cases g:HZ F o with
 | none=>rw[g]at b;exact h.oneP0 c b j
 | some p=>
  rw[g]at b;simp only at b;cases f:o.dst with
  | none=>rw[f]at b;exact b.elim
  | some d=>
   rw[f]at b;simp only at b;cases e:jC ops o p.2 with
   | false=>rw[e]at b;exact b.elim
   | true=>
    rw[e]at b;have:=h.one c (Le (P:=P) (ops:=ops) g f b) (Q:=Q) j;rw[f]at this;exact this
variable{m i:Nat}
def HQ(c:∀t i,TE t=some i->bQ P t i)(b:xE P TE N ops m i K F)(f:St w0 M S0 N F a w)(d:∀F' g j,K F'->St w0 M S0 N F' g j->Kc g j):wpOp P ops Q i Kc a w:=by
 unfold xE at b;unfold wpOp;cases k:ops[i]? with
 | none=>rw[k]at b;exact d F a w b f
 | some o=>
  rw[k]at b;simp only at b |-;obtain⟨S,φ,h⟩:=f;have:if Region.wanted o (yielded ops a.tmps) then o.wp P a w Kc Q else Kc (a.put o.dst undef) w:=by
   split at b
   ·exact h.oneP c b d
   exact h.one c b d
  split
  ·rename_i e;rw[CD e]at this;exact .inl this
  rename_i e;rw[CB e]at this;exact this
def Ar(b:∀t i,TE t=some i->bQ P t i){m:Nat}{K:(Nat->AV)->Prop}{Q:Exit->Act->World->Prop}(g:∀F' d e,K F'->St w0 M S0 N F' d e->Q .normal d e) :
  ∀(fuel:Nat)(listed:Array Bool)(F:Nat->AV)(a:Act)(w:World),Jp P TE N ops m K fuel listed F->St w0 M S0 N F a w->wpAny P .any ops Q fuel listed a w
 | 0,_,F,a,w,c,f=>⟨c.1,g F a w c.2 f⟩
 | fuel+1,_,F,a,w,c,f=>⟨λj=>g F a w (c.1 j) f,λi k=>HQ b (c.2 i k) f λF' d e l h=>Ar b g fuel _ F' d e l h⟩
structure A8(ops:Array Oper)(m:Nat)(F:Nat->AV)(listed:Array Bool):Prop where
 dst:∀j o d,j<m->ops[j]? = some o->listed.getD j true=false->o.dst=some d->∀t,(F t).uses d=false
 mv:∀j o T s,j<m->ops[j]? = some o->listed.getD j true=false->o.guard=none->oG o.op=some (T,s)->jC ops o s=true->∀t,(F t).uses s=false
def DC(ops:Array Oper)(listed:Array Bool):Prop:=∀j a,ops[j]? = some a->listed.getD j false=true->∀k,di a k=true->listed.getD k false=true
variable{e:Nat}
def QL{v:AV}(h:(kl d v).uses e=true):v.uses e=true/\v.uses d=false:=by
 rw[Bx]at h;cases a:v.uses d with
 | true=>rw[a]at h;cases h
 | false=>rw[a]at h;exact⟨h,rfl⟩
def xi{α:Type}{p:α->Bool} : ∀{l:List α}{i j:Nat}{x y:α},(l.filter p).length<=1->l[i]? = some x->l[j]? = some y->p x=true->p y=true->i=j
 | [],_,_,_,_,_,h,_,_,_=>by simp at h
 | a::l,0,0,_,_,_,_,_,_,_=>rfl
 | a::l,i+1,j+1,x,y,h,b,c,d,e=>by
  rw[xi (l:=l) (O5 (List.Sublist.length_le ((List.sublist_cons_self a l).filter p)) h) b c d e]
 | a::l,0,j+1,x,y,h,b,c,d,e=>by
  simp only[List.getElem?_cons_zero,C1]at b;subst b;rw[List.filter_cons_of_pos d]at h;have:y∈l.filter p:=t5.2 ⟨I2 c,e⟩;have:=List.length_pos_of_mem this;rw[List.length_cons]at h;omega
 | a::l,i+1,0,x,y,h,b,c,d,e=>by
  simp only[List.getElem?_cons_zero,C1]at c;subst c;rw[List.filter_cons_of_pos e]at h;have:x∈l.filter p:=t5.2 ⟨I2 b,d⟩;have:=List.length_pos_of_mem this;rw[List.length_cons]at h;omega
variable{j:Nat}{listed:Array Bool}
def iQ{a:Nat}(c:(listed.setIfInBounds j true).getD a true=false):a≠j:=λe=>by
 subst e;have b:a<listed.size:=by
  rcases Nat.lt_or_ge a listed.size with h|h
  ·exact h
  simp[V7,Array.getElem?_eq_none (show(listed.setIfInBounds a true).size<=a by simpa using h)]at c
 simp[V7,b]at c
variable{av:AV}{t:Nat}
def kI{b:Option Nat}(a:av.uses e=false)(c:(F t).uses e=false):(eff b d av F t).uses e=false:=by
 unfold eff;split
 ·exact a
 split
 ·exact MR _ _
 exact c
def A8.put{r:Option Nat}(h:A8 ops m F listed)(o:∀a b g,a<m->a≠j->ops[a]? = some b->listed.getD a true=false->b.dst=some g->av.uses g=false)(p:∀a b T s,a<m->a≠j->ops[a]? = some b->listed.getD a true=false->b.guard=none->oG b.op=some (T,s)->jC ops b s=true->av.uses s=false) :
  A8 ops m (eff r d av F) (listed.setIfInBounds j true):=by
 refine⟨λa b g i c f k t=>?_,λa b T s i c f q l n t=>?_⟩
 ·have e:=iQ f
  rw[getD_set_ne true (Ne.symm e)]at f;exact kI (o a b g i e c f k) (h.dst a b g i c f k t)
 have e:=iQ f;rw[getD_set_ne true (Ne.symm e)]at f;exact kI (p a b T s i e c f q l n) (h.mv a b T s i c f q l n t)
inductive oV(ops:Array Oper):Nat->Nat->Prop
 |one {j i:Nat} (h:di (dh ops j) i=true):oV ops j i
 |step {j k i:Nat} (h:di (dh ops j) k=true) (h2:oV ops k i):oV ops j i
def oV.trans{k:Nat}(h:oV ops j k)(a:oV ops k i):oV ops j i:=by
 induction h with
 | one h=>exact .step h a
 | step h _ b=>exact .step h (b a)
def Gj{i:Nat} : ∀{a:List Nat},(E1 a).testBit i=true->i∈a
 | [],h=>by simp[E1]at h
 | k::a,h=>by
  rw[E1,Nat.testBit_or,I7]at h;rcases h with h|h
  ·rw[Nat.testBit_two_pow]at h
   rw[C0]at h;rw[h];exact C2
  exact C6 _ (Gj h)
def zg(h:(E1 (ons o)).testBit i=true):di o i=true:=by
 have:=Gj h;unfold ons at this;obtain⟨e,a,rfl⟩:=Z4.1 this;rw[t5]at a;exact cG.2 ⟨e,by simpa using a.1,a.2,rfl⟩
def sf{j:Nat} : ∀(k S:Nat),(∀i,S.testBit i=true->oV ops j i)->∀i,(clo ops k S).testBit i=true->oV ops j i
 | 0,_,h,i,a=>h i a
 | k+1,S,h,i,a=>by
  rw[clo,Pr]at a;cases c:S.testBit k with
  | false=>rw[c]at a;exact sf k S h i a
  | true=>
   rw[c]at a;refine sf k _ (λe b=>?_) i a;rw[Nat.testBit_or,I7]at b;rcases b with d|d
   ·exact h e d
   exact(h k c).trans (.one (zg d))
def ox(d:DC ops listed)(b:∀j o,ops[j]? = some o->∀e∈o.after,Region.binds .any e=true->e.on<j)(p:oV ops j i):j<ops.size->(∀k,di (dh ops j) k=true->listed.getD k false=true)->listed.getD i false=true:=by
 induction p with
 | one h=>exact λ_ f=>f _ h
 | @step j k i h h2 ih=>
  intro g f;have r:k<j:=by
   have c:=(show ops[j]? = some ops[j] from O7 g)
   rw[bh c]at h;obtain⟨e,l,n,rfl⟩:=cG.1 h;exact b j _ c e l n
  have a:k<ops.size:=ω
  have c:=(show ops[k]? = some ops[k] from O7 a)
  exact ih a λq a=>d k _ c (f k h) q (by rw[bh c]at a;exact a)
def DC.put(h:DC ops listed)(n:j∈Region.ready .any ops listed):DC ops (listed.setIfInBounds j true):=by
 obtain⟨p,q,d,a⟩:=mem_ready.1 n;intro k ok c i e l;by_cases b:k=j
 ·subst b
  rw[d]at c;simp only[C1]at c;subst c;obtain⟨o,f,g,rfl⟩:=cG.1 l;exact getD_set_true (a o f g)
 rw[getD_set_ne false (Ne.symm b)]at i;exact getD_set_true (h k ok c i e l)
def gq{s:Nat}(h:jC ops o s=true):(∃k ok,di o k=true/\ops[k]? = some ok/\ok.dst=some s)/\∀(i j:Nat)(b c:Oper),ops[i]? = some b->ops[j]? = some c->s∈b.looksAt ops->s∈c.looksAt ops->i=j:=by
 unfold jC at h;rw[I0]at h;obtain⟨w,y⟩:=h;constructor
 ·obtain⟨k,A,g⟩:=O4.1 w
  have n:=List.mem_range.1 A;have t:=(show ops[k]? = some ops[k] from O7 n)
  rw[I0,bh t]at g;refine⟨k,_,g.1,t,?_⟩;have:=g.2;cases u:ops[k].dst with
  | none=>rw[u]at this;cases this
  | some a=>rw[u]at this;simp only at this;rw[O2 this]
 intro i j b c B C q r;have d:=O1 y;have e:ops.toList[i]? = some b:=by simpa using B
 have f:ops.toList[j]? = some c:=by simpa using C
 have D:(b.looksAt ops).any (Nat.beq s)=true:=O4.2 ⟨s,q,Nat.beq_refl s⟩;have E:(c.looksAt ops).any (Nat.beq s)=true:=O4.2 ⟨s,r,Nat.beq_refl s⟩;generalize ops.toList=l at d e f;exact xi (p:=λk:Oper=>(k.looksAt ops).any (Nat.beq s)) d e f D E
structure UR(ops:Array Oper)(m:Nat):Prop where
 back:∀j oj,ops[j]? = some oj->∀e∈oj.after,Region.binds .any e=true->e.on<j
 tail:∀j,m<=j->j<ops.size->∀i,i<j->oV ops j i
 apart:∀i j oi oj,i<m->j<m->i≠j->ops[i]? = some oi->ops[j]? = some oj->di oj i=true\/di oi j=true\/oi.apart ops oj=true
 look:∀i j oi oj d,i<m->j<m->i≠j->ops[i]? = some oi->ops[j]? = some oj->oi.dst=some d->d∈oj.looksAt ops->di oj i=true
def GF(h:D8 ops m=true):UR ops m:=by
 have n:∀j b,ops[j]? = some b->_:=λj b a=>gI h (t4.1 a).1
 refine⟨λj b a e t p=>?_,λj A a i l=>?_,λi j u b l a f o k=>?_,λi j u b d l a f o k w y=>?_⟩
 ·have:=n j b a
  rw[bh a]at this;simp only[I0]at this;have:=V4.1 this.1 e (by simpa using t);rw[p]at this;simpa[Nat.blt_eq] using this
 ·have q:=(show ops[j]? = some ops[j] from O7 a)
  have:=n j _ q;simp only[I0]at this;have c:=this.2;rw[show Nat.blt j m=false by rw[<-I6,Nat.blt_eq];omega]at c;simp only[cond_false,Pr]at c;exact sf j _ (λB r=>.one (zg r)) i (gI c l)
 ·have:=n j b k
  rw[bh k]at this;simp only[I0]at this;have c:=this.2;rw[show Nat.blt j m=true by simpa[Nat.blt_eq] using a]at c;have g:=gI c l;rw[bh o,show Nat.beq i j=false by rw[<-I6,Nat.beq_eq];exact f]at g;simp only[Bool.false_or,I0,I7]at g;rcases g.1 with(h|h)|h
  ·exact .inl h
  ·exact .inr (.inl h)
  exact .inr (.inr h)
 have:=n j b k;rw[bh k]at this;simp only[I0]at this;have c:=this.2;rw[show Nat.blt j m=true by simpa[Nat.blt_eq] using a]at c;have g:=gI c l;rw[bh o,show Nat.beq i j=false by rw[<-I6,Nat.beq_eq];exact f]at g;simp only[Bool.false_or,I0,I7]at g;rcases g.2 with h|h
 ·exfalso
  unfold uP at h;rw[bh o,w]at h;simp only at h;rw[bh k]at h;have:(b.looksAt ops).any (Nat.beq d)=true:=O4.2 ⟨d,y,Nat.beq_refl d⟩;rw[this]at h;cases h
 exact h
def Lr(W:UR ops m){y:Option Nat}(G:ops[i]? = some o)(r:i<m) :
  ∀(fuel:Nat)(listed:Array Bool)(F:Nat->AV),i∈Region.ready .any ops listed->A8 ops m F listed->DC ops listed->Yl P TE N ops o F y d av->Jp P TE N ops m K fuel (listed.setIfInBounds i true) (eff y d av F)->Jp P TE N ops m K (fuel+1) listed F:=by
 have self:∀(listed:Array Bool)(F:Nat->AV),i∈Region.ready .any ops listed->A8 ops m F listed->Yl P TE N ops o F y d av->∀K':(Nat->AV)->Prop,K' (eff y d av F)->lN P TE N ops o K' F:=λlisted F D a p K' hK=>by
  have b:=(mem_ready.1 D).1;refine p.at_ F (jA.refl _ _) (a.dst i o d r G b p.dst) (λs hs=>?_) K' hK;obtain⟨A,⟨T,V⟩,h3⟩:=p.mvl s hs;exact a.mv i o T s r G b A V h3
 intro fuel
 induction fuel with
 | zero=>
  intro listed F D a hdc p H;refine⟨λh=>(by rw[h]at D;cases D),λj hj=>?_⟩;by_cases l:j=i
  ·subst l
   unfold xE;rw[G];simp only[CD r];exact self listed F D a p _ H
  have:=ready_mono hj l;rw[H.1]at this;cases this
 | succ fuel ih=>
  intro listed F D a hdc p H;refine⟨λh=>(by rw[h]at D;cases D),λj hj=>?_⟩;by_cases l:j=i
  ·subst l
   unfold xE;rw[G];simp only[CD r];exact self listed F D a p _ H
  have A:=H.2 j (ready_mono hj l);obtain⟨J,n,c,hall⟩:=mem_ready.1 hj;have b:=(mem_ready.1 D).1;have unl:∀k,listed.getD k true=false->listed.getD k false=true->False:=λk A V=>by
   rcases Nat.lt_or_ge k listed.size with h'|h'
   ·simp[h']at A V;rw[A]at V;cases V
   simp[Array.getElem?_eq_none h']at V
  have noedge:∀k ok,ops[k]? = some ok->listed.getD k true=false->di n k=false:=λk ok hk L=>by
   rw[<-I6];intro he;obtain⟨e,M,O,he3⟩:=cG.1 he;exact unl k L (he3 ▸ hall e M O)
  have noedge':∀k ok,ops[k]? = some ok->listed.getD k true=false->di o k=false:=λk ok hk L=>by
   rw[<-I6];intro he;obtain⟨e,M,O,he3⟩:=cG.1 he;obtain⟨-,oi',Q,hall'⟩:=mem_ready.1 D;rw[G]at Q;simp only[C1]at Q;subst Q;exact unl k L (he3 ▸ hall' e M O)
  have R:j<m:=by
   rcases Nat.lt_or_ge j m with h|h
   ·exact h
   have hjlt:=(t4.1 c).1;refine(unl i b (ox hdc W.back (W.tail j h hjlt i ω) hjlt λk hk=>?_)).elim;rw[bh c]at hk;obtain⟨e,M,O,rfl⟩:=cG.1 hk;exact hall e M O
  have hap:o.apart ops n=true:=by
   rcases W.apart i j o n r R (Ne.symm l) G c with h|h|h
   ·rw[noedge i o G b]at h;cases h
   ·rw[noedge' j n c J]at h;cases h
   exact h
  obtain⟨ap1,ap2,ap3⟩:=Oper.apart_spec hap;unfold xE at A |-;rw[c]at A |-;simp only[CD R]at A |-;have hdl:d∉n.looksAt ops:=ap1 d p.dst;have cd:∀t,(F t).uses d=false:=a.dst i o d r G b p.dst
  have cdj':∀f,n.dst=some f->∀t,(F t).uses f=false:=λf S=>a.dst j n f R c J S
  have cmv:∀s,y=some s->(∀t,(F t).uses s=false)/\s∉n.looksAt ops/\s∈o.looksAt ops:=λs hs=>by
   obtain⟨U,⟨T,q⟩,E⟩:=p.mvl s hs;exact⟨a.mv i o T s r G b U q E,λhl=>l ((gq E).2 i j o n G c (df q) hl).symm,df q⟩
  have cmvj:∀T s,n.guard=none->oG n.op=some (T,s)->jC ops n s=true->(∀t,(F t).uses s=false)/\s∉o.looksAt ops/\s∈n.looksAt ops:=λT s U q E=>
   ⟨a.mv j n T s R c J U q E,λhl=>l ((gq E).2 i j o n G c hl (df q)).symm,df q⟩
  have avno:∀e,e∉o.looksAt ops->(∀t,(F t).uses e=false)->av.uses e=false:=λe A V=>by
   cases w:av.uses e with
   | false=>rfl
   | true=>
    rcases p.from_ e w with h|⟨t,_,h⟩
    ·exact absurd h A
    rw[V t]at h;cases h
  obtain⟨mvj,f,avj,B,hKj⟩:=q7 A (λf S t=>kI (avno f (ap3 f S) (cdj' f S)) (cdj' f S t)) (λT s U q E t=>by
    obtain⟨c1,c2,-⟩:=cmvj T s U q E;exact kI (avno s c2 c1) (c1 t))
  have hdne:d≠f:=λe=>ap2 d p.dst (by rw[B.dst,e])
  have hdjl:f∉o.looksAt ops:=ap3 f B.dst;have cdj:∀t,(F t).uses f=false:=cdj' f B.dst
  have cmj:∀s,mvj=some s->(∀t,(F t).uses s=false)/\s∉o.looksAt ops/\s∈n.looksAt ops:=λs hs=>by
   obtain⟨U,⟨T,q⟩,E⟩:=B.mvl s hs;exact cmvj T s U q E
  have lookj:∀t,t∈n.looksAt ops->eff y d av F t=F t:=λt u=>by
   unfold eff;have X:t≠d:=λe=>hdl (e ▸ u)
   have e2:y≠some t:=λe=>(cmv t e).2.1 u
   rw[CB X,CB e2]
  have looki:∀t,t∈o.looksAt ops->eff mvj f avj F t=F t:=λt u=>by
   unfold eff;have X:t≠f:=λe=>hdjl (e ▸ u)
   have e2:mvj≠some t:=λe=>(cmj t e).2.1 u
   rw[CB X,CB e2]
  have avjno:∀e,e∉n.looksAt ops->(∀t,(F t).uses e=false)->avj.uses e=false:=λe A V=>by
   cases w:avj.uses e with
   | false=>rfl
   | true=>
    rcases B.from_ e w with h|⟨t,u,h⟩
    ·exact absurd h A
    rw[lookj t u,V t]at h;cases h
  have agrj:jA (eff y d av F) F (n.looksAt ops):=λt u=>by
   rw[lookj t u];refine⟨rfl,λt' w k cs hh=>?_⟩;have g:t'≠d:=λe=>by rw[e,cd t]at w;cases w
   have hnm:y≠some t':=λe=>by rw[(cmv t' e).1 t]at w;cases w
   unfold eff at hh;rw[CB g,CB hnm]at hh;exact hh
  refine B.at_ F agrj cdj (λs hs=>(cmj s hs).1) _ (ih (listed.setIfInBounds j true) (eff mvj f avj F) (ready_mono D (Ne.symm l)) (a.put (λj' o' d' Y g C Z hd'=>?_) (λj' o' T s Y g C Z U q E=>?_)) (hdc.put hj) ?_ ?_)
  ·refine avjno d' (λh=>?_) (a.dst j' o' d' Y C Z hd')
   have:=W.look j' j o' n d' Y R g C c hd' h;rw[noedge j' o' C Z]at this;cases this
  ·exact avjno s (λh=>g ((gq E).2 j' j o' n C c (df q) h)) (a.mv j' o' T s Y C Z U q E)
  ·refine⟨p.dst,p.lt,p.self,λe he=>?_,p.mvl,λF' hA hd' hs' K' hK=>p.at_ F' (λt u=>?_) hd' hs' K' hK⟩
   ·rcases p.from_ e he with h|⟨t,u,h⟩
    ·exact .inl h
    exact .inr ⟨t,u,by rw[looki t u];exact h⟩
   obtain⟨a1,a2⟩:=hA t u;rw[looki t u]at a1 a2;refine⟨a1,λt' w k cs hh=>a2 t' w k cs ?_⟩;have g:t'≠f:=λe=>by rw[e,cdj t]at w;cases w
   have hnm:mvj≠some t':=λe=>by rw[(cmj t' e).1 t]at w;cases w
   unfold eff;rw[CB g,CB hnm];exact hh
  rw[Array.setIfInBounds_comm _ _ l];have:eff y d av (eff mvj f avj F)=eff mvj f avj (eff y d av F):=by
   funext t
   unfold eff;by_cases X:t=d
   ·have U:t≠f:=λe=>hdne (X.symm.trans e)
    have q:mvj≠some t:=λe=>hdl (X ▸ (cmj t e).2.2)
    simp only[CD X,CB U,CB q]
   rw[CB X];by_cases e2:t=f
   ·have q:y≠some t:=λe=>hdjl (e2 ▸ (cmv t e).2.2)
    simp only[CD e2,CB q]
   simp only[CB e2,CB X];by_cases e3:y=some t
   ·by_cases e4:mvj=some t
    ·simp only[CD e3,CD e4]
    simp only[CD e3,CB e4]
   by_cases e4:mvj=some t
   ·simp only[CB e3,CD e4]
   simp only[CB e3,CB e4]
  rw[this];exact hKj
def uQ{o:Op}{K K':AV->Prop}(h:dz P TE F o K)(a:∀av,K av->K' av):dz P TE F o K':=by
 obtain⟨av,b,-,c⟩:=ki h;exact c F (jA.refl _ _) K' (a av b)
variable{K':(Nat->AV)->Prop}
def bw(h:bS N F d av K)(b:∀F',K F'->K' F'):bS N F d av K':=by
 unfold bS at h |-;cases a:(N.free d&&!av.uses d) with
 | false=>rw[a]at h;exact h.elim
 | true=>rw[a]at h;exact b _ h
variable{y:Operand}
def gn{K K':(Nat->AV)->Option Nat->List C->Prop}(h:ij F y K)(b:∀F' ag cs,K F' ag cs->K' F' ag cs):ij F y K':=by
 cases y with
 | tmp t=>
  simp only[ij]at h |-;cases c:F t with
  | H k cs=>
   rw[c]at h;cases k with
   | one=>exact b _ _ _ h
   | agg=>exact b _ _ _ h
   | _=>exact h.elim
  | c2 e d f ag=>
   rw[c]at h;cases f with
   | cons s f=>
    simp only at h |-;cases a:F e with
    | H k cs=>
     rw[a]at h;obtain⟨r,j,i,l,n,o⟩:=Lq.out h;exact .mk_ ⟨r,j,_,_,i,l,n,rfl,rfl,b _ _ _ o⟩
    | _=>rw[a]at h;exact h.elim
   | nil=>
    simp only at h |-;cases a:F e with
    | H k cs=>
     rw[a]at h;simp only at h |-;cases g:Nat.ble (d+ag.getD 1) cs.length with
     | false=>rw[g]at h;exact h.elim
     | true=>rw[g]at h;exact b _ _ _ h
    | _=>rw[a]at h;exact h.elim
  | _=>rw[c]at h;exact h.elim
 | _=>exact h.elim
variable{x:Operand}
def Be{K K':AV->Prop}(h:bu F x K)(a:∀av,K av->K' av):bu F x K':=by
 obtain⟨av,b,-,c⟩:=ko h;exact c F (jA.refl _ _) K' (a av b)
def Ey(h:lv N F d x K)(n:∀F',K F'->K' F'):lv N F d x K':=by
 have a:∀y,bu F y (λj=>bS N F d j K)->bu F y (λj=>bS N F d j K'):=λy h=>Be h λj h=>bw h n
 have l:∀y,ij F y (λF' i c=>bS N F' d (.H (mh i) c) K)->ij F y (λF' i c=>bS N F' d (.H (mh i) c) K'):=λy h=>gn h λF' i c h=>bw h n
 cases x with
 | tmp t=>
  unfold lv at h |-;simp only at h |-;cases e:F t with
  | H k c=>
   rw[e]at h;cases k with
   | one=>
    simp only at h |-;cases b:aZ c with
    | true=>rw[b]at h;exact a (.tmp t) h
    | false=>rw[b]at h;exact l (.tmp t) h
   | agg=>
    simp only at h |-;cases b:aZ c with
    | true=>rw[b]at h;exact a (.tmp t) h
    | false=>rw[b]at h;exact l (.tmp t) h
   | tup p=>exact a _ h
   | box=>exact a _ h
  | c2 q o r i=>
   rw[e]at h;simp only at h |-;cases b:N.al d with
   | true=>rw[b]at h;exact a (.tmp t) h
   | false=>rw[b]at h;exact l (.tmp t) h
  | dead=>rw[e]at h;exact a _ h
  | ref=>rw[e]at h;exact a _ h
  | iref=>rw[e]at h;exact a _ h
  | fn=>rw[e]at h;exact a _ h
  | fv=>rw[e]at h;exact a _ h
 | const v=>exact a (.const v) h
 | global g=>exact a (.global g) h
 | func f=>exact a (.func f) h
def PX(h:Ew N F d x K)(b:∀F',K F'->K' F'):Ew N F d x K':=by
 unfold Ew at h |-;cases a:Mr N d x with
 | true=>rw[a]at h;exact bw h b
 | false=>
 rw[a]at h;simp only[cond_false]at h |-;unfold KI at h |-;cases c:Dy N F d x with
 | none=>rw[c]at h;exact Ey h b
 | some p=>rw[c]at h;exact bw h b
def uf{cs:List C}(h:rg F x cs K)(d:∀F',K F'->K' F'):rg F x cs K':=by
 cases x with
 | tmp t=>
  simp only[rg]at h |-;cases e:F t with
  | H k c=>
   rw[e]at h;cases k with
   | box=>
    simp only at h |-;cases b:Nat.ble cs.length c.length with
    | false=>rw[b]at h;exact h.elim
    | true=>rw[b]at h;simp only[cond_true,d3]at h |-;exact d _ h
   | _=>exact h.elim
  | ref g f i=>
   rw[e]at h;cases i with
   | cons s i=>
    simp only at h |-;cases a:F g with
    | H k c=>
     rw[a]at h;obtain⟨r,j,l,n,o,p⟩:=Pu.out h;exact Pu.mk l n o rfl (d _ p)
    | _=>rw[a]at h;exact h.elim
   | nil=>
    simp only at h |-;cases a:F g with
    | H k c=>
     rw[a]at h;cases k with
     | box=>
      simp only at h |-;cases b:Nat.ble (f+cs.length) c.length with
      | false=>rw[b]at h;exact h.elim
      | true=>rw[b]at h;simp only[cond_true,d3]at h |-;exact d _ h
     | _=>exact h.elim
    | _=>rw[a]at h;exact h.elim
  | _=>rw[e]at h;exact h.elim
 | _=>exact h.elim
variable{T:Nat}
def yC(h:mT TE F T x y K)(d:∀F',K F'->K' F'):mT TE F T x y K':=by
 unfold mT at h |-;split at h
 ·rename_i i l
  obtain⟨n,e,a,j⟩:=cI h;refine j F (jA.refl _ _) _ ?_;cases f:Nat.beq e.length i.size with
  | false=>rw[f]at a;exact a.elim
  | true=>
   rw[f]at a;simp only[cond_true]at a |-;cases g:aZ e with
   | true=>rw[g]at a;exact uf a d
   | false=>
    rw[g]at a;simp only[cond_false]at a |-;refine gn a λF' k c h=>?_
    cases b:Nat.beq c.length i.size with
    | false=>rw[b]at h;exact h.elim
    | true=>rw[b]at h;exact uf h d
 exact h.elim
def H4{g:Option (Nat × Bool)}{a c K1' K0':(Nat->AV)->Prop}(h:fJ F ops g a c)(h1:∀F,a F->K1' F)(e:∀F,c F->K0' F):fJ F ops g K1' K0':=by
 unfold fJ at h |-;split at h
 ·exact h1 _ h
 rename_i j want;split at h
 ·rename_i d f
  split at h
  ·rename_i b i
   replace h:=Bf.out h;cases b<;>cases want<;>first|exact .in_ (h1 _ h)|exact .in_ (e _ h)
  ·exact e _ h
  exact h.elim
 exact h.elim
def uN{K K':(Nat->AV)->Option Nat->List C->Prop}(h:vK F x K)(b:∀F' ag cs,K F' ag cs->K' F' ag cs):vK F x K':=by
 obtain⟨ag,cs,a,d⟩:=cI h;refine d F (jA.refl _ _) _ ?_;cases c:aZ cs with
 | true=>rw[c]at a;exact b _ _ _ a
 | false=>rw[c]at a;exact gn a b
def jL{b:Nat->Option (Nat × Nat)} : ∀{parts:List (Nat × Operand)}{cs:List C}{K K':(Nat->AV)->List C->Prop}{F:Nat->AV},fillW b parts cs K F->(∀F' cs,K F' cs->K' F' cs)->fillW b parts cs K' F
 | [],cs,K,K',F,h,a=>a _ _ h
 | p::rest,cs,K,K',F,h,a=>by
  simp only[fillW]at h |-;split at h
  case h_2=>exact h.elim
  rename_i q d;refine uN h λF' e xs h=>?_
  cases c:(Nat.beq xs.length q.2&&Nat.ble (q.1+q.2) cs.length) with
  | false=>rw[c]at h;exact h.elim
  | true=>
   rw[c]at h;simp only[cond_true,d3]at h |-;exact jL h a
variable{parts:List (Nat × Operand)}
def Fg(h:lf TE N F d T parts K)(b:∀F',K F'->K' F'):lf TE N F d T parts K':=by
 unfold lf at h |-;split at h
 case h_2=>exact h.elim
 rename_i size bytes zero flds c;cases a:yP TE flds with
 | false=>rw[a]at h;exact h.elim
 | true=>rw[a]at h;exact jL h λF' e h=>bw h b
def BV{n:Nat}(h:gh TE N F d T n parts K)(a:∀F',K F'->K' F'):gh TE N F d T n parts K':=by
 obtain⟨e,c,h,f⟩:=jY h;refine f _ ?_;cases b:Nat.ble (n*c.size) 16777216 with
 | false=>rw[b]at h;exact h.elim
 | true=>
  rw[b]at h;simp only[cond_true]at h |-;split at h
  ·exact bw h a
  ·rw[d3]at h |-
   refine jL h λF' g h=>?_
   rw[pY]at h |-;exact bw h a
  exact h.elim
def F8{K K':Bool->(Nat->AV)->List (List C)->Prop}(h:Et F y K)(a:∀b F' xr,K b F' xr->K' b F' xr):Et F y K':=by
 unfold Et at h |-;split at h
 ·refine gn h λF' c d h=>?_
  match c,d,h with
  | none,[.s .own rows],h=>exact a _ _ _ h
 obtain⟨c,d,e,f⟩:=cI h;refine f F (jA.refl _ _) _ ?_
 match c,d,e with
 | none,[.s o rows],h=>exact a _ _ _ h
 | none,[.z],h=>exact a _ _ _ h
def Au{K K':(Nat->AV)->List (List C)->Prop}(h:Ax F x K)(c:∀F' xr,K F' xr->K' F' xr):Ax F x K':=by
 obtain⟨a,b,d,e⟩:=cI h;refine e F (jA.refl _ _) _ ?_
 match a,b,d with
 | none,[.z],h=>exact c _ _ h
 | none,[.s .own _],h=>
  refine gn h λF' a b h=>?_
  match a,b,h with
  | none,[.s .own rows],h=>exact c _ _ h
def Ls(h:Bi TE N F d T x y K)(c:∀F',K F'->K' F'):Bi TE N F d T x y K':=by
 obtain⟨e,o,h,f⟩:=jY h;refine f _ (F8 h λb F' p h=>Au h λF'' a h=>?_);obtain⟨g,i,j,k,l,n⟩:=h.out;exact CU g i j k l rfl (bw n c)
def ED(h:qB TE N F d T x K)(a:∀F',K F'->K' F'):qB TE N F d T x K':=by
 unfold qB at h |-;split at h
 case h_2=>exact h.elim
 refine gn h λF' b c h=>?_
 split at h
 ·exact bw h a
 exact h.elim
def GN(h:ju N F d x K)(b:∀F',K F'->K' F'):ju N F d x K':=by
 have std:∀{y:Operand},bu F y (λa=>bS N F d a K)->bu F y (λa=>bS N F d a K'):=λh=>Be h λa h=>bw h b
 cases x with
 | tmp t=>
  simp only[ju]at h |-;split at h
  ·rename_i i e j
   cases c:aZ e with
   | true=>rw[c]at h;exact bw h b
   | false=>rw[c]at h;exact bw h b
  all_goals exact std h
 | const v=>simp only[ju]at h |-;exact std h
 | global g=>simp only[ju]at h |-;exact std h
 | func f=>simp only[ju]at h |-;exact std h
def H9(h:tU N F d x K)(a:∀F',K F'->K' F'):tU N F d x K':=by
 unfold tU at h |-;split at h
 case h_2=>exact h.elim
 split at h
 case h_2=>exact h.elim
 obtain⟨b,c⟩:=h.out;exact Nt.mk (λe=>bw (b e) a) λf k g e=>bw (c f k g e) a
def G9(h:qw N F d x K)(a:∀F',K F'->K' F'):qw N F d x K':=by
 unfold qw at h |-;split at h
 case h_2=>exact h.elim
 split at h
 case h_2=>exact h.elim
 exact bw h a
def EF{b:Op}(h:ow P TE N d b K F)(a:∀F',K F'->K' F'):ow P TE N d b K' F:=by
 cases b with
 | assign x=>exact PX h a
 | box T x=>simp only[ow,Qi]at h |-;exact uN h λF' i j h=>bw h a
 | build T f=>exact Fg h a
 | buildSlice T n f=>exact BV h a
 | range T x=>exact ED h a
 | move x=>exact GN h a
 | next x str=>
  cases str with
  | true=>exact h.elim
  | false=>exact H9 h a
 | entry x=>exact G9 h a
 | call c=>
  simp only[ow]at h |-;cases e:pF c with
  | none=>rw[e]at h;exact uQ h λg h=>bw h a
  | some p=>rw[e]at h;exact Ls h a
 | _=>simp only[ow]at h |-;exact uQ h λg h=>bw h a
def f6{off n:Nat}{st:cM}{K K':(Nat->AV)->List C->Prop}(h:lendAt F t off st n K)(a:∀F' cs,K F' cs->K' F' cs):lendAt F t off st n K':=by
 unfold lendAt at h |-;split at h
 case h_2=>exact h.elim
 split at h
 ·rename_i k c _ _
  cases b:Nat.ble (off+n) c.length with
  | false=>rw[b]at h;exact h.elim
  | true=>
   rw[b]at h;simp only[cond_true,d3]at h |-;exact a _ _ h
 obtain⟨r,j,d,e,f,g⟩:=Lq.out h;refine .mk_ ?_;exact⟨r,j,_,_,d,e,f,rfl,rfl,a _ _ g⟩
def cz:∀{xs:List (Operand × Nat)}{K K':(Nat->AV)->List (MA × rW)->Prop}{F:Nat->AV},lendP xs K F->(∀F' l,K F' l->K' F' l)->lendP xs K' F
 | [],K,K',F,h,a=>a _ _ h
 | (x,0)::xs,K,K',F,h,a=>cz (xs:=xs) h λF' l h=>a _ _ h
 | (x,1)::xs,K,K',F,h,a=>by
  simp only[lendP]at h |-;split at h
  case h_2=>exact h.elim
  split at h
  ·exact f6 h λF' b h=>cz h λF'' l h=>a _ _ h
  ·exact f6 h λF' b h=>cz h λF'' l h=>a _ _ h
  ·exact f6 h λF' b h=>cz h λF'' l h=>a _ _ h
  exact h.elim
 | (x,n+2)::xs,K,K',F,h,a=>by
  simp only[lendP]at h |-;split at h
  case h_2=>exact h.elim
  split at h
  ·split at h
   ·exact cz h λF'' l h=>a _ _ h
   exact h.elim
  ·exact cz h λF'' l h=>a _ _ h
  exact h.elim
def jH:∀{l:List (MA × rW)}{xs:List Operand}{K K':Bool->List MA->Prop},valsP F l xs K->(∀b A,K b A->K' b A)->valsP F l xs K'
 | [],[],K,K',h,a=>a _ _ h
 | (m,.no)::l,x::xs,K,K',h,a=>by
  obtain⟨g,d,e,f⟩:=cI h;refine f F (jA.refl _ _) _ (jH e λb A h=>?_);cases c:aZ d with
  | true=>rw[c]at h;exact a _ _ h
  | false=>rw[c]at h;exact a _ _ h
 | (m,.at_ t off st)::l,x::xs,K,K',h,a=>jH (l:=l) (xs:=xs) h λb A h=>a _ _ h
 | (m,.box t)::l,x::xs,K,K',h,a=>jH (l:=l) (xs:=xs) h λb A h=>a _ _ h
 | [],_::_,K,K',h,a=>h.elim
 | (m,.no)::l,[],K,K',h,a=>h.elim
 | (m,.at_ t off st)::l,[],K,K',h,a=>h.elim
 | (m,.box t)::l,[],K,K',h,a=>h.elim
def d5{K K':(Nat->AV)->Prop}(a:∀F',K F'->K' F'):∀{l:List (MA × rW)}{B:List MA}{F:Nat->AV},im l B K F->im l B K' F
 | [],[],F,h=>a _ h
 | [],_::_,F,h=>h.elim
 | (m,.no)::l,[],F,h=>h.elim
 | (m,.at_ t off st)::l,[],F,h=>h.elim
 | (m,.box t)::l,[],F,h=>h.elim
 | (m,.no)::l,.val _ _::B,F,h=>d5 a (l:=l) (B:=B) h
 | (m,.no)::l,.mut _ _::B,F,h=>d5 a (l:=l) (B:=B) h
 | (m,.no)::l,.ptr _::B,F,h=>d5 a (l:=l) (B:=B) h
 | (m,.at_ t off st)::l,.val _ _::B,F,h=>h.elim
 | (m,.at_ t off st)::l,.ptr _::B,F,h=>h.elim
 | (m,.box t)::l,.val _ _::B,F,h=>h.elim
 | (m,.box t)::l,.mut _ _::B,F,h=>h.elim
 | (m,.at_ t off st)::l,.mut ag out::B,F,h=>by
  simp only[im]at h |-;split at h
  case h_2=>exact h.elim
  split at h
  ·rename_i k c _ _
   cases b:Nat.ble (off+out.length) c.length with
   | false=>rw[b]at h;exact h.elim
   | true=>
    rw[b]at h;simp only[cond_true,d3]at h |-;exact d5 a h
  obtain⟨r,j,d,e,f,g⟩:=Pu.out h;exact Pu.mk d e f rfl (d5 a g)
 | (m,.box t)::l,.ptr out::B,F,h=>by
  simp only[im]at h |-;split at h
  ·exact d5 a h
  exact h.elim
variable{modes:List Nat}{args:List Operand}{f:Nat}
def Ho{d:Option Nat}(h:lF P N F d f args modes K)(a:∀F',K F'->K' F'):lF P N F d f args modes K':=by
 unfold lF at h |-;refine cz h λF' l h=>?_
 cases c:(vw l&&Nat.beq args.length modes.length) with
 | false=>rw[c]at h;exact h.elim
 | true=>
  rw[c]at h;refine jH h λb A h=>?_
  obtain⟨j,B,k,rcs,e,g,i⟩:=cT.out h;refine CM e g (d5 (λF'' h=>?_) i);cases d with
  | none=>exact a _ h
  | some d=>exact bw h a
def lC{F:Nat->AV}{K K':Nat->Nat->Prop}(h:zA F x K)(a:∀t o,K t o->K' t o):zA F x K':=by
 obtain⟨s,t,b,rfl,c,d⟩:=td h;simp only[zA,c];exact a _ _ d
def LL{d:Option Nat}{cs:List C}{c a b:Nat}{k:Kd}{rcs:List C}{B:List MA}(h:zc N F d t cs c a e b K k rcs B)(f:∀F',K F'->K' F'):zc N F d t cs c a e b K' k rcs B:=by
 unfold zc at h |-;split at h
 case h_2=>exact h.elim
 rename_i i j;cases g:(Nat.beq i.length a&&Nat.beq j.length b) with
 | false=>rw[g]at h;exact h.elim
 | true=>
  rw[g]at h;simp only[cond_true,d3]at h |-;cases d with
  | none=>exact f _ h
  | some d=>exact bw h f
def HN{d:Option Nat}{a b:Nat}(h:kL P N F d f args a b K)(g:∀F',K F'->K' F'):kL P N F d f args a b K':=by
 unfold kL at h |-;split at h
 case h_2=>exact h.elim
 refine lC h λt i h=>lC h λj c h=>?_
 split at h
 case h_2=>exact h.elim
 rename_i l q;cases e:(Nat.beq j t&&Nat.ble (i+a) c&&Nat.ble (c+b) l.length) with
 | false=>rw[e]at h;exact h.elim
 | true=>
  rw[e]at h;simp only[cond_true,d3]at h |-;obtain⟨r,B,k,rcs,n,o,p⟩:=cT.out h;exact CM n o (LL p g)
def rz{d:Option Nat}(h:kM P N F d f args modes K)(b:∀F',K F'->K' F'):kM P N F d f args modes K':=by
 unfold kM at h |-;split
 ·rename_i p a;rw[a]at h;exact HN h b
 rename_i a;rw[a]at h;exact Ho h b
def vE{off:Nat}{z:Int}{v:Value}(h:putMap F t off z v K)(d:∀F',K F'->K' F'):putMap F t off z v K':=by
 unfold putMap at h |-;cases a:F t with
 | H k e=>
  rw[a]at h;simp only at h |-;cases b:e[off]? with
  | none=>rw[b]at h;exact h.elim
  | some c=>
   rw[b]at h;cases c with
   | m f=>
    simp only at h |-;have:=h.out;refine Mu.mk rfl ?_;simp only[d3]at this |-;exact d _ this
   | _=>exact h.elim
 | _=>rw[a]at h;exact h.elim
def vH{v:Operand}(h:nD TE F T x y v K)(b:∀F',K F'->K' F'):nD TE F T x y v K':=by
 unfold nD at h |-;split at h
 case h_2=>exact h.elim
 obtain⟨z,c,d⟩:=jt h;refine d F (jA.refl F _) _ ?_;obtain⟨f,a,e⟩:=jt c;refine e F (jA.refl F _) _ ?_;split at a
 case h_2=>exact a.elim
 split at a
 case h_2=>exact a.elim
 split at a
 ·exact vE a b
 ·exact vE a b
 exact a.elim
def kE(h:j7 P TE N ops o K F)(a:∀F',K F'->K' F'):j7 P TE N ops o K' F:=by
 unfold j7 at h |-;refine H4 h (λF h=>?_) (λF h=>?_)
 ·split at h
  ·rename_i p _
   have lt:sE P N F o.dst p.1 p.2.1 p.2.2 K->sE P N F o.dst p.1 p.2.1 p.2.2 K':=λh=>rz h λF' h=>by rw[oz]at h |-;exact a _ h
   cases b:Na N o.op with
   | false=>rw[b]at h;exact lt h
   | true=>
    rw[b]at h;rcases h with h|h
    ·refine .pl ?_
     unfold iw at h |-;split at h
     ·split at h
      ·exact yC h a
      ·exact vH h a
      exact h.elim
     exact EF h a
    exact .lt (lt h)
  split at h
  ·split at h
   ·exact yC h a
   ·exact vH h a
   exact h.elim
  exact EF h a
 split at h
 ·exact a _ h
 exact bw h a
def DJ{m:Nat}(c:UR ops m){K:(Nat->AV)->Prop}(hm:m<=ops.size):∀(l:List Oper)(k:Nat)(listed:Array Bool)(F:Nat->AV),(∀j,l[j]? = ops[k+j]?)->listed.size=ops.size->(∀j,j<ops.size->listed.getD j true=decide (j<k))->A8 ops m F listed->DC ops listed->
  PZ P TE N ops (m - k) l K F->Jp P TE N ops m K l.length listed F
 | [],k,listed,F,W,X,a,_,_,n=>by
  have M:ops.size<=k:=by
   rcases Nat.lt_or_ge k ops.size with h|h
   ·have:=W 0;simp[h]at this
   exact h
  refine⟨?_,?_⟩
  ·apply List.eq_nil_iff_forall_not_mem.2
   intro j L;obtain⟨y,o,ho,-⟩:=mem_ready.1 L;have A:=(t4.1 ho).1;rw[a j A]at y;simp at y;omega
  cases O:m - k with
  | zero=>rw[O]at n;exact n
  | succ x=>rw[O]at n;exact n
 | o::l,k,listed,F,W,X,a,g,B,n=>by
  have u:ops[k]? = some o:=by simpa using (W 0).symm
  have M:=(t4.1 u).1;have hready:k∈Region.ready .any ops listed:=mem_ready.2 ⟨by rw[a k M];simp,o,u,λe he hb=>by
    have:=c.back k o u e he hb;have y:=a e.on ω;rw[show decide (e.on<k)=true by simpa using this]at y;have Y:e.on<listed.size:=ω
    simp[Y]at y |-;exact y⟩
  have Q:∀j,l[j]? = ops[k+1+j]?:=λj=>by have:=W (j+1);simpa[Nat.add_assoc,Nat.add_comm 1 j] using this
  have f:∀j,j<ops.size->(listed.setIfInBounds k true).getD j true=decide (j<k+1):=λj L=>by
   by_cases C:j=k
   ·subst C;simp[X,L]
   rw[getD_set_ne true (Ne.symm C),a j L];simp only[decide_eq_decide];omega
  show Jp P TE N ops m K (l.length+1) listed F;by_cases p:k<m
  ·have e1:m - k=(m - (k+1))+1:=ω
   rw[e1]at n;obtain⟨mv,d,av,hy,n⟩:=q7 (show lN P TE N ops o (PZ P TE N ops (m - (k+1)) l K) F from n) (λd hd=>g.dst k o d p u (by rw[a k M];simp) hd) (λT s g1 Z g3=>g.mv k o T s p u (by rw[a k M];simp) g1 Z g3);refine Lr c u p l.length listed F hready g B hy (DJ c hm l (k+1) _ _ Q (by simpa using X) f (g.put (λw D R i q b hl'' E=>?_) (λw D T s i q b hl'' g1 Z g3=>?_)) (B.put hready) n)
   ·cases hu:av.uses R with
    | false=>rfl
    | true=>
     rcases hy.from_ R hu with h|⟨t,_,h⟩
     ·have:=c.look w k D o R i p q b u E h
      obtain⟨e,G,H,he3⟩:=cG.1 this;have A:=c.back k o u e G H;have hj'lt:=(t4.1 b).1;rw[a w hj'lt]at hl'';simp at hl'';omega
     rw[g.dst w D R i b hl'' E t]at h;cases h
   cases hu:av.uses s with
   | false=>rfl
   | true=>
    rcases hy.from_ s hu with h|⟨t,_,h⟩
    ·exact absurd ((gq g3).2 w k D o b u (df Z) h) q
    rw[g.mv w D T s i b hl'' g1 Z g3 t]at h;cases h
  refine⟨λh=>(by rw[h]at hready;cases hready),λj L=>?_⟩;have C:j=k:=by
   obtain⟨y,oj,S,U⟩:=mem_ready.1 L;have r:=(t4.1 S).1;rw[a j r]at y;simp at y;rcases Nat.lt_or_ge k j with A|hge
   ·exfalso
    have Y:=ox B c.back (c.tail j ω r k A) r λk' V=>by
     rw[bh S]at V;obtain⟨e,G,H,rfl⟩:=cG.1 V;exact U e G H
    have h3:=a k M;have h4:k<listed.size:=ω
    simp[h4]at Y h3;rw[Y]at h3;cases h3
   omega
  subst C;unfold xE;rw[u];simp only[CB p];have e0:m - j=0:=ω
  rw[e0]at n;have hp':j7 P TE N ops o (My P TE N ops l K) F:=n;have J:∀F',My P TE N ops l K F'->Jp P TE N ops m K l.length (listed.setIfInBounds j true) F':=λF' hF'=>
   DJ c hm l (j+1) _ F' Q (by simpa using X) f ⟨λw D R i b hl'' E=>by
     have hj'lt:=(t4.1 b).1;rw[f w hj'lt]at hl'';simp at hl'';omega,λw D T s i b hl''=>by
     have hj'lt:=(t4.1 b).1;rw[f w hj'lt]at hl'';simp at hl'';omega⟩ (B.put hready) (by rw[show m - (j+1)=0 by omega];cases l<;>exact hF')
  exact kE hp' J
def St.clr(h:St w0 M S0 N F a w)(ds:List Nat):St w0 M S0 N (Ab.clr ds F) a w:=by
 obtain⟨S,φ,h⟩:=h;refine⟨S,φ,λt=>?_,h.dis,h.disS,h.ex,h.sub,h.sup,h.old,h.size,h.defers,h.par⟩;rw[Di];cases e:ds.any (λd=>(F t).uses d) with
 | true=>trivial
 | false=>
  simp only[cond_false];refine(h.slot t).keep (φ:=φ) (λt _ _ _=>h.slot t) (λc _=>⟨λk f b=>?_,rfl,λ_ _ _=>⟨rfl,rfl⟩⟩) (λ_ _ _=>⟨rfl,rfl⟩) (λ_ _ _=>⟨rfl,rfl⟩) (λ_ _ h=>h) (λ_ _ h=>h);rw[Di];have:ds.any (λd=>(F c).uses d)=false:=by
   rw[b]
   induction ds with
   | nil=>rfl
   | cons d ds g=>simp[AV.uses]
  rw[this];exact b
def BH(u:∀t i,TE t=some i->bQ P t i)(W:P.follows .mixedOrders=true){id:Nat}{ds:List Nat}(b:((Nat.ble m ops.size&&below m λj=>match(dh ops j).dst with|some d=>ds.any (Nat.beq d)|none=>true)&&D8 ops m)=true)(X:PZ P TE N ops m ops.toList K (Ab.clr ds F))(Y:St w0 M S0 N F a w)(Z:∀F' O R,K F'->St w0 M S0 N F' O R->Q .normal O R):(Code.region id ops true).wp P Q a w:=by
 simp only[I0]at b;obtain⟨⟨l,y⟩,b⟩:=b;have g:m<=ops.size:=O1 l;refine wp_region_any W ?_;have A:St w0 M S0 N (Ab.clr ds F) a {w with drawn:=w.drawn+1}:=by
  have r:=Y.clr ds;obtain⟨S,φ,h⟩:=r;exact⟨S,φ,h.more (w1:={w with drawn:=w.drawn+1}) (λ_ _ h=>h) (λ_ _ h=>.inl h) ⟨rfl,rfl,rfl,W3 _,λ_ _ _=>rfl,λ_ _ _ _=>rfl,λ_ _ _ _=>rfl⟩⟩
 refine Ar u (m:=m) Z ops.size (Array.replicate ops.size false) _ a _ ?_ A;have n:∀d,ds.any (Nat.beq d)=true->∀t,(Ab.clr ds F t).uses d=false:=λd p t=>by
  rw[Di];cases U:ds.any (λd=>(F t).uses d) with
  | true=>rfl
  | false=>
   simp only[cond_false];cases hu:(F t).uses d with
   | false=>rfl
   | true=>
    obtain⟨d',B,he⟩:=O4.1 p;have C:=O2 he;subst C;have:ds.any (λd=>(F t).uses d)=true:=O4.2 ⟨_,B,hu⟩;rw[this]at U;cases U
 have c:∀j o d,j<m->ops[j]? = some o->o.dst=some d->ds.any (Nat.beq d)=true:=λj o d f q p=>by
  have r:=gI y f;rw[bh q,p]at r;exact r
 have V:=GF b;have:=DJ (P:=P) (TE:=TE) (N:=N) V (K:=K) g ops.toList 0 (Array.replicate ops.size false) (Ab.clr ds F) (by simp) (by simp) (λj f=>by simp[f]) ⟨λj o d f q _ p t=>n d (c j o d f q p) t,λj o T s f q _ _ _ g3 t=>by
   obtain⟨k,ok,D,E,G⟩:=(gq g3).1;obtain⟨e,H,J,rfl⟩:=cG.1 D;have:=V.back j o q e H J;exact n s (c e.on ok s ω E G) t⟩ (λj oj f hl=>by
   have L:=(t4.1 f).1;simp[L]at hl) X
 simpa using this
end
section
variable{P:Program}{w0 w w1:World}{M S0 S:af}{N:fD}{φ:Nat->af}{F:Nat->AV}{a:Act}{TE:Nat->Option TI}{ops:Array Oper}{ds:List Nat}{nm:Nat->Bool}
def T7(P:Program)(TE:Nat->Option TI)(ops:Array Oper)(p:Nat)(F:Nat->AV):Prop:=∃d,(dh ops p).dst=some d/\HZ F (dh ops p)=none/\dz P TE F (dh ops p).op λa=>a=F d
def vS(P:Program)(TE:Nat->Option TI)(N:fD)(ops:Array Oper)(ds:List Nat)(listed:Array Bool)(i:Nat)(K:(Nat->AV)->Prop)(F:Nat->AV):Prop:=
 match ops[i]? with
 | none=>K F
 | some o=>if pd ds o=true then lN P TE N ops o K F else j7 P TE N ops o (λa=>(∀p,listed.getD p false=true->pd ds (dh ops p)=true->wv ops i p=false->T7 P TE ops p a)/\K a) F
def EB(P:Program)(TE:Nat->Option TI)(N:fD)(ops:Array Oper)(ds:List Nat)(K:(Nat->AV)->Prop):Nat->Array Bool->(Nat->AV)->Prop
 | 0,listed,F=>Region.ready .any ops listed=[]/\K F
 | fuel+1,listed,F=>(Region.ready .any ops listed=[]->K F)/\∀i,i∈Region.ready .any ops listed->vS P TE N ops ds listed i (EB P TE N ops ds K fuel (listed.setIfInBounds i true)) F
variable{Q:Exit->Act->World->Prop}{K:(Nat->AV)->Prop}{i:Nat}{listed:Array Bool}
def Fs(c:∀t i,TE t=some i->bQ P t i)(b:vS P TE N ops ds listed i K F)(f:St w0 M S0 N F a w){Kc:Act->World->Prop}(d:∀F' g j,K F'->St w0 M S0 N F' g j->Kc g j):wpOp P ops Q i Kc a w:=by
 unfold vS at b;unfold wpOp;cases k:ops[i]? with
 | none=>rw[k]at b;exact d F a w b f
 | some o=>
  rw[k]at b;simp only at b |-;obtain⟨S,φ,h⟩:=f;have:if Region.wanted o (yielded ops a.tmps) then o.wp P a w Kc Q else Kc (a.put o.dst undef) w:=by
   split at b
   ·exact h.oneP c b d
   exact h.one c (kE b λF' h=>h.2) d
  split
  ·rename_i e;rw[CD e]at this;exact .inl this
  rename_i e;rw[CB e]at this;exact this
def rr(b:∀t i,TE t=some i->bQ P t i){K:(Nat->AV)->Prop}{Q:Exit->Act->World->Prop}(g:∀F' d e,K F'->St w0 M S0 N F' d e->Q .normal d e) :
  ∀(fuel:Nat)(listed:Array Bool)(F:Nat->AV)(a:Act)(w:World),EB P TE N ops ds K fuel listed F->St w0 M S0 N F a w->wpAny P .any ops Q fuel listed a w
 | 0,_,F,a,w,c,f=>⟨c.1,g F a w c.2 f⟩
 | fuel+1,_,F,a,w,c,f=>⟨λj=>g F a w (c.1 j) f,λi k=>Fs b (c.2 i k) f λF' d e l h=>rr b g fuel _ F' d e l h⟩
def bY(ts:List Nat)(F F1:Nat->AV):Prop:=∀t e,(F1 t).uses e=true->e∈ts\/∃a,(F a).uses e=true
def bY.refl(ts:List Nat)(F:Nat->AV):bY ts F F:=λt _ h=>.inr ⟨t,h⟩
variable{F1:Nat->AV}{ts:List Nat}
def bY.trans{F a:Nat->AV}(h1:bY ts F F1)(b:bY ts F1 a):bY ts F a:=λt e h=>by
 rcases b t e h with h|⟨c,h⟩
 ·exact .inl h
 exact h1 c e h
variable{d:Nat}
def bY.clean(h:bY ts F F1)(a:d∉ts)(b:∀t,(F t).uses d=false):∀t,(F1 t).uses d=false:=λt=>by
 cases c:(F1 t).uses d with
 | false=>rfl
 | true=>
  rcases h t d c with h|⟨e,h⟩
  ·exact absurd h a
  rw[b e]at h;cases h
def bY.put{ts:List Nat}{dj:Nat}{av:AV}(h:∀e,av.uses e=true->e∈ts\/∃c,(F c).uses e=true):bY ts F (put F dj av):=λt e a=>by
 by_cases b:t=dj
 ·subst b;rw[nk]at a;exact h e a
 rw[ig _ _ b]at a;exact .inr ⟨t,(QL a).1⟩
variable{v:AV}{t e:Nat}
def P9(h:(si t v).uses e=true):v.uses e=true:=by
 cases v with
 | c2 a b d f=>simp only[si]at h;cases c:Nat.beq a t<;>rw[c]at h<;>first|exact h|cases h
 | ref a b d=>cases d<;>simp only[si]at h<;>first|exact h|(cases c:Nat.beq a t<;>rw[c]at h<;>first|exact h|cases h)
 | _=>exact h
def bY.updH{ts:List Nat}{t:Nat}{k:Kd}{cs:List C} : bY ts F (updH F t k cs):=λs e a=>by
 unfold Ab.updH at a;cases b:Nat.beq s t with
 | true=>rw[b]at a;cases a
 | false=>rw[b]at a;exact .inr ⟨s,P9 a⟩
def NP(h:(Qw t v).uses e=true):v.uses e=true:=by
 cases v with
 | c2 a b d f=>simp only[Qw]at h;cases c:Nat.beq a t<;>rw[c]at h<;>first|exact h|cases h
 | ref a b d=>simp only[Qw]at h;cases c:Nat.beq a t<;>rw[c]at h<;>first|exact h|cases h
 | _=>exact h
def bY.kill{ts:List Nat}{t:Nat} : bY ts F (kill F t):=λs e a=>by
 unfold Ab.kill at a;cases b:Nat.beq s t with
 | true=>rw[b]at a;cases a
 | false=>rw[b]at a;exact .inr ⟨s,NP a⟩
variable{av:AV}
def bH(h:t≠d):eff none d av F t=F t:=by unfold eff;rw[CB h,CB (λe=>by cases e)]
def ir{a:Option Nat} : eff a d av F d=av:=by unfold eff;rw[CD rfl]
def Ql : eff none d (F d) F=F:=by
 funext t
 by_cases h:t=d
 ·subst h;rw[ir]
 rw[bH h]
def oE(b:d∉ts)(c:∀t,(F t).uses d=false):jA (eff none d av F) F ts:=λt f=>by
 have g:t≠d:=λe=>b (e ▸ f)
 rw[bH g];refine⟨rfl,λh a k l i=>?_⟩;have j:h≠d:=λe=>by rw[e,c t]at a;cases a
 rwa [bH j]at i
variable{dj:Nat}
def TW(a:dj≠d):put (eff none d v F) dj av=eff none d (kl dj v) (put F dj av):=by
 funext t
 by_cases b:t=dj
 ·subst b;rw[nk,bH a,nk]
 rw[ig _ _ b];by_cases c:t=d
 ·subst c;rw[ir,ir]
 rw[bH c,bH c,ig _ _ b]
def nR{e:Kd}{a:List C}(b:t≠d):updH (eff none d v F) t e a=eff none d (si t v) (updH F t e a):=by
 funext s
 by_cases c:s=d
 ·subst c
  rw[ir];unfold updH;rw[show Nat.beq s t=false by rw[<-I6,Nat.beq_eq];exact Ne.symm b,ir];rfl
 rw[bH c];unfold updH;rw[bH c]
def wY{c:Kd}{a:List C}(b:t≠d):updH F t c a d=si t (F d):=by
 unfold updH;rw[show Nat.beq d t=false by rw[<-I6,Nat.beq_eq];exact Ne.symm b];rfl
def Kz{e:Kd}{a:List C}(b:t≠d):updN (eff none d v F) t e a=eff none d (Q1 t v) (updN F t e a):=by
 funext s
 by_cases c:s=d
 ·subst c
  rw[ir];unfold updN;rw[show Nat.beq s t=false by rw[<-I6,Nat.beq_eq];exact Ne.symm b,ir];rfl
 rw[bH c];unfold updN;rw[bH c]
def EN{c:Kd}{a:List C}(b:t≠d):updN F t c a d=Q1 t (F d):=by
 unfold updN;rw[show Nat.beq d t=false by rw[<-I6,Nat.beq_eq];exact Ne.symm b];rfl
def ND(h:(Q1 t v).uses e=true):v.uses e=true:=by
 cases v with
 | c2 b c a f=>
  cases a with
  | nil=>exact h
  | cons s a=>simp only[Q1]at h;cases d:Nat.beq b t<;>rw[d]at h<;>first|exact h|cases h
 | ref b c a=>
  cases a with
  | nil=>exact h
  | cons s a=>simp only[Q1]at h;cases d:Nat.beq b t<;>rw[d]at h<;>first|exact h|cases h
 | _=>exact h
def bY.updN{ts:List Nat}{t:Nat}{k:Kd}{cs:List C} : bY ts F (updN F t k cs):=λs e a=>by
 unfold Ab.updN at a;cases b:Nat.beq s t with
 | true=>rw[b]at a;cases a
 | false=>rw[b]at a;exact .inr ⟨s,ND a⟩
def Fq(d:Nat)(ts:List Nat)(v:AV)(F:Nat->AV)(K:(Nat->AV)->Prop)(F1:Nat->AV):Prop:=∃a,(v=F d->a=F1 d)/\K (eff none d a F1)/\bY ts F F1
def UC(d:Nat)(ts:List Nat)(v:AV)(F:Nat->AV)(K:(Nat->AV)->Option Nat->List C->Prop)(F1:Nat->AV)(ag:Option Nat)(cs:List C):Prop:=∃a,(v=F d->a=F1 d)/\K (eff none d a F1) ag cs/\bY ts F F1
def Fq.trans{v1:AV}{a:Nat->AV}(h1:v=F d->v1=F1 d)(b:bY ts F F1)(h:Fq d ts v1 F1 K a):Fq d ts v F K a:=by
 obtain⟨c,f,g,i⟩:=h;exact⟨c,λe=>f (h1 e),g,b.trans i⟩
def iG(h:bS N (eff none d v F) dj av K)(a:dj≠d)(b:∀e,av.uses e=true->e∈ts\/∃f,(F f).uses e=true):bS N F dj av (Fq d ts v F K):=by
 unfold bS at h |-;cases c:(N.free dj&&!av.uses dj) with
 | false=>rw[c]at h;exact h.elim
 | true=>
  rw[c]at h;simp only[cond_true]at h |-;rw[TW a]at h;exact⟨kl dj v,λe=>by rw[ig _ _ (Ne.symm a),e],h,bY.put b⟩
variable{cs:List C}{k:Kd}
def jx : ∀e,(AV.H k cs).uses e=true->e∈ts\/∃a,(F a).uses e=true:=λe h=>by cases h
def DY{p:(Nat->AV)->(AV->Prop)->Prop}{ts0:List Nat}(h:pc p (eff none d v F) ts0 λav=>bS N (eff none d v F) dj av K)(a:dj≠d)(b:∀t,t∈ts0->t∈ts)(c:d∉ts)(f:∀t,(F t).uses d=false) :
  p F λav=>bS N F dj av (Fq d ts v F K):=by
 obtain⟨av,g,i,j⟩:=h;refine j F (oE (λk=>c (b d k)) f) _ (iG g a λe l=>?_);rcases i e l with h|⟨t,n,h⟩
 ·exact .inl (b e h)
 have a:t≠d:=λe=>c (e ▸ b t n)
 rw[bH a]at h;exact .inr ⟨t,h⟩
variable{y:Operand}
def tB{K:(Nat->AV)->Option Nat->List C->Prop}(h:ij (eff none d v F) y K)(w:d∉tm y)(A:∀t,(F t).uses d=false):ij F y (UC d ts v F K):=by
 have fin:∀{t:Nat}{k:Kd}{f:List C}{b:Option Nat}{xs:List C},t≠d->K (updH (eff none d v F) t k f) b xs->UC d ts v F K (updH F t k f) b xs:=fun {t k f b xs} c h=>by
  rw[nR c]at h;exact⟨_,λe=>by rw[wY c,e],h,bY.updH⟩
 have vZ:∀{t:Nat}{k:Kd}{f:List C}{b:Option Nat}{xs:List C},t≠d->K (updN (eff none d v F) t k f) b xs->UC d ts v F K (updN F t k f) b xs:=fun {t k f b xs} c h=>by
  rw[Kz c]at h;exact⟨_,λe=>by rw[EN c,e],h,bY.updN⟩
 cases y with
 | tmp t=>
  have c:t≠d:=λe=>w (by simp[tm,e])
  simp only[ij]at h |-;rw[bH c]at h;cases g:F t with
  | H l n=>
   rw[g]at h;cases l with
   | one=>exact fin c h
   | agg=>exact fin c h
   | _=>exact h.elim
  | c2 o p q b=>
   rw[g]at h;have i:o≠d:=λe=>by have:=A t;rw[g,e]at this;simp[AV.uses]at this
   cases q with
   | cons s q=>
    simp only at h |-;rw[bH i]at h;cases a:F o with
    | H l n=>
     rw[a]at h;obtain⟨r,j,B,D,E,G⟩:=Lq.out h;exact .mk_ ⟨r,j,_,_,B,D,E,rfl,rfl,vZ i G⟩
    | _=>rw[a]at h;exact h.elim
   | nil=>
    simp only at h |-;rw[bH i]at h;cases a:F o with
    | H l n=>
     rw[a]at h;simp only at h |-;cases u:Nat.ble (p+b.getD 1) n.length with
     | false=>rw[u]at h;exact h.elim
     | true=>rw[u]at h;exact vZ i h
    | _=>rw[a]at h;exact h.elim
  | _=>rw[g]at h;exact h.elim
 | _=>exact h.elim
def QO{K:(Nat->AV)->Option Nat->List C->Prop}(h:vK (eff none d v F) y K)(b:d∉tm y)(c:∀t,(F t).uses d=false):vK F y (UC d ts v F K):=by
 obtain⟨i,xs,a,g⟩:=cI h;refine g F (oE b c) _ ?_;cases f:aZ xs with
 | true=>rw[f]at a;exact⟨v,λe=>e,a,bY.refl _ _⟩
 | false=>rw[f]at a;exact tB a b c
def Vi(d:Nat)(ts:List Nat)(v:AV)(F:Nat->AV)(K:(Nat->AV)->List C->Prop)(F1:Nat->AV)(cs:List C):Prop:=∃a,(v=F d->a=F1 d)/\K (eff none d a F1) cs/\bY ts F F1
def y8{d:Nat}{ts:List Nat}{f:Nat->Option (Nat × Nat)}(a:d∉ts):∀{parts:List (Nat × Operand)}{cs:List C}{K:(Nat->AV)->List C->Prop}{F:Nat->AV}{v:AV},fillW f parts cs K (eff none d v F)->(∀p,p∈parts->d∉tm p.2)->(∀t,(F t).uses d=false)->
  fillW f parts cs (Vi d ts v F K) F
 | [],cs,K,F,v,h,_,b=>⟨v,λe=>e,h,bY.refl _ _⟩
 | p::rest,cs,K,F,v,h,g,b=>by
  simp only[fillW]at h |-;split at h
  case h_2=>exact h.elim
  rename_i q y;refine uN (QO (ts:=ts) h (g p C2) b) λA B xs h=>?_
  obtain⟨D,k,h,i⟩:=h;cases j:(Nat.beq xs.length q.2&&Nat.ble (q.1+q.2) cs.length) with
  | false=>rw[j]at h;exact h.elim
  | true=>
   rw[j]at h;simp only[cond_true,d3]at h |-;refine jL (y8 a h (λl c=>g l (C6 _ c)) (i.clean a b)) λE cs2 n=>?_
   obtain⟨o,r,u,w⟩:=n;exact⟨o,λe=>r (k e),u,i.trans w⟩
variable{parts:List (Nat × Operand)}{T:Nat}
def Mi(h:lf TE N (eff none d v F) dj T parts K)(a:dj≠d)(b:d∉ts)(e:∀p,p∈parts->d∉tm p.2)(f:∀t,(F t).uses d=false) :
  lf TE N F dj T parts (Fq d ts v F K):=by
 unfold lf at h |-;split at h
 case h_2=>exact h.elim
 rename_i size bytes zero flds k;cases c:yP TE flds with
 | false=>rw[c]at h;exact h.elim
 | true=>
  rw[c]at h;refine jL (y8 b h e f) λl n h=>?_
  obtain⟨o,g,h,i⟩:=h;exact bw (iG (ts:=ts) h a jx) λq j=>Fq.trans g i j
variable{n:Nat}
def He(h:gh TE N (eff none d v F) dj T n parts K)(a:dj≠d)(c:d∉ts)(g:∀p,p∈parts->d∉tm p.2)(i:∀t,(F t).uses d=false) :
  gh TE N F dj T n parts (Fq d ts v F K):=by
 unfold gh at h |-;obtain⟨e,j,h,b⟩:=jY h;refine b _ ?_;cases f:Nat.ble (n*j.size) 16777216 with
 | false=>rw[f]at h;exact h.elim
 | true=>
  rw[f]at h;simp only[cond_true]at h |-;cases n with
  | zero=>
   cases parts with
   | nil=>exact iG h a jx
   | cons=>exact h.elim
  | succ n=>
   simp only[d3]at h |-;refine jL (y8 c h g i) λq r h=>?_
   obtain⟨u,k,h,l⟩:=h;rw[pY]at h |-;exact bw (iG (ts:=ts) h a jx) λw o=>Fq.trans k l o
def Pk(h:ju N (eff none d v F) dj (.tmp t) K)(a:dj≠d)(c:d∉ts)(g:t∈ts)(k:∀t,(F t).uses d=false):ju N F dj (.tmp t) (Fq d ts v F K):=by
 have b:t≠d:=λe=>c (e ▸ g)
 have std:bu (eff none d v F) (.tmp t) (λf=>bS N (eff none d v F) dj f K)->bu F (.tmp t) (λf=>bS N F dj f (Fq d ts v F K)):=λh=>
  DY (p:=λF K=>bu F (.tmp t) K) (ko h) a (λo i=>by simp[tm]at i;exact i ▸ g) c k
 simp only[ju]at h |-;rw[bH b]at h;split at h
 ·rename_i l xs q
  cases j:aZ xs with
  | true=>rw[j]at h;exact iG h a jx
  | false=>
   rw[j]at h;simp only[cond_false]at h |-;rw[nR b]at h;exact bw (iG (ts:=ts) h a jx) λr n=>Fq.trans (F1:=updH F t (.tup l) _) (λe=>by rw[wY b,e]) bY.updH n
 all_goals exact std h
variable{x:Operand}
def Lk(h:lv N (eff none d v F) dj x K)(o:dj≠d)(j:d∉ts)(a:∀t,t∈tm x->t∈ts)(C:∀t,(F t).uses d=false):lv N F dj x (Fq d ts v F K):=by
 have b:∀y,(∀t,t∈tm y->t∈ts)->bu (eff none d v F) y (λu=>bS N (eff none d v F) dj u K)->bu F y (λu=>bS N F dj u (Fq d ts v F K)):=λy w h=>DY (p:=λF K=>bu F y K) (ko h) o w j C
 have A:∀y,(∀t,t∈tm y->t∈ts)->ij (eff none d v F) y (λr q l=>bS N r dj (.H (mh q) l) K)->ij F y (λr q l=>bS N r dj (.H (mh q) l) (Fq d ts v F K)):=λy w h=>
  gn (tB (ts:=ts) h (λD=>j (w d D)) C) λr q l h=>by
   obtain⟨L,E,h,G⟩:=h;exact bw (iG (ts:=ts) h o jx) λM H=>Fq.trans E G H
 cases x with
 | tmp t=>
  have B:t≠d:=λe=>j (e ▸ a t (by simp[tm]))
  unfold lv at h |-;simp only at h |-;rw[bH B]at h;cases n:F t with
  | H k l=>
   rw[n]at h;cases k with
   | one=>
    simp only at h |-;cases i:aZ l with
    | true=>rw[i]at h;exact b (.tmp t) a h
    | false=>rw[i]at h;exact A (.tmp t) a h
   | agg=>
    simp only at h |-;cases i:aZ l with
    | true=>rw[i]at h;exact b (.tmp t) a h
    | false=>rw[i]at h;exact A (.tmp t) a h
   | tup O=>exact b _ a h
   | box=>exact b _ a h
  | c2 P J Q q=>
   rw[n]at h;simp only at h |-;cases i:N.al dj with
   | true=>rw[i]at h;exact b (.tmp t) a h
   | false=>rw[i]at h;exact A (.tmp t) a h
  | dead=>rw[n]at h;exact b _ a h
  | ref=>rw[n]at h;exact b _ a h
  | iref=>rw[n]at h;exact b _ a h
  | fn=>rw[n]at h;exact b _ a h
  | fv=>rw[n]at h;exact b _ a h
 | const c=>exact b (.const c) a h
 | global g=>exact b (.global g) a h
 | func f=>exact b (.func f) a h
def El(b:t≠d):kill (eff none d v F) t=eff none d (Qw t v) (kill F t):=by
 funext s
 by_cases e:s=d
 ·subst e
  rw[ir,iI _ (Ne.symm b),ir]
 rw[bH e];by_cases a:s=t
 ·subst a;rw[n6,n6]
 rw[iI _ a,iI _ a,bH e]
def Ue(h:Ew N (eff none d v F) dj x K)(b:dj≠d)(c:d∉ts)(g:∀t,t∈tm x->t∈ts)(k:∀t,(F t).uses d=false):Ew N F dj x (Fq d ts v F K):=by
 have i:Dy N (eff none d v F) dj x=Dy N F dj x:=by
  cases x with
  | tmp t=>
   have a:t≠d:=λe=>c (e ▸ g t (by simp[tm]))
   have l:eff none d v F t=F t:=bH a;unfold Dy;simp only;rw[l]
  | _=>rfl
 unfold Ew at h |-;cases f:Mr N dj x with
 | true=>
  rw[f]at h;simp only[cond_true]at h |-;exact iG (ts:=ts) h b jx
 | false=>
 rw[f]at h;simp only[cond_false]at h |-;unfold KI at h |-;rw[i]at h;cases j:Dy N F dj x with
 | none=>rw[j]at h;exact Lk h b c g k
 | some p=>
  rw[j]at h;simp only at h |-;obtain⟨rfl,o⟩:=B9 j;have a:p.1≠d:=λe=>c (e ▸ g p.1 (by simp[tm]))
  rw[El a]at h;exact bw (iG (ts:=ts) h b jx) λq n=>Fq.trans (F1:=kill F p.1) (λe=>by rw[iI _ (Ne.symm a),e]) bY.kill n
def JJ(h:rg (eff none d v F) x cs K)(p:d∉tm x)(q:∀t,(F t).uses d=false):rg F x cs (Fq d ts v F K):=by
 have fin:∀{t:Nat}{k:Kd}{cs:List C},t≠d->K (updH (eff none d v F) t k cs)->Fq d ts v F K (updH F t k cs):=fun {t k cs} a h=>by
  rw[nR a]at h;exact⟨_,λe=>by rw[wY a,e],h,bY.updH⟩
 have vZ:∀{t:Nat}{k:Kd}{cs:List C},t≠d->K (updN (eff none d v F) t k cs)->Fq d ts v F K (updN F t k cs):=fun {t k cs} a h=>by
  rw[Kz a]at h;exact⟨_,λe=>by rw[EN a,e],h,bY.updN⟩
 have finP:∀{t:Nat}{k:Kd}{cs:List C},t≠d->K (Rm (eff none d v F) t k cs)->Fq d ts v F K (Rm F t k cs):=fun {t k cs} a h=>by
  cases k with
  | box=>exact fin a h
  | _=>exact vZ a h
 cases x with
 | tmp t=>
  have a:t≠d:=λe=>p (by simp[tm,e])
  simp only[rg]at h |-;rw[bH a]at h;cases f:F t with
  | H k g=>
   rw[f]at h;cases k with
   | box=>
    simp only at h |-;cases c:Nat.ble cs.length g.length with
    | false=>rw[c]at h;exact h.elim
    | true=>rw[c]at h;simp only[cond_true,d3]at h |-;exact fin a h
   | _=>exact h.elim
  | ref l n o=>
   rw[f]at h;have i:l≠d:=λe=>by have:=q t;rw[f,e]at this;simp[AV.uses]at this
   cases o with
   | cons s o=>
    simp only at h |-;rw[bH i]at h;cases b:F l with
    | H k g=>
     rw[b]at h;obtain⟨r,j,u,w,y,A⟩:=Pu.out h;exact Pu.mk u w y rfl (finP i A)
    | _=>rw[b]at h;exact h.elim
   | nil=>
    simp only at h |-;rw[bH i]at h;cases b:F l with
    | H k g=>
     rw[b]at h;cases k with
     | box=>
      simp only at h |-;cases c:Nat.ble (n+cs.length) g.length with
      | false=>rw[c]at h;exact h.elim
      | true=>rw[c]at h;simp only[cond_true,d3]at h |-;exact fin i h
     | _=>exact h.elim
    | _=>rw[b]at h;exact h.elim
  | _=>rw[f]at h;exact h.elim
 | _=>exact h.elim
def NH(h:mT TE (eff none d v F) T x y K)(e:d∉ts)(j:d∉tm x)(k:d∉tm y)(c:∀t,(F t).uses d=false):mT TE F T x y (Fq d ts v F K):=by
 unfold mT at h |-;split at h
 ·rename_i i r
  obtain⟨u,l,a,f⟩:=cI h;refine f F (oE k c) _ ?_;cases n:Nat.beq l.length i.size with
  | false=>rw[n]at a;exact a.elim
  | true=>
   rw[n]at a;simp only[cond_true]at a |-;cases o:aZ l with
   | true=>rw[o]at a;exact JJ a j c
   | false=>
    rw[o]at a;simp only[cond_false]at a |-;refine gn (tB (ts:=ts) a k c) λw q g h=>?_
    obtain⟨A,a,h,p⟩:=h;cases b:Nat.beq g.length i.size with
    | false=>rw[b]at h;exact h.elim
    | true=>rw[b]at h;exact uf (JJ (ts:=ts) h j (p.clean e c)) λB f=>Fq.trans a p f
 exact h.elim
def T6(a:d∉tm y):n8 (eff none d v F) y=n8 F y:=by
 cases y with
 | tmp t=>exact bH λe=>a (by simp[tm,e])
 | _=>rfl
def TY{K:Bool->(Nat->AV)->List (List C)->Prop}(h:Et (eff none d v F) y K)(c:d∉tm y)(f:∀t,(F t).uses d=false):Et F y λg F1 rows=>∃v1,(v=F d->v1=F1 d)/\K g (eff none d v1 F1) rows/\bY ts F F1:=by
 have b:=T6 (F:=F) (v:=v) c;unfold Et at h |-;rw[b]at h;split at h
 ·refine gn (tB (ts:=ts) h c f) λF1 i l h=>?_
  obtain⟨v1,a,h,j⟩:=h;split at h
  ·exact⟨v1,a,h,j⟩
  exact h.elim
 rw[<-b]at h;obtain⟨i,xs,a,k⟩:=cI h;refine k F (oE c f) _ ?_;split at a
 ·exact⟨v,λe=>e,a,bY.refl _ _⟩
 ·exact⟨v,λe=>e,a,bY.refl _ _⟩
 exact a.elim
def Rh{K:(Nat->AV)->List (List C)->Prop}(h:Ax (eff none d v F) y K)(b:d∉tm y)(c:∀t,(F t).uses d=false):Ax F y λF1 rows=>∃v1,(v=F d->v1=F1 d)/\K (eff none d v1 F1) rows/\bY ts F F1:=by
 obtain⟨f,xs,a,g⟩:=cI h;refine g F (oE b c) _ ?_;split at a
 ·exact⟨v,λe=>e,a,bY.refl _ _⟩
 ·refine gn (tB (ts:=ts) a b c) λF1 f j h=>?_
  obtain⟨v1,a,h,i⟩:=h;split at h
  ·exact⟨v1,a,h,i⟩
  exact h.elim
 exact a.elim
def QQ(h:Bi TE N (eff none d v F) dj T x y K)(b:dj≠d)(c:d∉ts)(j:d∉tm x)(k:d∉tm y)(f:∀t,(F t).uses d=false):Bi TE N F dj T x y (Fq d ts v F K):=by
 obtain⟨e,B,h,a⟩:=jY h;refine a _ (F8 (TY (ts:=ts) h k f) λC D E h=>?_);obtain⟨G,l,h,g⟩:=h;refine Au (Rh (ts:=ts) h j (g.clean c f)) λH i h=>?_
 obtain⟨J,n,h,o⟩:=h;obtain⟨p,q,r,u,w,h⟩:=Ap.out h;refine CU p q r u w rfl (bw (iG (ts:=ts) h b jx) λL A=>?_);exact Fq.trans l g (Fq.trans n o A)
def NE{f:Oper}(E:f.guard=none)(u:Tk f.op=true)(q:f.dst≠some d)(j:d∉f.looksAt ops)(r:∀t,(F t).uses d=false)(h:j7 P TE N ops f K (eff none d v F)) :
  j7 P TE N ops f (Fq d (f.looksAt ops) v F K) F:=by
 unfold j7 fJ at h |-;rw[E]at h |-;simp only at h |-;have l:∀t,t∈dm f.op->t∈f.looksAt ops:=λt w=>fY f t w
 have pur:∀b,b≠d->dz P TE (eff none d v F) f.op (λA=>bS N (eff none d v F) b A K)->dz P TE F f.op λA=>bS N F b A (Fq d (f.looksAt ops) v F K):=λb q h=>
  DY (p:=λF K=>dz P TE F f.op K) (ki h) q l j r
 have dne:∀b,f.dst=some b->b≠d:=λb a e=>q (e ▸ a)
 have tmI:∀x,x∈f.op.operands.toList->∀t,t∈tm x->t∈f.looksAt ops:=λx G t w=>l t (List.mem_flatMap.2 ⟨x,G,w⟩)
 cases g:f.op with
 | store T x y=>
  rw[g]at h tmI;simp only[BF]at h |-;cases a:f.dst with
  | some b=>rw[a]at h;simp only[ow]at h;exact h.elim
  | none=>
   rw[a]at h;simp only at h |-;exact NH h j (λk=>j (tmI x (by simp[Op.operands]) d k)) (λk=>j (tmI y (by simp[Op.operands]) d k)) r
 | move x=>
  rw[g]at h tmI;cases a:f.dst with
  | none=>rw[a]at h;exact h.elim
  | some b=>
   rw[a]at h;cases x with
   | tmp t=>
    simp only[BF,ow]at h |-;exact Pk h (dne b a) j (tmI (.tmp t) (by simp[Op.operands]) t (by simp[tm])) r
   | _=>rw[g]at u;cases u
 | assign x=>
  rw[g]at h tmI;cases a:f.dst with
  | none=>rw[a]at h;exact h.elim
  | some b=>
   rw[a]at h;simp only[BF,ow]at h |-;exact Ue h (dne b a) j (tmI x (by simp[Op.operands])) r
 | build T H=>
  rw[g]at h tmI;cases a:f.dst with
  | none=>rw[a]at h;exact h.elim
  | some b=>
   rw[a]at h;simp only[BF,ow]at h |-;refine Mi h (dne b a) j (λp B k=>j (tmI p.2 ?_ d k)) r;simp only[Op.operands];simpa using ⟨p.1,by simpa using B⟩
 | buildSlice T n H=>
  rw[g]at h tmI;cases a:f.dst with
  | none=>rw[a]at h;exact h.elim
  | some b=>
   rw[a]at h;simp only[BF,ow]at h |-;refine He h (dne b a) j (λp B k=>j (tmI p.2 ?_ d k)) r;simp only[Op.operands];simpa using ⟨p.1,by simpa using B⟩
 | extract x i=>rw[g]at h pur;cases a:f.dst with|none=>rw[a]at h;exact h.elim|some b=>rw[a]at h;exact pur b (dne b a) h
 | load T x=>rw[g]at h pur;cases a:f.dst with|none=>rw[a]at h;exact h.elim|some b=>rw[a]at h;exact pur b (dne b a) h
 | fieldAddr T x i=>rw[g]at h pur;cases a:f.dst with|none=>rw[a]at h;exact h.elim|some b=>rw[a]at h;exact pur b (dne b a) h
 | field T x i=>rw[g]at h pur;cases a:f.dst with|none=>rw[a]at h;exact h.elim|some b=>rw[a]at h;exact pur b (dne b a) h
 | binOp o T x y J=>rw[g]at h pur;cases a:f.dst with|none=>rw[a]at h;exact h.elim|some b=>rw[a]at h;exact pur b (dne b a) h
 | unOp o T x=>rw[g]at h pur;cases a:f.dst with|none=>rw[a]at h;exact h.elim|some b=>rw[a]at h;exact pur b (dne b a) h
 | call c=>
  rw[g]at u h tmI;cases C:pF c with
  | none=>simp[Tk,C]at u
  | some p=>
   have D:=yY C;subst D;cases a:f.dst with
   | none=>rw[a]at h;exact h.elim
   | some b=>
    rw[a]at h;simp only[BF,ow,C]at h |-;exact QQ h (dne b a) j (λk=>j (tmI p.2.1 (by simp[Op.operands,Call.operands]) d k)) (λk=>j (tmI p.2.2 (by simp[Op.operands,Call.operands]) d k)) r
 | _=>rw[g]at u;cases u
def TA{a:Oper}(f:a.guard=none)(g:Tk a.op=true)(b:a.dst≠some d)(i:d∉a.looksAt ops)(j:∀t,(F t).uses d=false)(h:j7 P TE N ops a K F) :
  j7 P TE N ops a (λF1=>K F1/\bY (a.looksAt ops) F F1) F:=by
 refine kE (NE (d:=d) (v:=F d) f g b i j (by rw[Ql];exact h)) λF1 k=>?_
 obtain⟨l,e,c,u⟩:=k;rw[e rfl,Ql]at c;exact⟨c,u⟩
def bY.setH{ts:List Nat}{t:Nat}{k:Kd}{cs:List C} : bY ts F (setH F t (.H k cs)):=λs e a=>by
 unfold Ab.setH at a;cases b:Nat.beq s t with
 | true=>rw[b]at a;cases a
 | false=>rw[b]at a;exact .inr ⟨s,a⟩
variable{rcs:List C}
def Kl(h:bS N F d (.H k rcs) K):bS N F d (.H k rcs) λF1=>K F1/\bY ts F F1:=by
 unfold bS at h |-;cases a:(N.free d&&!(AV.H k rcs).uses d) with
 | false=>rw[a]at h;exact h.elim
 | true=>rw[a]at h;exact⟨h,bY.put λe b=>by cases b⟩
def va{off:Nat}{st:cM}{K:(Nat->AV)->List C->Prop}(h:lendAt F t off st n K):lendAt F t off st n λF1 cs=>K F1 cs/\bY ts F F1:=by
 unfold lendAt at h |-;split at h
 case h_2=>exact h.elim
 split at h
 ·rename_i k b _ _
  cases a:Nat.ble (off+n) b.length with
  | false=>rw[a]at h;exact h.elim
  | true=>
   rw[a]at h;simp only[cond_true,d3]at h |-;exact⟨h,bY.updH⟩
 obtain⟨r,j,c,d,e,f⟩:=Lq.out h;refine .mk_ ?_;exact⟨r,j,_,_,c,d,e,rfl,rfl,f,bY.updH⟩
def lX{ts:List Nat} : ∀{xs:List (Operand × Nat)}{K:(Nat->AV)->List (MA × rW)->Prop}{F:Nat->AV},lendP xs K F->lendP xs (λF1 l=>K F1 l/\bY ts F F1) F
 | [],K,F,h=>⟨h,bY.refl _ _⟩
 | (x,0)::xs,K,F,h=>lX (xs:=xs) h
 | (x,1)::xs,K,F,h=>by
  simp only[lendP]at h |-;split at h
  case h_2=>exact h.elim
  split at h
  ·exact f6 (va (ts:=ts) h) λF1 c h=>cz (lX (ts:=ts) h.1) λb l a=>⟨a.1,h.2.trans a.2⟩
  ·exact f6 (va (ts:=ts) h) λF1 c h=>cz (lX (ts:=ts) h.1) λb l a=>⟨a.1,h.2.trans a.2⟩
  ·exact f6 (va (ts:=ts) h) λF1 c h=>cz (lX (ts:=ts) h.1) λb l a=>⟨a.1,h.2.trans a.2⟩
  exact h.elim
 | (x,n+2)::xs,K,F,h=>by
  simp only[lendP]at h |-;split at h
  case h_2=>exact h.elim
  split at h
  ·split at h
   ·exact cz (lX (ts:=ts) h) λb l a=>⟨a.1,bY.kill.trans a.2⟩
   exact h.elim
  ·exact cz (lX (ts:=ts) h) λb l a=>⟨a.1,bY.kill.trans a.2⟩
  exact h.elim
def mc{ts:List Nat}{K:(Nat->AV)->Prop} : ∀{l:List (MA × rW)}{B:List MA}{F:Nat->AV},im l B K F->im l B (λF1=>K F1/\bY ts F F1) F
 | [],[],F,h=>⟨h,bY.refl _ _⟩
 | [],_::_,F,h=>h.elim
 | (m,.no)::l,[],F,h=>h.elim
 | (m,.at_ t off st)::l,[],F,h=>h.elim
 | (m,.box t)::l,[],F,h=>h.elim
 | (m,.no)::l,.val _ _::B,F,h=>mc (l:=l) (B:=B) h
 | (m,.no)::l,.mut _ _::B,F,h=>mc (l:=l) (B:=B) h
 | (m,.no)::l,.ptr _::B,F,h=>mc (l:=l) (B:=B) h
 | (m,.at_ t off st)::l,.val _ _::B,F,h=>h.elim
 | (m,.at_ t off st)::l,.ptr _::B,F,h=>h.elim
 | (m,.box t)::l,.val _ _::B,F,h=>h.elim
 | (m,.box t)::l,.mut _ _::B,F,h=>h.elim
 | (m,.at_ t off st)::l,.mut ag out::B,F,h=>by
  simp only[im]at h |-;split at h
  case h_2=>exact h.elim
  split at h
  ·rename_i k d _ _
   cases b:Nat.ble (off+out.length) d.length with
   | false=>rw[b]at h;exact h.elim
   | true=>
    rw[b]at h;simp only[cond_true,d3]at h |-;exact d5 (λc a=>⟨a.1,bY.updH.trans a.2⟩) (mc (ts:=ts) h)
  obtain⟨r,j,e,f,g,i⟩:=Pu.out h;exact Pu.mk e f g rfl (d5 (λc a=>⟨a.1,bY.updH.trans a.2⟩) (mc (ts:=ts) i))
 | (m,.box t)::l,.ptr out::B,F,h=>by
  simp only[im]at h |-;split at h
  ·exact d5 (λc a=>⟨a.1,bY.setH.trans a.2⟩) (mc (ts:=ts) h)
  exact h.elim
variable{modes:List Nat}{args:List Operand}{f:Nat}
def PG{d:Option Nat}(h:lF P N F d f args modes K):lF P N F d f args modes λF1=>K F1/\bY ts F F1:=by
 unfold lF at h |-;refine cz (lX (ts:=ts) h) λn l h=>?_
 obtain⟨h,c⟩:=h;cases e:(vw l&&Nat.beq args.length modes.length) with
 | false=>rw[e]at h;exact h.elim
 | true=>
  rw[e]at h;refine jH h λb A h=>?_
  obtain⟨o,B,k,rcs,i,a,j⟩:=cT.out h;refine CM i a (d5 (λF'' h=>?_) (mc (ts:=ts) j));obtain⟨h,g⟩:=h;cases d with
  | none=>exact⟨h,c.trans g⟩
  | some d=>exact bw (Kl (ts:=ts) h) λp a=>⟨a.1,(c.trans g).trans a.2⟩
variable{b:Nat}
def RC{d:Option Nat}{c a:Nat}{B:List MA}(h:zc N F d t cs c a e b K k rcs B):zc N F d t cs c a e b (λF1=>K F1/\bY ts F F1) k rcs B:=by
 unfold zc at h |-;split at h
 case h_2=>exact h.elim
 rename_i i j;cases f:(Nat.beq i.length a&&Nat.beq j.length b) with
 | false=>rw[f]at h;exact h.elim
 | true=>
  rw[f]at h;simp only[cond_true,d3]at h |-;cases d with
  | none=>exact⟨h,bY.kill.trans bY.setH⟩
  | some d=>exact bw (Kl (ts:=ts) h) λl g=>⟨g.1,(bY.kill.trans bY.setH).trans g.2⟩
def P3{d:Option Nat}{a:Nat}(h:kL P N F d f args a b K):kL P N F d f args a b λF1=>K F1/\bY ts F F1:=by
 unfold kL at h |-;split at h
 case h_2=>exact h.elim
 refine lC h λt g h=>lC h λi c h=>?_
 split at h
 case h_2=>exact h.elim
 rename_i j p;cases e:(Nat.beq i t&&Nat.ble (g+a) c&&Nat.ble (c+b) j.length) with
 | false=>rw[e]at h;exact h.elim
 | true=>
  rw[e]at h;simp only[cond_true,d3]at h |-;obtain⟨q,B,k,rcs,l,n,o⟩:=cT.out h;exact CM l n (RC o)
def Nl{d:Option Nat}(h:kM P N F d f args modes K):kM P N F d f args modes λF1=>K F1/\bY ts F F1:=by
 unfold kM at h |-;split
 ·rename_i p a;rw[a]at h;exact P3 h
 rename_i a;rw[a]at h;exact PG h
variable{s:Nat}
def TS{dj:Option Nat}{b:Nat->AV}(u:bY ts F b):bY ts F (rv1 F dj s b):=by
 unfold rv1;split
 case h_2=>exact u
 rename_i t d f;cases g:(dne dj s&&dne dj t) with
 | false=>exact u
 | true=>
  simp only[cond_true];split
  case h_2=>exact u
  split
  case h_2=>exact u
  intro q e a;by_cases c:q=s
  ·subst c
   rw[qz]at a;exact .inr ⟨q,by rw[f];exact a⟩
  rw[fC _ _ c]at a;exact u q e a
def HX{ts:List Nat}{dj:Option Nat} : ∀{l:List Nat}{a:Nat->AV},bY ts F a->bY ts F (rvE F dj l a)
 | [],_,u=>u
 | _::l,_,u=>HX (l:=l) (TS u)
def R3{a:Oper}(k:a.guard=none)(i:qb a.op=true)(h:j7 P TE N ops a K F):j7 P TE N ops a (λF1=>K F1/\bY (a.looksAt ops) F F1) F:=by
 have pur:∀d,a.dst=some d->dz P TE F a.op (λj=>bS N F d j K)->dz P TE F a.op λj=>bS N F d j λF1=>K F1/\bY (a.looksAt ops) F F1:=λd f h=>by
  have A:gJ P TE N ops a K F:=by unfold gJ fJ;rw[k,f];exact h
  obtain⟨G,j,l,B⟩:=x5 A;have g:=l.dst;rw[f]at g;simp only[C1]at g;subst g;have n:=l.at_ F (jA.refl _ _) (λF1=>K F1/\bY (a.looksAt ops) F F1) ⟨B,bY.put λe C=>(l.from_ e C).imp id λ⟨t,_,h⟩=>⟨t,h⟩⟩;unfold gJ fJ at n;rw[k,f]at n;exact n
 unfold j7 fJ at h |-;rw[k]at h |-;simp only at h |-;cases b:a.op with
 | call c=>
  rw[b]at h i;have o:pF c=none:=by
   simp only[qb]at i;unfold pF;cases D:c.callee with
   | value=>rfl
   | _=>simp[D]at i
  have pl:iw P TE N a K F->iw P TE N a (λF1=>K F1/\bY (a.looksAt ops) F F1) F:=λh=>by
   unfold iw at h |-;rw[b]at h |-;cases f:a.dst with
   | none=>rw[f]at h;exact h.elim
   | some d=>
    rw[f]at h;simp only[ow,o]at h |-;have r:=pur d f;rw[b]at r;exact r h
  cases w:BF N F (.call c) with
  | some p=>
   rw[w]at h;simp only at h |-;have lt:sE P N F a.dst p.1 p.2.1 p.2.2 K->sE P N F a.dst p.1 p.2.1 p.2.2 λF1=>K F1/\bY (a.looksAt ops) F F1:=λh=>rz (Nl (ts:=a.looksAt ops) h) λF1 ⟨h,u⟩=>by
    rw[oz]at h |-;exact⟨h,HX u⟩
   cases y:Na N (.call c) with
   | false=>rw[y]at h;exact lt h
   | true=>
    rw[y]at h;rcases h with h|h
    ·exact .pl (pl h)
    exact .lt (lt h)
  | none=>
   rw[w]at h;have E:iw P TE N a K F:=by unfold iw;rw[b];exact h
   have q:=pl E;unfold iw at q;rw[b]at q;exact q
 | _=>rw[b]at i;cases i
def RI{a:Oper}(e:a.guard=none)(b:(Tk a.op || qb a.op)=true)(c:a.dst≠some d)(f:d∉a.looksAt ops)(g:∀t,(F t).uses d=false)(h:j7 P TE N ops a K F) :
  j7 P TE N ops a (λF1=>K F1/\bY (a.looksAt ops) F F1) F:=by
 rw[I7]at b;rcases b with b|b
 ·exact TA e b c f g h
 exact R3 e b h
def Gq(d:Nat)(ts:List Nat)(F:Nat->AV)(K:(Nat->AV)->Prop)(F1:Nat->AV):Prop:=∃a,K (eff none d a F1)/\bY ts F F1
def Gq.trans{a:Nat->AV}(b:bY ts F F1)(h:Gq d ts F1 K a):Gq d ts F K a:=by
 obtain⟨c,e,f⟩:=h;exact⟨c,e,b.trans f⟩
def Dc(a:t≠d):setH (eff none d v F) t av=eff none d v (setH F t av):=by
 funext s
 by_cases b:s=d
 ·subst b
  rw[ir,fC _ _ (Ne.symm a),ir]
 rw[bH b];unfold setH;rw[bH b]
def tZ{off:Nat}{st:cM}{K:(Nat->AV)->List C->Prop}(h:lendAt (eff none d v F) t off st n K)(a:t≠d):lendAt F t off st n λF1 cs=>∃v1,K (eff none d v1 F1) cs/\bY ts F F1:=by
 unfold lendAt at h |-;rw[bH a]at h;split at h
 case h_2=>exact h.elim
 split at h
 ·rename_i k e _ _
  cases b:Nat.ble (off+n) e.length with
  | false=>rw[b]at h;exact h.elim
  | true=>
   rw[b]at h;simp only[cond_true,d3]at h |-;rw[nR a]at h;exact⟨_,h,bY.updH⟩
 obtain⟨r,j,f,g,i,c⟩:=Lq.out h;refine .mk_ ?_;rw[nR a]at c;exact⟨r,j,_,_,f,g,i,rfl,rfl,_,c,bY.updH⟩
def na{ts:List Nat}{d:Nat}(a:d∉ts):∀{xs:List (Operand × Nat)}{K:(Nat->AV)->List (MA × rW)->Prop}{F:Nat->AV}{v:AV},lendP xs K (eff none d v F)->(∀x,x∈xs->d∉tm x.1)->(∀t,(F t).uses d=false)->
  lendP xs (λF1 l=>(∃v1,K (eff none d v1 F1) l/\bY ts F F1)/\∀q,q∈l->d∉q.2.slot) F
 | [],K,F,v,h,_,_=>⟨⟨v,h,bY.refl _ _⟩,λq b=>by cases b⟩
 | (x,0)::xs,K,F,v,h,f,g=>by
  simp only[lendP]at h |-;refine cz (na a h (λx i=>f x (C6 _ i)) g) λF1 l h=>⟨h.1,λq b=>?_⟩
  rcases List.mem_cons.1 b with rfl|b
  ·exact λA=>by cases A
  exact h.2 q b
 | (x,1)::xs,K,F,v,h,f,g=>by
  simp only[lendP]at h |-;split at h
  case h_2=>exact h.elim
  rename_i s;have k:s≠d:=λe=>f _ C2 (by simp[tm,e])
  rw[bH k]at h;have y:∀{t:Nat}{F1:Nat->AV}{l:List (MA × rW)}{m:MA}{j:Nat}{B:cM}{K2:(Nat->AV)->List (MA × rW)->Prop},t≠d->((∃v1,K2 (eff none d v1 F1) ((m,.at_ t j B)::l)/\bY ts F F1)/\∀q,q∈l->d∉q.2.slot)->(∃v1,K2 (eff none d v1 F1) ((m,.at_ t j B)::l)/\bY ts F F1)/\∀q,q∈(m,rW.at_ t j B)::l->d∉q.2.slot:=λc h=>⟨h.1,λq b=>by
    rcases List.mem_cons.1 b with rfl|b
    · exact λA=>c (V1.1 A).symm
    exact h.2 q b⟩
  split at h
  ·exact f6 (tZ (ts:=ts) h k) λF1 p h=>by
    obtain⟨v1,h,o⟩:=h;exact cz (na a h (λx i=>f x (C6 _ i)) (o.clean a g)) λD l h=>by
     obtain⟨⟨r,h,u⟩,w⟩:=h;exact y (K2:=K) k ⟨⟨r,h,o.trans u⟩,w⟩
  ·exact f6 (tZ (ts:=ts) h k) λF1 p h=>by
    obtain⟨v1,h,o⟩:=h;exact cz (na a h (λx i=>f x (C6 _ i)) (o.clean a g)) λD l h=>by
     obtain⟨⟨r,h,u⟩,w⟩:=h;exact y (K2:=K) k ⟨⟨r,h,o.trans u⟩,w⟩
  ·rename_i t j B H E
   have c:t≠d:=λe=>by have:=g s;rw[E,e]at this;simp[AV.uses]at this
   exact f6 (tZ (ts:=ts) h c) λF1 p h=>by
    obtain⟨v1,h,o⟩:=h;exact cz (na a h (λx i=>f x (C6 _ i)) (o.clean a g)) λD l h=>by
     obtain⟨⟨r,h,u⟩,w⟩:=h;exact y (K2:=K) c ⟨⟨r,h,o.trans u⟩,w⟩
  exact h.elim
 | (x,n+2)::xs,K,F,v,h,f,g=>by
  simp only[lendP]at h |-;split at h
  case h_2=>exact h.elim
  rename_i s;have k:s≠d:=λe=>f _ C2 (by simp[tm,e])
  rw[bH k]at h;have y:∀{t:Nat}{p:List C},t≠d->lendP xs (λG l=>K G ((.ptr p,.box t)::l)) (kill (eff none d v F) t)->lendP xs (λF1 l=>(∃v1,K (eff none d v1 F1) ((.ptr p,.box t)::l)/\bY ts F F1)/\∀q,q∈(MA.ptr p,rW.box t)::l->d∉q.2.slot) (kill F t):=fun {t p} c h=>by
   rw[El c]at h;refine cz (na a h (λx i=>f x (C6 _ i)) ((bY.kill (ts:=ts)).clean a g)) λD l h=>?_
   obtain⟨⟨r,h,u⟩,w⟩:=h;refine⟨⟨r,h,bY.kill.trans u⟩,λq b=>?_⟩;rcases List.mem_cons.1 b with rfl|b
   ·exact λA=>c (V1.1 A).symm
   exact w q b
  split at h
  ·rename_i t E
   have c:t≠d:=λe=>by have:=g s;rw[E,e]at this;simp[AV.uses]at this
   rw[bH c]at h;split at h
   ·exact y c h
   exact h.elim
  ·exact y k h
  exact h.elim
def tp{d:Nat}{v:AV}(c:∀t,(F t).uses d=false):∀{l:List (MA × rW)}{xs:List Operand}{K:Bool->List MA->Prop},valsP (eff none d v F) l xs K->(∀x,x∈xs->d∉tm x)->valsP F l xs K
 | [],[],K,h,_=>h
 | (m,.no)::l,x::xs,K,h,a=>by
  obtain⟨g,i,e,f⟩:=cI h;exact f F (oE (a x C2) c) _ (tp c e λx b=>a x (C6 _ b))
 | (m,.at_ t off st)::l,x::xs,K,h,a=>tp (l:=l) (xs:=xs) c h λx b=>a x (C6 _ b)
 | (m,.box t)::l,x::xs,K,h,a=>tp (l:=l) (xs:=xs) c h λx b=>a x (C6 _ b)
 | [],_::_,K,h,_=>h.elim
 | (m,.no)::l,[],K,h,_=>h.elim
 | (m,.at_ t off st)::l,[],K,h,_=>h.elim
 | (m,.box t)::l,[],K,h,_=>h.elim
def mg{ts:List Nat}{d:Nat}{K:(Nat->AV)->Prop} : ∀{l:List (MA × rW)}{B:List MA}{F:Nat->AV}{v:AV},im l B K (eff none d v F)->(∀q,q∈l->d∉q.2.slot)->im l B (Gq d ts F K) F
 | [],[],F,v,h,_=>⟨v,h,bY.refl _ _⟩
 | [],_::_,F,v,h,_=>h.elim
 | (m,.no)::l,[],F,v,h,_=>h.elim
 | (m,.at_ t off st)::l,[],F,v,h,_=>h.elim
 | (m,.box t)::l,[],F,v,h,_=>h.elim
 | (m,.no)::l,.val _ _::B,F,v,h,a=>mg (l:=l) (B:=B) h λq b=>a q (C6 _ b)
 | (m,.no)::l,.mut _ _::B,F,v,h,a=>mg (l:=l) (B:=B) h λq b=>a q (C6 _ b)
 | (m,.no)::l,.ptr _::B,F,v,h,a=>mg (l:=l) (B:=B) h λq b=>a q (C6 _ b)
 | (m,.at_ t off st)::l,.val _ _::B,F,v,h,_=>h.elim
 | (m,.at_ t off st)::l,.ptr _::B,F,v,h,_=>h.elim
 | (m,.box t)::l,.val _ _::B,F,v,h,_=>h.elim
 | (m,.box t)::l,.mut _ _::B,F,v,h,_=>h.elim
 | (m,.at_ t off st)::l,.mut ag out::B,F,v,h,a=>by
  have f:t≠d:=λe=>a _ C2 (by simp[rW.slot,e])
  have c:∀q,q∈l->d∉q.2.slot:=λq b=>a q (C6 _ b)
  simp only[im]at h |-;rw[bH f]at h;split at h
  case h_2=>exact h.elim
  split at h
  ·rename_i k p _ _
   cases i:Nat.ble (off+out.length) p.length with
   | false=>rw[i]at h;exact h.elim
   | true=>
    rw[i]at h;simp only[cond_true,d3]at h |-;rw[nR f]at h;exact d5 (λn g=>Gq.trans bY.updH g) (mg (ts:=ts) h c)
  obtain⟨r,j,u,w,y,o⟩:=Pu.out h;rw[nR f]at o;exact Pu.mk u w y rfl (d5 (λn g=>Gq.trans bY.updH g) (mg (ts:=ts) o c))
 | (m,.box t)::l,.ptr out::B,F,v,h,a=>by
  have f:t≠d:=λe=>a _ C2 (by simp[rW.slot,e])
  have c:∀q,q∈l->d∉q.2.slot:=λq b=>a q (C6 _ b)
  simp only[im]at h |-;rw[bH f]at h;split at h
  ·rw[Dc f]at h
   exact d5 (λn g=>Gq.trans bY.setH g) (mg (ts:=ts) h c)
  exact h.elim
def MF{dj:Option Nat}(h:lF P N (eff none d v F) dj f args modes K)(c:dj≠some d)(a:d∉ts)(j:∀x,x∈args->d∉tm x)(n:∀t,(F t).uses d=false) :
  lF P N F dj f args modes (Gq d ts F K):=by
 unfold lF at h |-;refine cz (na a h (λx q=>j _ (List.of_mem_zip q).1) n) λG l h=>?_
 obtain⟨⟨H,h,g⟩,r⟩:=h;cases o:(vw l&&Nat.beq args.length modes.length) with
 | false=>rw[o]at h;exact h.elim
 | true=>
  rw[o]at h;refine jH (tp (g.clean a n) h j) λb A h=>?_
  obtain⟨J,B,k,rcs,u,i,w⟩:=cT.out h;refine CM u i (d5 (λF'' h=>?_) (mg (ts:=ts) w r));obtain⟨y,h,p⟩:=h;cases dj with
  | none=>exact⟨y,h,g.trans p⟩
  | some dj=>
   refine bw (iG (ts:=ts) h (λe=>c (by rw[e])) jx) λL i=>?_
   obtain⟨C,-,D,E⟩:=i;exact⟨C,D,(g.trans p).trans E⟩
def Rf{dj:Option Nat}{a g:Nat}{B:List MA}(i:t≠d)(c:dj≠some d)(h:zc N (eff none d v F) dj t cs f a g b K k rcs B):zc N F dj t cs f a g b (Gq d ts F K) k rcs B:=by
 unfold zc at h |-;split at h
 case h_2=>exact h.elim
 rename_i l n;cases j:(Nat.beq l.length a&&Nat.beq n.length b) with
 | false=>rw[j]at h;exact h.elim
 | true=>
  rw[j]at h;simp only[cond_true,d3]at h |-;rw[El i,Dc i]at h;cases dj with
  | none=>exact⟨_,h,bY.kill.trans bY.setH⟩
  | some dj=>
   refine bw (iG (ts:=ts) h (λe=>c (by rw[e])) jx) λu o=>?_
   obtain⟨p,-,q,r⟩:=o;exact⟨p,q,(bY.kill.trans bY.setH).trans r⟩
def KD{K:Nat->Nat->Prop}(b:d∉tm x)(c:∀t,(F t).uses d=false)(h:zA (eff none d v F) x K):zA F x λt o=>t≠d/\K t o:=by
 obtain⟨s,t,f,rfl,a,g⟩:=td h;have i:s≠d:=λe=>b (by simp[tm,e])
 rw[bH i]at a;have j:t≠d:=λe=>by have:=c s;rw[a,e]at this;simp[AV.uses]at this
 simp only[zA,a];exact⟨j,g⟩
def MV{dj:Option Nat}{a:Nat}(h:kL P N (eff none d v F) dj f args a b K)(c:dj≠some d)(e:∀x,x∈args->d∉tm x)(g:∀t,(F t).uses d=false) :
  kL P N F dj f args a b (Gq d ts F K):=by
 unfold kL at h |-;split at h
 case h_2=>exact h.elim
 refine lC (KD (e _ (by simp)) g h) λt n h=>?_
 obtain⟨i,h⟩:=h;refine lC (KD (e _ (by simp)) g h) λo j h=>?_
 replace h:=h.2;rw[bH i]at h;split at h
 case h_2=>exact h.elim
 rename_i p w;cases l:(Nat.beq o t&&Nat.ble (n+a) j&&Nat.ble (j+b) p.length) with
 | false=>rw[l]at h;exact h.elim
 | true=>
  rw[l]at h;simp only[cond_true,d3]at h |-;obtain⟨y,B,k,rcs,q,r,u⟩:=cT.out h;exact CM q r (Rf i c u)
def MK{dj:Option Nat}(h:kM P N (eff none d v F) dj f args modes K)(a:dj≠some d)(b:d∉ts)(e:∀x,x∈args->d∉tm x)(g:∀t,(F t).uses d=false) :
  kM P N F dj f args modes (Gq d ts F K):=by
 unfold kM at h |-;split
 ·rename_i p c;rw[c]at h;exact MV h a e g
 rename_i c;rw[c]at h;exact MF h a b e g
def Rd{dj:Option Nat}{q:Nat}(a:q≠s):rv1 F dj s F1 q=F1 q:=by
 unfold rv1;cases F s with
 | ref t b c=>
  cases c with
  | cons=>rfl
  | nil=>
   simp only;cases(dne dj s&&dne dj t) with
   | false=>rfl
   | true=>
    simp only[cond_true];cases F1 t with
    | H k d=>
     cases k with
     | box=>
      simp only;cases F1 s with
      | dead=>exact fC _ _ a
      | _=>rfl
     | _=>rfl
    | _=>rfl
 | _=>rfl
def TP{dj:Option Nat}{v1:AV}(f:∀t,(F t).uses d=false):∃b,rv1 (eff none d v F) dj s (eff none d v1 F1)=eff none d b (rv1 F dj s F1):=by
 by_cases c:s=d
 ·subst c
  have g:∃b,rv1 (eff none s v F) dj s (eff none s v1 F1)=eff none s b F1:=by
   unfold rv1;rw[ir];have set:∀x:AV,setH (eff none s v1 F1) s x=eff none s x F1:=λx=>by
    funext q
    by_cases a:q=s
    ·subst a;rw[qz,ir]
    rw[fC _ _ a,bH a,bH a]
   split
   case h_2=>exact⟨v1,rfl⟩
   cases h:(dne dj s&&dne dj _) with
   | false=>exact⟨v1,rfl⟩
   | true=>
    simp only[cond_true];split
    case h_2=>exact⟨v1,rfl⟩
    split
    case h_2=>exact⟨v1,rfl⟩
    exact⟨_,set _⟩
  obtain⟨b,i⟩:=g;refine⟨b,i.trans ?_⟩
  funext q
  by_cases a:q=s
  ·subst a;rw[ir,ir]
  rw[bH a,bH a,Rd a]
 refine⟨v1,?_⟩;unfold rv1;rw[bH c];cases j:F s with
 | ref t l n=>
  cases n with
  | cons=>rfl
  | nil=>
   have o:t≠d:=λe=>by have:=f s;rw[j,e]at this;simp[AV.uses]at this
   simp only;cases h:(dne dj s&&dne dj t) with
   | false=>rfl
   | true=>
    simp only[cond_true];rw[bH o,bH c];cases F1 t with
    | H k p=>
     cases k with
     | box=>
      simp only;cases F1 s with
      | dead=>exact Dc c
      | _=>rfl
     | _=>rfl
    | _=>rfl
 | _=>rfl
def Pw{d:Nat}{dj:Option Nat}{v:AV}(a:∀t,(F t).uses d=false):∀{l:List Nat}{v1:AV}{F1:Nat->AV},∃b,rvE (eff none d v F) dj l (eff none d v1 F1)=eff none d b (rvE F dj l F1)
 | [],v1,_=>⟨v1,rfl⟩
 | s::l,v1,F1=>by
  simp only[rvE];obtain⟨b,e⟩:=TP (dj:=dj) (v:=v) (v1:=v1) (s:=s) (F1:=F1) a;rw[e];exact Pw a
def QJ{a:Oper}(M:a.guard=none)(i:qb a.op=true)(j:a.dst≠some d)(w:d∉a.looksAt ops)(g:∀t,(F t).uses d=false)(h:j7 P TE N ops a K (eff none d v F)) :
  j7 P TE N ops a (Gq d (a.looksAt ops) F K) F:=by
 have k:∀t,t∈dm a.op->t∈a.looksAt ops:=λt A=>fY a t A
 have tmI:∀x,x∈a.op.operands.toList->∀t,t∈tm x->t∈a.looksAt ops:=λx q t A=>k t (List.mem_flatMap.2 ⟨x,q,A⟩)
 have pur:∀dj,dj≠d->dz P TE (eff none d v F) a.op (λr=>bS N (eff none d v F) dj r K)->dz P TE F a.op λr=>bS N F dj r (Fq d (a.looksAt ops) v F K):=λdj j h=>
  DY (p:=λF K=>dz P TE F a.op K) (ki h) j k w g
 unfold j7 fJ at h |-;rw[M]at h |-;simp only at h |-;cases b:a.op with
 | call c=>
  rw[b]at h i tmI;have B:pF c=none:=by
   simp only[qb]at i;unfold pF;cases g:c.callee with
   | value=>rfl
   | _=>simp[g]at i
  have C:BF N (eff none d v F) (.call c)=BF N F (.call c):=by
   simp only[qb]at i;simp only[BF];cases g:c.callee with
   | value x=>
    cases x with
    | func f=>rfl
    | _=>simp[g]at i
   | _=>rfl
  rw[C]at h;have pl:iw P TE N a K (eff none d v F)->iw P TE N a (Gq d (a.looksAt ops) F K) F:=λh=>by
   unfold iw at h |-;rw[b]at h |-;cases D:a.dst with
   | none=>rw[D]at h;exact h.elim
   | some dj=>
    rw[D]at h;simp only[ow,B]at h |-;have J:=pur dj (λe=>j (by rw[D,e]));rw[b]at J;obtain⟨r,O,-,Q⟩:=ki (J h);exact Q F (jA.refl _ _) _ (bw O λU E=>by
      obtain⟨v1,-,R,u⟩:=E;exact⟨v1,R,u⟩)
  cases n:BF N F (.call c) with
  | some p=>
   rw[n]at h;simp only at h |-;have o:∀x,x∈p.2.1->d∉tm x:=λx q G=>by
    have S:p.2.1=c.args.toList:=by
     simp only[qb]at i;simp only[BF]at n;cases g:c.callee with
     | value y=>
      cases y with
      | func f=>
       rw[g]at n;simp only at n;split at n
       ·cases n;rfl
       cases n
      | _=>simp[g]at i
     | _=>simp[g]at i
    rw[S]at q;refine w (tmI x ?_ d G);simp only[Op.operands,Call.operands];simp
    first|exact .inl (by simpa using q)|exact .inr (by simpa using q)|(simpa using q)
   have lt:sE P N (eff none d v F) a.dst p.1 p.2.1 p.2.2 K->sE P N F a.dst p.1 p.2.1 p.2.2 (Gq d (a.looksAt ops) F K):=λh=>rz (MK (ts:=a.looksAt ops) h j w o g) λF1 h=>by
    obtain⟨v1,h,u⟩:=h;rw[oz]at h |-;obtain⟨T,e⟩:=Pw (dj:=a.dst) (v:=v) (l:=UE N.mo) (v1:=v1) (F1:=F1) g;rw[e]at h;exact⟨T,h,HX u⟩
   cases L:Na N (.call c) with
   | false=>rw[L]at h;exact lt h
   | true=>
    rw[L]at h;rcases h with h|h
    ·exact .pl (pl h)
    exact .lt (lt h)
  | none=>
   rw[n]at h;have E:iw P TE N a K (eff none d v F):=by unfold iw;rw[b];exact h
   have H:=pl E;unfold iw at H;rw[b]at H;exact H
 | _=>rw[b]at i;cases i
def Ry{a:Oper}(e:a.guard=none)(b:(Tk a.op || qb a.op)=true)(c:a.dst≠some d)(f:d∉a.looksAt ops)(g:∀t,(F t).uses d=false)(h:j7 P TE N ops a K (eff none d v F)) :
  j7 P TE N ops a (Gq d (a.looksAt ops) F K) F:=by
 rw[I7]at b;rcases b with b|b
 ·refine kE (NE e b c f g h) λl i=>?_
  obtain⟨j,-,k,u⟩:=i;exact⟨j,k,u⟩
 exact QJ e b c f g h
structure mG(ops:Array Oper)(ds:List Nat)(F:Nat->AV)(listed:Array Bool):Prop where
 dst:∀(j:Nat)(o:Oper)(d:Nat),pd ds o=true->ops[j]? = some o->listed.getD j true=false->o.dst=some d->∀t,(F t).uses d=false
 mv:∀(j:Nat)(o:Oper)(T:Option Nat)(s:Nat),pd ds o=true->ops[j]? = some o->listed.getD j true=false->o.guard=none->oG o.op=some (T,s)->jC ops o s=true->∀t,(F t).uses s=false
variable{j:Nat}
def mG.put{r:Option Nat}(h:mG ops ds F listed)(o:∀b a g,pd ds a=true->b≠j->ops[b]? = some a->listed.getD b true=false->a.dst=some g->av.uses g=false)(p:∀b a T s,pd ds a=true->b≠j->ops[b]? = some a->listed.getD b true=false->a.guard=none->oG a.op=some (T,s)->jC ops a s=true->av.uses s=false) :
  mG ops ds (eff r d av F) (listed.setIfInBounds j true):=by
 refine⟨λb a g i c f k t=>?_,λb a T s i c f q l n t=>?_⟩
 ·have e:=iQ f
  rw[getD_set_ne true (Ne.symm e)]at f;exact kI (o b a g i e c f k) (h.dst b a g i c f k t)
 have e:=iQ f;rw[getD_set_ne true (Ne.symm e)]at f;exact kI (p b a T s i e c f q l n) (h.mv b a T s i c f q l n t)
def yR{o:Oper}(h:Uu o=true):o.guard=none:=by
 unfold Uu at h;cases a:o.guard with
 | none=>rfl
 | some p=>rw[a]at h;cases h
def P5(h:(!ts.any (Nat.beq d))=true):d∉ts:=λa=>by
 have:ts.any (Nat.beq d)=true:=O4.2 ⟨d,a,Nat.beq_refl d⟩;rw[this]at h;cases h
def Qq{b c:Oper}{f:Bool}(h:U9 ops b c f=true)(i:c.dst=some d):b.guard=none/\(Tk b.op || qb b.op)=true/\b.dst≠some d/\d∉b.looksAt ops/\c.guard=none/\d∉c.looksAt ops/\(f=true\/∀T s,oG c.op=some (T,s)->jC ops c s=false):=by
 unfold U9 at h;rw[i]at h;simp only[I0]at h;obtain⟨⟨⟨⟨⟨⟨j,k⟩,g⟩,l⟩,n⟩,o⟩,a⟩:=h;refine⟨yR j,k,λe=>?_,P5 l,yR n,P5 o,?_⟩
 ·rw[e]at g;simp at g
 rw[I7]at a;rcases a with a|a
 ·exact .inl a
 exact .inr λT s e=>by rw[e]at a;simpa using a
def MP(h:wv ops j i=true):oV ops j i:=sf j _ (λ_ a=>.one (zg a)) i h
def Km{o:Oper}(h:pd ds o=true):∃d,o.dst=some d/\ds.any (Nat.beq d)=true:=by
 unfold pd at h;cases a:o.dst with
 | none=>rw[a]at h;cases h
 | some d=>rw[a]at h;exact⟨d,rfl,h⟩
structure U8(ops:Array Oper)(ds:List Nat)(nm:Nat->Bool):Prop where
 back:∀(j:Nat)(oj:Oper),ops[j]? = some oj->∀e∈oj.after,Region.binds .any e=true->e.on<j
 apart:∀(i j:Nat)(oi oj:Oper),pd ds oi=true->pd ds oj=true->i≠j->ops[i]? = some oi->ops[j]? = some oj->di oj i=true\/di oi j=true\/oi.apart ops oj=true
 look:∀(i j:Nat)(oi oj:Oper)(d:Nat),pd ds oi=true->i≠j->ops[i]? = some oi->ops[j]? = some oj->oi.dst=some d->d∈oj.looksAt ops->di oj i=true
 differ:∀(i j:Nat)(oi oj:Oper)(d:Nat),pd ds oi=true->pd ds oj=true->i≠j->ops[i]? = some oi->ops[j]? = some oj->oi.dst=some d->oj.dst≠some d
 nf:∀(i j:Nat)(oi oj:Oper),pd ds oi=true->pd ds oj=false->i≠j->ops[i]? = some oi->ops[j]? = some oj->wv ops j i=true\/wv ops i j=true\/U9 ops oj oi (nm i)=true
 mvs:∀(j:Nat)(oj:Oper)(T:Option Nat)(s:Nat),pd ds oj=true->ops[j]? = some oj->oG oj.op=some (T,s)->jC ops oj s=true->ds.any (Nat.beq s)=true
def p9{h:Oper}(c:U8 ops ds nm)(d:DC ops listed)(a:ops[j]? = some h)(b:∀e∈h.after,Region.binds .any e=true->listed.getD e.on false=true)(n:wv ops j i=true):listed.getD i false=true:=
 ox d c.back (MP n) (t4.1 a).1 λk l=>by
  rw[bh a]at l;obtain⟨e,f,g,rfl⟩:=cG.1 l;exact b e f g
def unl{k:Nat}(h1:listed.getD k true=false)(a:listed.getD k false=true):False:=by
 rcases Nat.lt_or_ge k listed.size with b|b
 ·simp[b]at h1 a;rw[h1]at a;cases a
 simp[Array.getElem?_eq_none b]at a
def jA.trans{a:Nat->AV}(h1:jA F F1 ts)(g:jA F1 a ts):jA F a ts:=λt b=>by
 obtain⟨c,h⟩:=h1 t b;obtain⟨i,j⟩:=g t b;refine⟨i.trans c,λd e k f l=>j d (by rw[c];exact e) k f (h d e k f l)⟩
def mG.us{f:Oper}(r:U8 ops ds nm)(h:mG ops ds F listed)(g:ops[j]? = some f)(i:∀e∈f.after,Region.binds .any e=true->listed.getD e.on false=true)(u:bY (f.looksAt ops) F F1):mG ops ds F1 (listed.setIfInBounds j true):=by
 refine⟨λk l y q b c n=>u.clean (λd=>?_) (h.dst k l y q b ?_ n),λk l T s q b c A o p=>u.clean (λd=>?_) (h.mv k l T s q b ?_ A o p)⟩
 ·have a:=iQ c
  rw[getD_set_ne true (Ne.symm a)]at c;have:=r.look k j l f y q a b g n d;obtain⟨e,t,w,rfl⟩:=cG.1 this;exact unl c (i e t w)
 ·have a:=iQ c
  rwa [getD_set_ne true (Ne.symm a)]at c
 ·have a:=iQ c
  exact a ((gq p).2 k j l f b g (df o) d)
 have a:=iQ c
 rwa [getD_set_ne true (Ne.symm a)]at c
def Tx{p:Nat}{b:Oper}(a:ops[p]? = some b)(g:d∉b.looksAt ops)(i:∀t,(F1 t).uses d=false)(c:b.dst≠some d)(h:T7 P TE ops p (eff none d v F1)):T7 P TE ops p F1:=by
 obtain⟨n,f,j,k⟩:=h;rw[bh a]at f j k;refine⟨n,by rw[bh a];exact f,?_,?_⟩
 ·rw[bh a]
  rw[<-j];exact w7 (ops:=ops) (oE g i)
 rw[bh a];obtain⟨r,l,-,o⟩:=ki k;rw[bH (λe=>c (by rw[f,e]))]at l;exact o F1 (oE (λq=>g (fY b d q)) i) _ l
def Jr(B:U8 ops ds nm){b:Oper}(C:ops[i]? = some b)(o:pd ds b=true) :
  ∀(fuel:Nat)(listed:Array Bool)(F:Nat->AV)(q:Option Nat)(av:AV),i∈Region.ready .any ops listed->mG ops ds F listed->DC ops listed->Yl P TE N ops b F q d av->(nm i=true->q=none)->EB P TE N ops ds K fuel (listed.setIfInBounds i true) (eff q d av F)->EB P TE N ops ds K (fuel+1) listed F:=by
 have self:∀(listed:Array Bool)(F:Nat->AV)(q:Option Nat)(av:AV),i∈Region.ready .any ops listed->mG ops ds F listed->Yl P TE N ops b F q d av->∀K':(Nat->AV)->Prop,K' (eff q d av F)->lN P TE N ops b K' F:=λlisted F q av W c f K' hK=>by
  have a:=(mem_ready.1 W).1;refine f.at_ F (jA.refl _ _) (c.dst i b d o C a f.dst) (λs hs=>?_) K' hK;obtain⟨L,⟨T,h2⟩,h3⟩:=f.mvl s hs;exact c.mv i b T s o C a L h2 h3
 intro fuel
 induction fuel with
 | zero=>
  intro listed F q av W c M f E H;refine⟨λh=>(by rw[h]at W;cases W),λj hj=>?_⟩;by_cases g:j=i
  ·subst g
   unfold vS;rw[C];simp only[CD o];exact self listed F q av W c f _ H
  have:=ready_mono hj g;rw[H.1]at this;cases this
 | succ fuel ih=>
  intro listed F q av W c M f E H;refine⟨λh=>(by rw[h]at W;cases W),λj hj=>?_⟩;by_cases g:j=i
  ·subst g
   unfold vS;rw[C];simp only[CD o];exact self listed F q av W c f _ H
  have L:=H.2 j (ready_mono hj g);obtain⟨G,n,l,X⟩:=mem_ready.1 hj;obtain⟨a,oi',Y,Z⟩:=mem_ready.1 W;rw[C]at Y;simp only[C1]at Y;subst Y;have noedge:∀k ok,ops[k]? = some ok->listed.getD k true=false->di n k=false:=λk ok hk hkun=>by
   rw[<-I6];intro he;obtain⟨e,he1,he2,he3⟩:=cG.1 he;exact unl hkun (he3 ▸ X e he1 he2)
  have noedge':∀k ok,ops[k]? = some ok->listed.getD k true=false->di b k=false:=λk ok hk hkun=>by
   rw[<-I6];intro he;obtain⟨e,he1,he2,he3⟩:=cG.1 he;exact unl hkun (he3 ▸ Z e he1 he2)
  have cd:∀t,(F t).uses d=false:=c.dst i b d o C a f.dst
  unfold vS at L |-;rw[l]at L |-;simp only at L |-;by_cases O:pd ds n=true
  case neg=>
   rw[CB O]at L |-;have hji1:wv ops j i=false:=by
    rw[<-I6];exact λh=>unl a (p9 B M l X h)
   have hij1:wv ops i j=false:=by
    rw[<-I6];exact λh=>unl G (p9 B M C Z h)
   have hfb:U9 ops n b (nm i)=true:=by
    rcases B.nf i j b n o (by simpa using O) (Ne.symm g) C l with h|h|h
    ·rw[hji1]at h;cases h
    ·rw[hij1]at h;cases h
    exact h
   obtain⟨Q,y,J,g4,g5,g6,g7⟩:=Qq hfb f.dst;have hmv:q=none:=by
    cases q with
    | none=>rfl
    | some s=>
     obtain⟨-,⟨T,q1⟩,q2⟩:=f.mvl s rfl;rcases g7 with g7|g7
     ·exact E g7
     rw[g7 T s q1]at q2;cases q2
   subst hmv;refine kE (Ry Q y J g4 cd L) λF1 hF1=>?_
   obtain⟨v,⟨hchk,hrun⟩,u⟩:=hF1;have cd1:∀t,(F1 t).uses d=false:=u.clean g4 cd
   have hisz:i<listed.size:=by
    rcases Nat.lt_or_ge i listed.size with h|h
    ·exact h
    simp[Array.getElem?_eq_none h]at a
   have hrd:T7 P TE ops i (eff none d v F1):=hchk i (by simp[hisz]) (by rw[bh C];exact o) hji1;refine⟨λp hp1 hp2 hp3=>?_,ih (listed.setIfInBounds j true) F1 none v (ready_mono W (Ne.symm g)) (c.us B l X u) (M.put hj) ?_ (λ_=>rfl) (by rw[Array.setIfInBounds_comm _ _ g];exact hrun)⟩
   ·have hpi:p≠i:=λe=>by subst e;exact unl a hp1
    have hpl:p<ops.size:=by
     rcases Nat.lt_or_ge p ops.size with h|h
     ·exact h
     rw[show dh ops p=default by simp[dh,V7,Array.getElem?_eq_none h]]at hp2;cases hp2
    have h0:ops[p]? = some ops[p]:=O7 hpl;have hp2':=hp2;rw[bh h0]at hp2';refine Tx h0 (λhlk=>?_) cd1 (B.differ i p b _ d o hp2' (Ne.symm hpi) C h0 f.dst) (hchk p (getD_set_true hp1) hp2 hp3);have:=B.look i p b _ d o (Ne.symm hpi) C h0 f.dst hlk;exact unl a (M p _ h0 hp1 i this)
   obtain⟨dp,q1,q2,q3⟩:=hrd;rw[bh C]at q1 q2 q3;have hdp:dp=d:=by rw[f.dst]at q1;simpa using q1.symm
   subst hdp;rw[ir]at q3;obtain⟨R,e1,e2,e3⟩:=ki q3;subst e1;have agr1:jA (eff none dp R F1) F1 (b.looksAt ops):=oE g6 cd1;have fromv:eG F1 (b.looksAt ops) R:=λe he=>by
    rcases e2 e he with h|⟨t,A,h⟩
    ·exact .inl (fY b e h)
    have htl:=fY (ops:=ops) b t A;have hne:t≠dp:=λe=>g6 (e ▸ htl)
    rw[bH hne]at h;exact .inr ⟨t,htl,h⟩
   have hself:R.uses dp=false:=by
    cases D:R.uses dp with
    | false=>rfl
    | true=>
     rcases fromv dp D with h|⟨t,_,h⟩
     ·exact absurd h g6
     rw[cd1 t]at h;cases h
   refine⟨f.dst,f.lt,hself,fromv,λs hs=>(by cases hs),λF' hA S _ K' hK=>?_⟩;have agr2:=agr1.trans hA;unfold lN;rw[w7 agr2,q2];simp only;unfold gJ fJ;rw[g5,f.dst];simp only;refine e3 F' (agr2.mono λt A=>fY b t A) _ ?_;unfold bS;rw[f.lt,hself];show K' (put F' dp R);rw[Ec R S];exact hK
  rw[CD O]at L |-;have hap:b.apart ops n=true:=by
   rcases B.apart i j b n o O (Ne.symm g) C l with h|h|h
   ·rw[noedge i b C a]at h;cases h
   ·rw[noedge' j n l G]at h;cases h
   exact h
  obtain⟨ap1,ap2,ap3⟩:=Oper.apart_spec hap;have hdl:d∉n.looksAt ops:=ap1 d f.dst;have cdj':∀r,n.dst=some r->∀t,(F t).uses r=false:=λr hdj=>c.dst j n r O l G hdj
  have cmv:∀s,q=some s->(∀t,(F t).uses s=false)/\s∉n.looksAt ops/\s∈b.looksAt ops:=λs hs=>by
   obtain⟨Q,⟨T,y⟩,J⟩:=f.mvl s hs;exact⟨c.mv i b T s o C a Q y J,λhl=>g ((gq J).2 i j b n C l (df y) hl).symm,df y⟩
  have cmvj:∀T s,n.guard=none->oG n.op=some (T,s)->jC ops n s=true->(∀t,(F t).uses s=false)/\s∉b.looksAt ops/\s∈n.looksAt ops:=λT s Q y J=>
   ⟨c.mv j n T s O l G Q y J,λhl=>g ((gq J).2 i j b n C l hl (df y)).symm,df y⟩
  have avno:∀e,e∉b.looksAt ops->(∀t,(F t).uses e=false)->av.uses e=false:=λe L h2=>by
   cases D:av.uses e with
   | false=>rfl
   | true=>
    rcases f.from_ e D with h|⟨t,_,h⟩
    ·exact absurd h L
    rw[h2 t]at h;cases h
  obtain⟨mvj,r,avj,U,hKj⟩:=q7 L (λr hdj t=>kI (avno r (ap3 r hdj) (cdj' r hdj)) (cdj' r hdj t)) (λT s Q y J t=>by
    obtain⟨c1,c2,-⟩:=cmvj T s Q y J;exact kI (avno s c2 c1) (c1 t))
  have hdne:d≠r:=λe=>ap2 d f.dst (by rw[U.dst,e])
  have hdjl:r∉b.looksAt ops:=ap3 r U.dst;have cdj:∀t,(F t).uses r=false:=cdj' r U.dst
  have cmj:∀s,mvj=some s->(∀t,(F t).uses s=false)/\s∉b.looksAt ops/\s∈n.looksAt ops:=λs hs=>by
   obtain⟨Q,⟨T,y⟩,J⟩:=U.mvl s hs;exact cmvj T s Q y J
  have lookj:∀t,t∈n.looksAt ops->eff q d av F t=F t:=λt A=>by
   unfold eff;have e1:t≠d:=λe=>hdl (e ▸ A)
   have e2:q≠some t:=λe=>(cmv t e).2.1 A
   rw[CB e1,CB e2]
  have looki:∀t,t∈b.looksAt ops->eff mvj r avj F t=F t:=λt A=>by
   unfold eff;have e1:t≠r:=λe=>hdjl (e ▸ A)
   have e2:mvj≠some t:=λe=>(cmj t e).2.1 A
   rw[CB e1,CB e2]
  have avjno:∀e,e∉n.looksAt ops->(∀t,(F t).uses e=false)->avj.uses e=false:=λe L h2=>by
   cases D:avj.uses e with
   | false=>rfl
   | true=>
    rcases U.from_ e D with h|⟨t,A,h⟩
    ·exact absurd h L
    rw[lookj t A,h2 t]at h;cases h
  have agrj:jA (eff q d av F) F (n.looksAt ops):=λt A=>by
   rw[lookj t A];refine⟨rfl,λt' D k cs hh=>?_⟩;have w:t'≠d:=λe=>by rw[e,cd t]at D;cases D
   have E:q≠some t':=λe=>by rw[(cmv t' e).1 t]at D;cases D
   unfold eff at hh;rw[CB w,CB E]at hh;exact hh
  refine U.at_ F agrj cdj (λs hs=>(cmj s hs).1) _ (ih (listed.setIfInBounds j true) (eff mvj r avj F) q av (ready_mono W (Ne.symm g)) (c.put (λj' o' d' hm' w V hl' S=>?_) (λj' o' T s hm' w V hl' Q y J=>?_)) (M.put hj) ?_ E ?_)
  ·refine avjno d' (λh=>?_) (c.dst j' o' d' hm' V hl' S)
   have:=B.look j' j o' n d' hm' w V l S h;rw[noedge j' o' V hl']at this;cases this
  ·exact avjno s (λh=>w ((gq J).2 j' j o' n V l (df y) h)) (c.mv j' o' T s hm' V hl' Q y J)
  ·refine⟨f.dst,f.lt,f.self,λe he=>?_,f.mvl,λF' hA S hs' K' hK=>f.at_ F' (λt A=>?_) S hs' K' hK⟩
   ·rcases f.from_ e he with h|⟨t,A,h⟩
    ·exact .inl h
    exact .inr ⟨t,A,by rw[looki t A];exact h⟩
   obtain⟨a1,a2⟩:=hA t A;rw[looki t A]at a1 a2;refine⟨a1,λt' D k cs hh=>a2 t' D k cs ?_⟩;have w:t'≠r:=λe=>by rw[e,cdj t]at D;cases D
   have E:mvj≠some t':=λe=>by rw[(cmj t' e).1 t]at D;cases D
   unfold eff;rw[CB w,CB E];exact hh
  rw[Array.setIfInBounds_comm _ _ g];have:eff q d av (eff mvj r avj F)=eff mvj r avj (eff q d av F):=by
   funext t
   unfold eff;by_cases e1:t=d
   ·have Q:t≠r:=λe=>hdne (e1.symm.trans e)
    have y:mvj≠some t:=λe=>hdl (e1 ▸ (cmj t e).2.2)
    simp only[CD e1,CB Q,CB y]
   rw[CB e1];by_cases e2:t=r
   ·have y:q≠some t:=λe=>hdjl (e2 ▸ (cmv t e).2.2)
    simp only[CD e2,CB y]
   simp only[CB e2,CB e1];by_cases e3:q=some t
   ·by_cases e4:mvj=some t
    ·simp only[CD e3,CD e4]
    simp only[CD e3,CB e4]
   by_cases e4:mvj=some t
   ·simp only[CB e3,CD e4]
   simp only[CB e3,CB e4]
  rw[this];exact hKj
def Bk:∀{g:List Nat}{X:Prop}{F:Nat->AV},Qm P TE ops g X F->X/\∀p,p∈g->T7 P TE ops p F
 | [],X,F,h=>⟨h,λp k=>by cases k⟩
 | p::l,X,F,h=>by
  simp only[Qm]at h;unfold Uw at h;cases c:(dh ops p).dst with
  | none=>rw[c]at h;exact h.elim
  | some d=>
   rw[c]at h;simp only at h;cases f:HZ F (dh ops p) with
   | some q=>rw[f]at h;exact h.elim
   | none=>
    rw[f]at h;simp only at h;obtain⟨i,j,-,-⟩:=ki h;obtain⟨e,n,b⟩:=(show i=F d/\X/\∀p,p∈l->T7 P TE ops p F from⟨j.out.1,Bk j.out.2⟩)
    refine⟨n,λo a=>?_⟩;rcases List.mem_cons.1 a with rfl|a
    ·exact⟨d,c,f,uQ h λi h=>h.out.1⟩
    exact b o a
variable{l:List (Nat × List Nat)}
def qq : qF l i=true↔∃p,p∈l/\p.1=i:=by
 unfold qF;rw[O4];exact⟨λ⟨p,a,b⟩=>⟨p,a,O2 b⟩,λ⟨p,a,b⟩=>⟨p,a,by rw[b];exact Nat.beq_refl i⟩⟩
def lA{k:Nat × List Nat} : qF (k::l) i=(Nat.beq k.1 i || qF l i):=rfl
def D9(f:U8 ops ds nm){K:(Nat->AV)->Prop} : ∀(l:List (Nat × List Nat))(listed:Array Bool)(F:Nat->AV),FF ops ds l=true->listed.size=ops.size->(∀j,j<ops.size->listed.getD j true = !qF l j)->mG ops ds F listed->DC ops listed->
  KY P TE N ops ds nm l K F->EB P TE N ops ds K l.length listed F
 | [],listed,F,_,hs,g,_,_,w=>by
  refine⟨?_,w⟩;apply List.eq_nil_iff_forall_not_mem.2;intro j hj;obtain⟨h1,o,ho,-⟩:=mem_ready.1 hj;have y:=(t4.1 ho).1;rw[g j y]at h1;cases h1
 | k::l,listed,F,Q,hs,g,n,L,w=>by
  simp only[FF,I0]at Q;obtain⟨⟨⟨⟨q1,q2⟩,q3⟩,q4⟩,q5⟩:=Q;have hk:k.1<ops.size:=by simpa[Nat.blt_eq] using q1
  have u:ops[k.1]? = some ops[k.1]:=O7 hk;have hrf:∀i,i<ops.size->listed.getD i true=true->listed.getD i false=true:=λi hi h=>by
   have h2:i<listed.size:=ω
   simp[h2]at h |-;exact h
  have hready:k.1∈Region.ready .any ops listed:=mem_ready.2 ⟨by rw[g k.1 hk,lA,Nat.beq_refl];rfl,_,u,λe he hb=>by
    have y:=f.back k.1 _ u e he hb;have hx:=q3;rw[bh u]at hx;have h3:=V4.1 hx e (by simpa using he);rw[hb]at h3;refine hrf e.on ω ?_;rw[g e.on ω,lA];simpa using h3⟩
  have A:∀j,j<ops.size->(listed.setIfInBounds k.1 true).getD j true = !qF l j:=λj hj=>by
   by_cases B:j=k.1
   ·subst B
    have:qF l k.1=false:=by simpa using q2
    rw[this];simp[hs,hj]
   rw[getD_set_ne true (Ne.symm B),g j hj,lA,show Nat.beq k.1 j=false by rw[<-I6,Nat.beq_eq];exact Ne.symm B];rfl
  show EB P TE N ops ds K (l.length+1) listed F;simp only[KY]at w;rw[bh u]at w q4;have S:listed.getD k.1 true=false:=(mem_ready.1 hready).1;cases a:pd ds ops[k.1] with
  | true=>
   rw[a]at w;simp only[cond_true]at w;obtain⟨mv,d,av,hy,w,hnm⟩:=Ma w (λd hd=>n.dst k.1 _ d a u S hd) (λT s g1 g2 g3=>n.mv k.1 _ T s a u S g1 g2 g3);have b:∀e∈ops[k.1].after,Region.binds .any e=true->listed.getD e.on false=true:=by
    obtain⟨-,R,U,b⟩:=mem_ready.1 hready;rw[u]at U;simp only[C1]at U;subst U;exact b
   refine Jr f u a l.length listed F mv av hready n L hy hnm (D9 f l _ _ q5 (by simpa using hs) A (n.put (λM R d' r C c hl'' V=>?_) (λM R T s r C c hl'' g1 g2 g3=>?_)) (L.put hready) w)
   ·cases hu:av.uses d' with
    | false=>rfl
    | true=>
     rcases hy.from_ d' hu with h|⟨t,_,h⟩
     ·have:=f.look M k.1 R _ d' r C c u V h
      obtain⟨e,W,X,Y⟩:=cG.1 this;exact(unl hl'' (Y ▸ b e W X)).elim
     rw[n.dst M R d' r c hl'' V t]at h;cases h
   cases hu:av.uses s with
   | false=>rfl
   | true=>
    rcases hy.from_ s hu with h|⟨t,_,h⟩
    ·exact absurd ((gq g3).2 M k.1 R _ c u (df g2) h) C
    rw[n.mv M R T s r c hl'' g1 g2 g3 t]at h;cases h
  | false=>
   rw[a]at w q4;simp only[cond_false]at w;simp only[Bool.false_or,I0]at q4;obtain⟨⟨r1,r2⟩,r3⟩:=q4;refine⟨λh=>(by rw[h]at hready;cases hready),λj hj=>?_⟩;obtain⟨D,oj,E,b⟩:=mem_ready.1 hj;have hjlt:=(t4.1 E).1;have B:j=k.1:=by
    rw[g j hjlt,lA]at D;cases hb:Nat.beq k.1 j with
    | true=>exact(O2 hb).symm
    | false=>
     rw[hb]at D;obtain⟨p,G,rfl⟩:=qq.1 (show qF l j=true by simpa using D);exact(unl S (p9 f L E b (V4.1 r1 p G))).elim
   subst B;rw[u]at E;simp only[C1]at E;subst E;unfold vS;rw[u];simp only[a,CB (show ¬false=true by decide)];have post:∀J,Qm P TE ops k.2 (KY P TE N ops ds nm l K J) J->mG ops ds J (listed.setIfInBounds k.1 true)->(∀p,listed.getD p false=true->pd ds (dh ops p)=true->wv ops k.1 p=false->T7 P TE ops p J)/\EB P TE N ops ds K l.length (listed.setIfInBounds k.1 true) J:=λJ Z hcl1=>by
    obtain⟨hrun,hrd⟩:=Bk Z;refine⟨λp G hp2 hp3=>hrd p ?_,D9 f l _ _ q5 (by simpa using hs) A hcl1 (L.put hready) hrun⟩;have hpl:p<ops.size:=by
     rcases Nat.lt_or_ge p ops.size with h|h
     ·exact h
     rw[show dh ops p=default by simp[dh,V7,Array.getElem?_eq_none h]]at hp2;cases hp2
    have h4:=gI r2 hpl;rw[hp2,hp3]at h4;have hml:qF l p=false:=by
     rw[<-I6];intro hm;have:listed.getD p true=false:=by rw[g p hpl,lA,hm];simp
     exact unl this G
    rw[hml]at h4;simp only[Bool.not_true,Bool.false_or]at h4;obtain⟨x,O,q⟩:=O4.1 h4;exact O2 q ▸ O
   cases hlater:l.any (λj=>pd ds (dh ops j.1)) with
   | false=>
    refine kE w λJ Z=>post J Z ⟨λM R d' r c hl'' V=>?_,λM R T s r c hl''=>?_⟩
    all_goals
     exfalso;have hj'lt:=(t4.1 c).1;rw[A M hj'lt]at hl'';obtain⟨p,G,rfl⟩:=qq.1 (show qF l M=true by simpa using hl'');have:l.any (λj=>pd ds (dh ops j.1))=true:=O4.2 ⟨p,G,by rw[bh c];exact r⟩;rw[this]at hlater;cases hlater
   | true=>
    rw[hlater]at r3;simp only[Bool.not_true,Bool.false_or,I0]at r3;obtain⟨x,O,q⟩:=O4.1 hlater;have H:listed.getD x.1 true=false/\x.1<ops.size:=by
     have y:x.1<ops.size:=by
      rcases Nat.lt_or_ge x.1 ops.size with h|h
      ·exact h
      rw[show dh ops x.1=default by simp[dh,V7,Array.getElem?_eq_none h]]at q;cases q
     refine⟨?_,y⟩;rw[g x.1 y,lA,qq.2 ⟨x,O,rfl⟩];simp
    have hx0:ops[x.1]? = some ops[x.1]:=O7 H.2;rw[bh hx0]at q;obtain⟨d,hd,hdd⟩:=Km q;have hxk:x.1≠k.1:=λe=>by
     have:qF l k.1=true:=qq.2 ⟨x,O,e⟩;rw[this]at q2;cases q2
    refine kE (RI (d:=d) (yR r3.1) r3.2 (λe=>?_) (λhlk=>?_) (n.dst x.1 _ d q hx0 H.1 hd) w) λJ h1=>post J h1.1 (n.us f u b h1.2)
    ·unfold pd at a
     rw[e]at a;simp only at a;rw[hdd]at a;cases a
    have:=f.look x.1 k.1 _ _ d q hxk hx0 u hd hlk;obtain⟨e,W,X,Y⟩:=cG.1 this;exact unl H.1 (Y ▸ b e W X)
def Dt{sch:List (Nat × List Nat)}(h:DM ops ds sch=true):U8 ops ds (UF sch)/\FF ops ds sch=true/\sch.length=ops.size/\∀j,j<ops.size->qF sch j=true:=by
 unfold DM at h;simp only[I0]at h;obtain⟨⟨t,o⟩,p⟩:=h;have q:=λj (k:j<ops.size)=>gI t k
 have r:∀(i j:Nat)(g f:Oper),i≠j->ops[i]? = some g->ops[j]? = some f->AM ops ds (UF sch) i j=true:=λi j g f a b c=>by
  have:=q j (t4.1 c).1;simp only[I0]at this;have:=gI this.2 (t4.1 b).1;rw[show Nat.beq i j=false by rw[<-I6,Nat.beq_eq];exact a]at this;exact this
 refine⟨⟨λj f k e u w=>?_,λi j g f l n a b c=>?_,λi j g f d l a b c y D=>?_,λi j g f d l n a b c y u=>?_,λi j g f l n a b c=>?_,λj f T s l k A B=>?_⟩,p,O2 o,λj k=>?_⟩
 ·have:=q j (t4.1 k).1
  rw[bh k]at this;simp only[I0]at this;have:=V4.1 this.1.1.1 e (by simpa using u);rw[w]at this;simpa[Nat.blt_eq] using this
 ·have:=r i j g f a b c
  unfold AM at this;rw[bh b,bh c,l,n]at this;simp only[cond_true,I0,I7]at this;rcases this.1.1 with(h|h)|h
  ·exact .inl h
  ·exact .inr (.inl h)
  exact .inr (.inr h)
 ·have:=r i j g f a b c
  unfold AM at this;rw[bh b,bh c,l]at this;have C:uP ops i j=true:=by
   unfold uP;rw[bh b,y];simp only;rw[bh c];exact O4.2 ⟨d,D,Nat.beq_refl d⟩
  rw[C]at this;cases n:pd ds f with
  | true=>
   rw[n]at this;simp only[cond_true,I0,Bool.not_true,Bool.false_or]at this;exact this.1.2
  | false=>
   rw[n]at this;simp only[cond_true,cond_false,I0,Bool.not_true,Bool.false_or]at this;exact this.2
 ·have:=r i j g f a b c
  unfold AM at this;rw[bh b,bh c,l,n,y,u]at this;simp[Nat.beq_refl]at this
 ·have:=r i j g f a b c
  unfold AM at this;rw[bh b,bh c,l,n]at this;simp only[cond_true,cond_false,I0,I7]at this;rcases this.1 with(h|h)|h
  ·exact .inl h
  ·exact .inr (.inl h)
  exact .inr (.inr h)
 ·have:=q j (t4.1 k).1
  rw[bh k]at this;simp only[I0]at this;have:=this.1.2;rw[l,A]at this;simp only[B,Bool.not_true,Bool.false_or]at this;exact this
 have:=q j k;simp only[I0]at this;exact this.1.1.2
def qr{l:List Nat} : Dh l j=true↔j∈l:=by
 unfold Dh;rw[O4];exact⟨λ⟨x,a,b⟩=>O2 b ▸ a,λh=>⟨j,h,Nat.beq_refl j⟩⟩
def Gi{p:Nat->Prop} : ∀{l:List Nat}{i:Nat},UT p i l->∀j,j∈i::l->p j
 | [],i,h,j,a=>by rw[V1.1 a];exact h
 | k::l,i,h,j,a=>by
  rcases List.mem_cons.1 a with rfl|a
  ·exact h.1
  exact Gi h.2 j a
def FB{l:List Nat}{K:Prop}{p:Nat->Prop}(h:UP l K p):(l=[]->K)/\∀j∈l,p j:=by
 cases l with
 | nil=>exact⟨λ_=>h,λj a=>by cases a⟩
 | cons i l=>exact⟨λe=>(by cases e),Gi h⟩
def rp{done:List Nat}(t:listed.size=ops.size)(b:∀j,j<ops.size->listed.getD j true=Dh done j)(q:∀k∈done,k<ops.size) : j∈Region.ready .any ops listed↔j∈Qg ops done:=by
 have d:∀i,listed.getD i false=Dh done i:=λi=>by
  by_cases n:i<ops.size
  ·rw[<-b i n]
   have f:i<listed.size:=ω
   simp[f]
  have f:listed.getD i false=false:=by simp[Array.getElem?_eq_none (show listed.size<=i by omega)]
  rw[f]
  symm
  rw[<-I6,qr];exact λr=>n (q i r)
 rw[mem_ready];unfold Qg;rw[t5,List.mem_range,I0];constructor
 ·rintro⟨l,o,p,g⟩
  have a:=(t4.1 p).1;refine⟨a,by rw[<-b j a,l];rfl,V4.2 λe h=>?_⟩;rw[bh p]at h;cases c:Region.binds .any e with
  | false=>rfl
  | true=>
   have:=g e (by simpa using h) c;rw[d]at this;simpa using this
 rintro⟨a,l,f⟩
 refine⟨by rw[b j a];simpa using l,ops[j],O7 a,λe h c=>?_⟩;have:=V4.1 f e (by rw[bh (O7 a)];simpa using h);rw[c]at this;rw[d];simpa using this
def Tr{K:(Nat->AV)->Prop} : ∀(n:Nat)(done:List Nat)(listed:Array Bool)(F:Nat->AV),listed.size=ops.size->(∀j,j<ops.size->listed.getD j true=Dh done j)->(∀k∈done,k<ops.size)->Tz P TE N ops K n done F->EB P TE N ops [] K n listed F
 | 0,done,listed,F,c,a,d,h=>by
  obtain⟨o,q⟩:=FB h;have l:Qg ops done=[]:=List.eq_nil_iff_forall_not_mem.2 λj b=>q j b
  exact⟨List.eq_nil_iff_forall_not_mem.2 λj b=>(by rw[rp c a d,l]at b;cases b),o l⟩
 | n+1,done,listed,F,c,a,d,h=>by
  obtain⟨o,q⟩:=FB h;refine⟨λl=>o (List.eq_nil_iff_forall_not_mem.2 λj b=>(by rw[<-rp c a d,l]at b;cases b)),λi y=>?_⟩;have f:=(rp c a d).1 y;have t:=q i f;have g:i<ops.size:=List.mem_range.1 (t5.1 f).1;have u:ops[i]? = some ops[i]:=O7 g;unfold vS;rw[u];simp only;rw[bh u]at t;have A:pd [] ops[i]=false:=by unfold pd;split<;>rfl
  rw[CB (by rw[A];decide)];refine kE t λB C=>⟨λp _ w=>?_,Tr n (i::done) _ B (by simpa using c) (λj b=>?_) (λk r=>?_) C⟩
  ·have:pd [] (dh ops p)=false:=by unfold pd;split<;>rfl
   rw[this]at w;cases w
  ·by_cases e:j=i
   ·subst e
    rw[show Dh (j::done) j=true from qr.2 (C2 ..)];simp[c,b]
   rw[getD_set_ne true (Ne.symm e),a j b];rw[I5,qr,qr,List.mem_cons];exact⟨.inr,λh=>h.resolve_left e⟩
  rcases List.mem_cons.1 r with rfl|r
  ·exact g
  exact d k r
def xP(g:∀t i,TE t=some i->bQ P t i)(C:P.follows .mixedOrders=true){id:Nat}{tb:List (Nat × Nat × List Nat)}(b:nX tb id ops=true)(c:DD P TE N tb id ops K F)(D:St w0 M S0 N F a w)(E:∀F' U V,K F'->St w0 M S0 N F' U V->Q .normal U V):(Code.region id ops true).wp P Q a w:=by
 unfold nX at b;unfold DD at c;cases q:yG tb id with
 | none=>rw[q]at b;cases b
 | some p=>
  obtain⟨m,L⟩:=p;rw[q]at b c;simp only at b c;cases r:Nat.ble 65536 m with
  | true=>
   rw[r]at c;refine wp_region_any C ?_;have l:St w0 M S0 N F a {w with drawn:=w.drawn+1}:=by
    obtain⟨S,φ,h⟩:=D;exact⟨S,φ,h.more (w1:={w with drawn:=w.drawn+1}) (λ_ _ h=>h) (λ_ _ h=>.inl h) ⟨rfl,rfl,rfl,W3 _,λ_ _ _=>rfl,λ_ _ _ _=>rfl,λ_ _ _ _=>rfl⟩⟩
   refine rr g (ds:=[]) E ops.size (Array.replicate ops.size false) _ a _ ?_ l;exact Tr ops.size [] _ F (by simp) (λj n=>by simp[n,Dh]) (λk Z=>by cases Z) c
  | false=>
  rw[r]at b c;simp only[cond_false]at b c;cases u:Nat.ble 256 m with
  | false=>
   rw[u]at b c;exact BH g C b c D E
  | true=>
   rw[u]at b c;simp only[cond_true,Kv]at b c;generalize L.take (m - 256)=ds at b c;generalize dec (L.drop (m - 256))=sch at b c;obtain⟨W,y,e,A⟩:=Dt b;refine wp_region_any C ?_;have l:St w0 M S0 N (Ab.clr ds F) a {w with drawn:=w.drawn+1}:=by
    have h1:=D.clr ds;obtain⟨S,φ,h⟩:=h1;exact⟨S,φ,h.more (w1:={w with drawn:=w.drawn+1}) (λ_ _ h=>h) (λ_ _ h=>.inl h) ⟨rfl,rfl,rfl,W3 _,λ_ _ _=>rfl,λ_ _ _ _=>rfl,λ_ _ _ _=>rfl⟩⟩
   refine rr g (ds:=ds) E ops.size (Array.replicate ops.size false) _ a _ ?_ l;have B:∀d,ds.any (Nat.beq d)=true->∀t,(Ab.clr ds F t).uses d=false:=λd G t=>by
    rw[Di];cases X:ds.any (λd=>(F t).uses d) with
    | true=>rfl
    | false=>
     simp only[cond_false];cases hu:(F t).uses d with
     | false=>rfl
     | true=>
      obtain⟨d',f,he⟩:=O4.1 G;have H:=O2 he;subst H;have:ds.any (λd=>(F t).uses d)=true:=O4.2 ⟨_,f,hu⟩;rw[this]at X;cases X
   rw[<-e];refine D9 W sch _ _ y (by simp[e]) (λj n=>by rw[A j n];simp[e,n]) ⟨λj o d J Y _ G t=>?_,λj o T s J Y _ _ g2 g3 t=>B s (W.mvs j o T s J Y g2 g3) t⟩ (λj oj n hl=>by
     have O:=(t4.1 n).1;simp[e,O]at hl) c
   obtain⟨d',f,R⟩:=Km J;rw[G]at f;simp only[C1]at f;subst f;exact B d R t
end
def kK:List (Option Nat)->Kd
 | [ag]=>mh ag
 | a=>.tup a
def p8:ResultVar->Nat
 | .tmp t=>t
 | .cell t _=>t
def FW(tmps:Array Value):ResultVar->Sem Value
 | .tmp t=>pure (tmps.getD t undef)
 | .cell a t=>do loadVar t (<-asAddr (tmps.getD a undef))
def resOne(TE:Nat->Option TI)(F:Nat->AV)(r:ResultVar)(K:Option Nat->List C->Prop):Prop:=
 match r with
 | .tmp t=>(match F t with
   | .H .one cs=>K none cs
   | .H .agg cs=>K (some cs.length) cs
   | _=>False)
 | .cell t T=>match TE T with
  | some i=>bif i.agg || Nat.beq i.size 1 then(match F t with
    | .H .box cs=>bif Nat.beq cs.length i.size then K (qC i) cs else False
    | _=>False) else False
  | none=>False
def resA(TE:Nat->Option TI)(F:Nat->AV):List ResultVar->List Nat->(List (Option Nat)->List C->Prop)->Prop
 | [],_,K=>K [] []
 | r::rs,seen,K=>bif seen.any (Nat.beq (p8 r)) then False else resOne TE F r λb c=>resA TE F rs (p8 r::seen) λd a=>K (b::d) (c++a)
def UQ:RA->AV
 | .val a cs=>.H (mh a) cs
 | .ptr cs=>.iref cs 0
 | .fn Ok=>.fv Ok
def wd:Nat->List RA->List (Nat × AV)
 | _,[]=>[]
 | i,A::As=>(i,UQ A)::wd (i+1) As
inductive M8:C->C->Prop
 |rfl_ (c:C):M8 c c
 |z_:M8 .z (.s .own [])
 |own_ (rows rows':List (List C)) (hl:rows.length=rows'.length) (hk:∀(i:Nat)(r r':List C),rows[i]? = some r->rows'[i]? = some r'->r.length=r'.length)
   (hr:∀(i j:Nat)(r r':List C)(c c':C),rows[i]? = some r->rows'[i]? = some r'->r[j]? = some c->r'[j]? = some c'->M8 c c'):M8 (.s .own rows) (.s .own rows')
def N0(cs a:List C):Prop:=cs.length=a.length/\∀(j:Nat)(c b:C),cs[j]? = some c->a[j]? = some b->M8 c b
def N0.nil:N0 [] []:=⟨rfl,λj c a h=>by simp at h⟩
variable{cs a:List C}
def N0.cons{c e:C}(h:M8 c e)(f:N0 cs a):N0 (c::cs) (e::a):=by
 refine⟨by simp[f.1],λj y g b d=>?_⟩;cases j with
 | zero=>simp at b d;subst b d;exact h
 | succ j=>exact f.2 j y g (by simpa using b) (by simpa using d)
def M8.rep{n:Nat}{r k:List C}(h:N0 r k):M8 (.s .own (List.replicate n r)) (.s .own (List.replicate n k)):=by
 refine .own_ _ _ (by simp) (λi a b d e=>?_) (λi j a b c p d e l o=>?_)
 ·have f:=List.mem_replicate.1 (I2 d)
  have g:=List.mem_replicate.1 (I2 e);rw[f.2,g.2];exact h.1
 have f:=List.mem_replicate.1 (I2 d);have g:=List.mem_replicate.1 (I2 e);rw[f.2]at l;rw[g.2]at o;exact h.2 j c p l o
def RK{w:World}{S Y:af}{c:C}{v:Value}(h:eY w S Y c v):∀y,M8 c y->eY w S Y y v:=by
 induction h with
 | z F a=>
  intro y l;cases l with
  | rfl_=>exact .z _ _
  | z_=>exact .nil _ _ _ trivial
 | nil F o a T=>
  intro y l;cases l with
  | rfl_=>exact .nil _ _ _ T
  | own_ d e L=>obtain rfl:e=[]:=O8 (by simpa using L.symm);exact .nil _ _ _ trivial
 | own F o g k n B d u f T Q R q E K hu hf l M ih=>
  intro y U;cases U with
  | rfl_=>exact .own _ o g k n B d u f T Q R q E K hu hf l M
  | own_ d e L N V=>
   have G:∀(i:Nat)(D:List C),e[i]? = some D->∃r,d[i]? = some r:=λi D H=>⟨_,W2 (by have:=(X2.1 H).1;omega)⟩
   refine .own _ .own g k n B e u f trivial (L.symm.trans Q) (λD W=>?_) q E K hu hf l (λi j D y H hj=>?_)
   ·obtain⟨i,H⟩:=List.mem_iff_getElem?.1 W
    obtain⟨r,t⟩:=G i D H;rw[<-N i r D t H];exact R r (I2 t)
   obtain⟨r,t⟩:=G i D H;have hlen:=N i r D t H;have hjl:=(X2.1 hj).1;have O:r[j]? = some (r[j]'(ω)):=W2 ω;exact ih i j r _ t O _ (V i j r D _ y t H O hj)
 | v F x X=>intro y l;cases l;exact .v _ _ X
 | x F u X=>intro y l;cases l;exact .x _ _ X
 | U F g Z k n B d u Q R q hS M ih=>intro y l;cases l;exact .U _ g Z k n B d u Q R q hS M
 | m F b p es A K hb he hv J=>intro y l;cases l;exact .m _ b p es A K hb he hv J
 | it F r b since c0 p seen A cur left K V hb J M hv L P=>intro y l;cases l;exact .it _ r b since c0 p seen A cur left K V hb J M hv L P
def WK(cs a:List C):Prop:=Pc cs a\/N0 cs a
inductive kC(k k':Kd)(cs cs':List C):Prop
 |mk_ (h:k=k'/\WK cs cs')
def ng:∀(cs:List C),Pc cs cs
 | []=>trivial
 | c::cs=>by
  refine⟨?_,ng cs⟩;cases c with
  | s o a=>cases o<;>rfl
  | x=>trivial
  | _=>rfl
variable{k b:Kd}
def kC.mk(h1:k=b)(c:cs=a):kC k b cs a:=by refine .mk_ ?_;exact⟨h1,.inl (c ▸ ng cs)⟩
def kC.wk(h1:k=b)(c:Pc cs a):kC k b cs a:=.mk_ ⟨h1,.inl c⟩
def kC.dk(h1:k=b)(c:N0 cs a):kC k b cs a:=.mk_ ⟨h1,.inr c⟩
def kC.out(h:kC k b cs a):k=b/\WK cs a:=by obtain⟨h⟩:=h;exact h
def WK.len(h:WK cs a):cs.length=a.length:=h.elim (λh=>(sX h).1) (λh=>h.1)
def WK.row{w:World}{S Y:af}{c:List C}{u:Nat->Value}(a:WK cs c)(h:dn w S Y cs u):dn w S Y c u:=by
 rcases a with a|a
 ·exact Eg a h
 obtain⟨f,k,l,n⟩:=h;refine⟨f,λj i b=>?_,λj b=>l j (by rw[a.1];exact b),λj o b g=>n j o (by rw[a.1];exact b) (by rw[a.1];exact g)⟩;have d:=(X2.1 b).1;have e:cs[j]? = some (cs[j]'(by rw[a.1];exact d)):=W2 (by rw[a.1];exact d);exact RK (k j _ e) i (a.2 j _ i e b)
def QW(TE:Nat->Option TI)(c:List ResultVar)(k:Kd)(rcs:List C):Exit->(Nat->AV)->Prop:=λe F=>
 match e with
 | .normal=>resA TE F c [] λa b=>kC (kK a) k b rcs
 | .ret=>resA TE F c [] λa b=>kC (kK a) k b rcs
 | _=>False
def R1(F:Nat->AV)(t:Nat)(rcs:List C):Prop:=
 match F t with
 | .H .box cs=>kC .box .box cs rcs
 | .ref a 0 []=>(match F a with
   | .H .box cs=>kC .box .box cs rcs
   | _=>False)
 | _=>False
def UB(t:Nat)(rcs:List C):Exit->(Nat->AV)->Prop:=λe F=>
 match e with
 | .normal=>R1 F t rcs
 | .ret=>R1 F t rcs
 | _=>False
section
variable{P:Program}{w0 w w1:World}{M S0 S:af}{N:fD}{φ:Nat->af}{F:Nat->AV}{a:Act}{TE:Nat->Option TI}
def bo.resOne(h:bo w0 M S0 N S φ F a w)(u:∀t i,TE t=some i->bQ P t i){r:ResultVar}{K:Option Nat->List C->Prop}(b:resOne TE F r K) :
  ∃ag cs v,K ag cs/\cb w S (φ (p8 r)) ag cs v/\(FW a.tmps r).run P w=.ok v w:=by
 cases r with
 | tmp t=>
  have e:=h.slot t;simp only[Ab.resOne]at b;cases f:F t with
  | H k cs=>
   rw[f]at b e;obtain⟨G,Y,H,l,J,E,n⟩:=e;cases k with
   | one=>exact⟨none,cs,tvs a t,b,⟨E,_,rfl,n.mono (λ_ _ h=>h) l⟩,rfl⟩
   | agg=>
    obtain⟨arr,p,y⟩:=E;refine⟨some cs.length,cs,tvs a t,b,⟨rfl,cr w .agg (tvs a t),?_,n.mono (λ_ _ h=>h) l⟩,rfl⟩;rw[p];have:=qu arr;rw[y]at this;exact this
   | _=>exact b.elim
  | _=>rw[f]at b;exact b.elim
 | cell t T=>
  have e:=h.slot t;simp only[Ab.resOne]at b;split at b
  case h_2=>exact b.elim
  rename_i i L;have O:=u _ _ L;cases q:(i.agg || Nat.beq i.size 1) with
  | false=>rw[q]at b;exact b.elim
  | true=>
   rw[q]at b;simp only[cond_true]at b;cases f:F t with
   | H k cs=>
    rw[f]at b e;cases k with
    | box=>
     simp only at b;cases A:Nat.beq cs.length i.size with
     | false=>rw[A]at b;exact b.elim
     | true=>
      rw[A]at b;have B:=O2 A;obtain⟨G,Y,H,l,J,⟨g,o,p,Q⟩,n⟩:=e;have c:∀d,d<i.size->cel w g (o+d)=some (cr w .box (tvs a t) d):=λd U=>by
       obtain⟨-,⟨z,R⟩,-⟩:=Q d ω;rw[p];simp only[cr,R,Option.getD_some]
      have j:=yI (w:=w) O q c;refine⟨_,cs,_,b,⟨by rw[pu q];exact B,_,rfl,n.mono (λ_ _ h=>h) l⟩,?_⟩;have D:a.tmps.getD t undef=.pointer (some ⟨g,o,none⟩):=p;simp only[FW,D,asAddr];exact j
    | _=>exact b.elim
   | _=>rw[f]at b;exact b.elim
def Hq{ag:Option Nat}{cs:List C}{v:Value}{Y:af}(h:cb w S Y ag cs v):∃u,v.cells.toList=(List.range cs.length).map u/\dn w S Y cs u/\v=mkv ag u:=by
 obtain⟨a,u,rfl,b⟩:=h;refine⟨u,?_,b,rfl⟩;rw[qi (λe=>by subst e;exact b.one (by simp at a;omega)),a]
def H0{p q:af}{cs l:List C}{u D:Nat->Value}(h:dn w S p cs u)(h':dn w S q l D)(E:∀b o,p b o->¬q b o) :
  dn w S (λb o=>p b o\/q b o) (cs++l) (λj=>if j<cs.length then u j else D (j - cs.length)):=by
 obtain⟨f,F,r,G⟩:=h;obtain⟨H,t,k,y⟩:=h';refine⟨λj=>if j<cs.length then f j else H (j - cs.length),λj c i=>?_,λj i b o g=>?_,λj n i A B b o g a=>?_⟩
 ·by_cases e:j<cs.length
  ·simp only[CD e];rw[v5 e]at i;exact F j c i
  simp only[CB e];rw[z5 ω]at i;exact t _ c i
 ·rw[Y3]at i
  by_cases e:j<cs.length
  ·rw[CD e]at g;exact .inl (r j e b o g)
  rw[CB e]at g;exact .inr (k _ ω b o g)
 rw[Y3]at i A;by_cases e:j<cs.length
 ·rw[CD e]at g
  by_cases d:n<cs.length
  ·rw[CD d]at a;exact G j n e d B b o g a
  rw[CB d]at a;exact E b o (r j e b o g) (k _ ω b o a)
 rw[CB e]at g;by_cases d:n<cs.length
 ·rw[CD d]at a;exact E b o (r n d b o a) (k _ ω b o g)
 rw[CB d]at a;exact y _ _ ω ω ω b o g a
def bo.resA(h:bo w0 M S0 N S φ F a w)(l:∀t i,TE t=some i->bQ P t i):∀{E:List ResultVar}{seen:List Nat}{K:List (Option Nat)->List C->Prop},resA TE F E seen K->
  ∃sh cs vs u,K sh cs/\(E.mapM (FW a.tmps)).run P w=.ok vs w/\xW sh vs/\sh.length=E.length/\qP sh=cs.length/\
   (vs.flatMap λv=>v.cells.toList)=(List.range cs.length).map u/\(∀ag,sh=[ag]->∃v,vs=[v]/\cb w S (λb o=>∃t,t∉seen/\φ t b o) ag cs v)/\dn w S (λb o=>∃t,t∉seen/\φ t b o) cs u
 | [],seen,K,f=>⟨[],[],[],λ_=>undef,f,rfl,trivial,rfl,rfl,rfl,λ_ h=>by simp at h,dn.nil _ _ _ _⟩
 | r::E,seen,K,f=>by
  simp only[Ab.resA]at f;cases c:seen.any (Nat.beq (p8 r)) with
  | true=>rw[c]at f;exact f.elim
  | false=>
   rw[c]at f;simp only[cond_false]at f;have p:p8 r∉seen:=λH=>by
    have:seen.any (Nat.beq (p8 r))=true:=O4.2 ⟨_,H,Nat.beq_refl _⟩;rw[this]at c;cases c
   obtain⟨ag,cs,v,f,G,q⟩:=h.resOne l f;obtain⟨sh,d,vs,X,Y,k,J,L,U,hcells,-,y⟩:=bo.resA h l f;obtain⟨u,O,V,A⟩:=Hq G;have Z:∀b o,φ (p8 r) b o->¬∃t,t∉p8 r::seen/\φ t b o:=λb o g ⟨t,Q,R⟩=>h.dis _ _ (λe=>Q (by rw[<-e];simp)) b o g R
   refine⟨ag::sh,cs++d,v::vs,λj=>if j<cs.length then u j else X (j - cs.length),Y,?_,?_,by simp[L],?_,?_,?_,?_⟩
   ·rw[List.mapM_cons]
    simp only[Sem.run_bind,q,Result.andThen_ok,k,Sem.run_pure]
   ·obtain⟨hl,-⟩:=G
    cases ag with
    | none=>
     refine⟨?_,J⟩;rw[A];have W:(u 0).oneCell'=true:=V.one (by simp at hl;omega);show(u 0).cells = #[u 0];cases hu:u 0<;>first|(rw[hu]at W;cases W;done)|rfl
    | some n=>exact⟨⟨_,by rw[A];rfl,by simp⟩,J⟩
   ·rw[rh,Y3,U,G.1]
   ·simp only[W7,O,hcells,Y3]
    apply List.ext_getElem?;intro j;by_cases T:j<cs.length
    ·rw[v5 (by simpa using T)];simp[T,Nat.lt_add_right]
    rw[z5 (by simp;omega)];by_cases B:j - cs.length<d.length
    ·simp[T,B,show j<cs.length+d.length by omega]
    simp[B,show ¬j<cs.length+d.length by omega]
   ·intro ag' D
    simp only[List.cons.injEq]at D;obtain⟨rfl,rfl⟩:=D;cases vs with
    | cons _ _=>exact J.elim
    | nil=>
     have:d=[]:=O8 (by simpa[qP] using U.symm);subst this;exact⟨v,rfl,by rw[List.append_nil];exact G.mono (λ_ _ h=>h) (λb o g=>⟨_,p,g⟩)⟩
   exact(H0 V y Z).mono (λ_ _ h=>h) (λb o g=>g.elim (λg=>⟨_,p,g⟩) (λ⟨t,Q,g⟩=>⟨t,λH=>Q (C6 _ H),g⟩))
def uz:∀{A:List RA}{vs:List Value}(i:Nat),zi w S A vs->∀t,(lay (wd i A) t=.dead)\/(∃a v,i<=t/\vs[t - i]? = some v/\lay (wd i A) t=UQ a/\pn w S a v)
 | [],_,i,_,t=>.inl rfl
 | a::A,[],i,h,t=>h.elim
 | a::A,v::vs,i,h,t=>by
  simp only[wd,lay];cases b:Nat.beq t i with
  | true=>
   have:=O2 b;subst this;exact .inr ⟨a,v,W3 _,by simp,rfl,h.1⟩
  | false=>
   have d:t≠i:=λe=>by subst e;rw[Nat.beq_refl]at b;cases b
   rcases uz (i+1) h.2 t with c|⟨f,g,c,j,k⟩
   ·exact .inl c
   refine .inr ⟨f,g,ω,?_,k⟩;rw[show t - i=(t - (i+1))+1 by omega];simpa using j
def pn.slot{A:RA}{v:Value}(h:pn w S A v){tv:Nat->Value} : cS w S F tv NO (UQ A) v:=by
 cases A with
 | val f a=>exact cb.slot h
 | ptr a=>obtain⟨g,b,u,c,d,e⟩:=h;exact⟨g,b,u,by rw[c,Nat.add_zero],d,e⟩
 | fn Ok=>exact h
def DG:∀{A:List RA}{vs:List Value},zi w S A vs->A.length=vs.length
 | [],[],_=>rfl
 | _::_,_::_,h=>by simp[DG h.2]
 | [],_::_,h=>h.elim
 | _::_,[],h=>h.elim
variable{ck:Nat->Array Oper->Bool}{rcs: List C}{D: Nat -> Array Oper -> ((Nat -> AV) -> Prop) -> (Nat -> AV) -> Prop}
def Me{f : Nat}{d : Func}{c : Code}{sh : Bool}{A : List RA}{k : Kd}(M : ∀t i, TE t = some i -> bQ P t i)(hf : P.funcs[f]? = some d)(hn : (d.name == "runtime.NumGoroutine") = false)(g:d.body=some c)(hD:xG P N ck D)(hc:gv ck c=true)(hN:A.length+(d.ntmps - A.length)=N.n)(hkp:N.kp=[])(hsh:sh=true\/iD rcs)(W:aw P TE N D c (QW TE d.results.toList k rcs) (lay (wd 0 A))):ar P f sh A k rcs:=by
 refine⟨⟨d,hf,hn,by rw[g];rfl⟩,λw S y hS hA=>?_⟩;have hlen:=DG hA;refine calls_of_wp hf g ?_;have hst:St w NO S N (lay (wd 0 A)) {tmps:=y.toArray++Array.replicate (d.ntmps - y.toArray.size) undef,defers:=[]} w:=by
  refine⟨S,λ_=>NO,λt=>?_,λ_ _ _ _ _ h=>h.elim,λ_ _ _ h=>h.elim,λ_ _ _ h=>h.elim,λ_ _ h=>h,λb o h=>⟨hS b o h,.inl h⟩,Cb _ _,by simp;omega,rfl,λp W=>by rw[hkp]at W;cases W⟩;rcases uz 0 hA t with r|⟨A0,v,-,B,G,h4⟩
  ·rw[r];trivial
  rw[G];have hv:tvs {tmps:=y.toArray++Array.replicate (d.ntmps - y.toArray.size) undef,defers:=[]} t=v:=by
   have hlt:=(X2.1 B).1;simp only[tvs,V7];rw[Array.getElem?_append_left (by simpa using hlt)];simp only[List.getElem?_toArray];rw[show y[t]? = some v by simpa using B];rfl
  rw[hv];exact h4.slot
 refine jz M hD c hc _ _ _ _ w W hst λe F' K l he hs'=>?_
 obtain⟨S',φ',h⟩:=hs';have fin:resA TE F' d.results.toList [] (λsh O=>kC (kK sh) k O rcs)->K.defers=[]/\∃v,(results d K.tmps).run P l=.ok v l/\(∃v',Ending.returned v=.returned v'/\bZ NO w l/\∃X S1:af,(∀b o,X b o->b<l.heap.size/\w.heap.size<=b)/\
     (∀b o,S1 b o->(sh=true/\S b o)\/(b<l.heap.size/\w.heap.size<=b))/\(∀b o,X b o->¬S1 b o)/\gu l NO k rcs.length v'/\dn l S1 X rcs (cr l k v')):=by
  intro hr;obtain⟨shs,O,a,u,Q,R,E,hln,T,hcells,q,U⟩:=h.resA M hr;obtain⟨rfl,V⟩:=Q.out;refine⟨h.defers,?_⟩;have J:(results d K.tmps).run P l=.ok (if h:a.toArray.size=1 then a.toArray[0] else .tuple a.toArray) l:=by
   have e:results d K.tmps=(do let y <-d.results.mapM (FW K.tmps);pure (if h:y.size=1 then y[0] else .tuple y)):=by
    unfold results
    congr 1
   rw[e,<-Array.toArray_toList (xs:=d.results),List.mapM_toArray];simp only[Sem.run_bind,Sem.run_map,R,Result.andThen_ok,Sem.run_pure]
  refine⟨_,J,_,rfl,h.old,λb o=>∃t,φ' t b o,λb o=>(sh=true/\S' b o)\/(S' b o/\w.heap.size<=b),λb o ⟨t,g⟩=>⟨(h.ex t b o g).1,(h.ex t b o g).2.resolve_right (λh=>h)⟩,λb o g=>?_,λb o ⟨t,g⟩ hb'=>h.disS t b o g (hb'.elim (·.2) (·.1)),?_⟩
  ·rcases g with⟨r,B⟩|⟨r,B⟩
   ·rcases(h.sup b o B).2 with G|G|G
    ·exact .inl ⟨r,G⟩
    ·exact .inr ⟨(h.sup b o B).1,G⟩
    exact G.elim
   exact .inr ⟨(h.sup b o r).1,B⟩
  have L:gu l NO (kK shs) O.length (if h:a.toArray.size=1 then a.toArray[0] else .tuple a.toArray)/\dn l S' (λb o=>∃t,φ' t b o) O (cr l (kK shs) (if h:a.toArray.size=1 then a.toArray[0] else .tuple a.toArray)):=by
   have H:∀b o,(∃t,t∉([]:List Nat)/\φ' t b o)->∃t,φ' t b o:=λb o ⟨t,_,g⟩=>⟨t,g⟩
   match shs,E,q,T with
   | [],E,_,T=>
    cases a with
    | cons _ _=>exact E.elim
    | nil=>
     have:O=[]:=O8 (by simpa[qP] using T.symm);subst this;exact⟨⟨_,rfl,trivial,rfl⟩,dn.nil _ _ _ _⟩
   | [Z],_,q,_=>
    obtain⟨v,rfl,hv⟩:=q Z rfl;have:=(hv.mono (λ_ _ h=>h) H).slot (F:=F') (tv:=tvs K);obtain⟨X1,Y,r,B,G,h4,h5⟩:=this;refine⟨?_,h5.mono (λ_ _ h=>h) B⟩;cases Z<;>exact h4
   | Z::ag2::sh,E,_,T=>
    have hsz:¬a.toArray.size=1:=by
     match a,E with
     | [],E=>simp
     | [v],E=>cases Z<;>cases ag2<;>exact E.2.elim
     | _::_::_,_=>simp
    rw[dif_neg hsz];refine⟨⟨_,rfl,E,T⟩,(U.mono (λ_ _ h=>h) H).congr λj hj=>?_⟩;simp only[cr,kK,ny,hcells];simp[List.getD,hj]
  replace L:=CN L.1 (V.row L.2);refine⟨by rw[<-V.len];exact L.1,?_⟩;rcases hsh with r|r
  ·exact L.2.mono (λb o g=>.inl ⟨r,g⟩) (λ_ _ h=>h)
  exact(L.2.fresh r).mono (λ_ _ h=>h.elim) (λ_ _ h=>h)
 cases e with
 | normal=>exact fin he
 | ret=>exact fin he
 | _=>exact he.elim
def KQ{f t : Nat}{j : Func}{c : Code}{A : List RA}(R : ∀t i, TE t = some i -> bQ P t i)(hf : P.funcs[f]? = some j)(hn : (j.name == "runtime.NumGoroutine") = false)(a:j.body=some c)(hD:xG P N ck D)(hc:gv ck c=true)(hN:A.length+(j.ntmps - A.length)=N.n)(T:N.kp=[])(hr:j.results = #[.tmp t])(K:aw P TE N D c (UB t rcs) (lay (wd 0 A))):rP P f true A .box rcs:=by
 refine⟨⟨j,hf,hn,by rw[a];rfl⟩,λw S E hS hA=>?_⟩;have hlen:=DG hA;refine calls_of_wp hf a ?_;have U:St w NO S N (lay (wd 0 A)) {tmps:=E.toArray++Array.replicate (j.ntmps - E.toArray.size) undef,defers:=[]} w:=by
  refine⟨S,λ_=>NO,λt=>?_,λ_ _ _ _ _ h=>h.elim,λ_ _ _ h=>h.elim,λ_ _ _ h=>h.elim,λ_ _ h=>h,λb o h=>⟨hS b o h,.inl h⟩,Cb _ _,by simp;omega,rfl,λp K=>by rw[T]at K;cases K⟩;rcases uz 0 hA t with L|⟨A0,v,-,F,M,V⟩
  ·rw[L];trivial
  rw[M];have O:tvs {tmps:=E.toArray++Array.replicate (j.ntmps - E.toArray.size) undef,defers:=[]} t=v:=by
   have W:=(X2.1 F).1;simp only[tvs,V7];rw[Array.getElem?_append_left (by simpa using W)];simp only[List.getElem?_toArray];rw[show E[t]? = some v by simpa using F];rfl
  rw[O];exact V.slot
 refine jz R hD c hc _ _ _ _ w K U λe F' y q Z hs'=>?_
 obtain⟨S',φ',h⟩:=hs';have fin:R1 F' t rcs->y.defers=[]/\∃v,(results j y.tmps).run P q=.ok v q/\(∃v',Ending.returned v=.returned v'/\bZ NO w q/\∃X S1:af,(∀b o,X b o->b<q.heap.size/\w.heap.size<=b)/\
     (∀b o,S1 b o->(true=true/\S b o)\/(b<q.heap.size/\w.heap.size<=b))/\(∀b o,X b o->¬S1 b o)/\∃B Y:af,(∀b o,B b o->X b o)/\(∀b o,Y b o->X b o)/\(∀b o,B b o->¬Y b o)/\gu q B .box rcs.length v'/\dn q S1 Y rcs (cr q .box v')):=by
  intro k;have core:∃(d:Nat)(r:List C),tvs y t=tvs y d/\F' d=.H .box r/\kC .box .box r rcs:=by
   unfold R1 at k;split at k
   ·rename_i r u
    exact⟨t,r,rfl,u,k⟩
   ·rename_i d hF2
    split at k
    case h_2=>exact k.elim
    rename_i r u;refine⟨d,r,?_,u,k⟩;have G:=h.slot t;rw[hF2]at G;obtain⟨k0,cs0,r0,j0,g0,o0,e1,-,Q,e4⟩:=G;have H:=h.slot d;rw[u]at H;rw[u]at e1;simp only[AV.H.injEq]at e1;obtain⟨rfl,rfl⟩:=e1;obtain⟨B,Y,L,F,M,⟨g,o,O,-⟩,h5⟩:=H;rw[O]at Q;simp only[plc,oX,Z5,C1,Prod.mk.injEq]at Q;rw[e4,O,<-Q.1,<-Q.2]
    rfl
   exact k.elim
  obtain⟨d,r,htt,u,k⟩:=core;have J:=k.out.2;have H:=h.slot d;rw[u]at H;obtain⟨B,Y,L,F,M,V,h5⟩:=H;refine⟨h.defers,tvs y d,?_,tvs y d,rfl,h.old,φ' d,λb o=>S' b o/\(S b o\/w.heap.size<=b),λb o a=>⟨(h.ex d b o a).1,(h.ex d b o a).2.resolve_right (λh=>h)⟩,λb o a=>?_,λb o a hb'=>h.disS d b o a hb'.1,B,Y,L,F,M,?_,?_⟩
  ·rw[<-htt];simp[results,hr,tvs]
  ·rcases a.2 with l|l
   ·exact .inl ⟨rfl,l⟩
   exact .inr ⟨(h.sup b o a.1).1,l⟩
  ·rw[<-J.len];exact V
  exact(J.row h5).mono (λb o a=>⟨a,by
    rcases(h.sup b o a).2 with l|l|l
    · exact .inl l
    · exact .inr l
    exact l.elim⟩) (λ_ _ h=>h)
 cases e with
 | normal=>exact fin Z
 | ret=>exact fin Z
 | _=>exact Z.elim
end
def DF(P:Program)(TE:Nat->Option TI)(N:fD)(tb:List (Nat × Nat × List Nat))(id:Nat)(ops:Array Oper)(K:(Nat->AV)->Prop)(F:Nat->AV):Prop:=
 match yG tb (id+1048576) with
 | some (t,offs)=>so t offs (DD P TE N tb id ops K) F
 | none=>DD P TE N tb id ops K F
def rX{P:Program}{TE:Nat->Option TI}(a:∀t i,TE t=some i->bQ P t i)(e:P.follows .mixedOrders=true)(N:fD)(tb:List (Nat × Nat × List Nat)):xG P N (nX tb) (DF P TE N tb):=
 λ_ _ b _ _ _ _ _ _ _ _ c f g=>by
  unfold DF at c;split at c
  ·obtain⟨j,h,d⟩:=y3 c f
   exact xP a e b h d g
  exact xP a e b c f g
end Go.Proofs.YtecefhjnejfheaaGreat.Ab
