/- A slot-only operation looks at its operands alone (the rest), and: a region that draws its order may be run in the text's. No condition. -/
import Derived.Test.YtifeilefdakapaaGreatDoorKPb
import Derived.Orders
import Derived.Test.YtifeilefdakapaaGreatDoorKPa
import Derived.KernelRfl
import Derived.Test.YtifeilefdakapaaGreatDoorProg
set_option linter.unusedVariables false
set_option linter.defProp false
set_option linter.unusedSimpArgs false
set_option linter.constructorNameAsVariable false
namespace Go.Proofs.YtifeilefdakapaaGreatDoor.Ab
open Go.RowKit
section
variable{F:Nat->AV}{K:AV->Prop}{TE:Nat->Option TI}{P:Program}
theorem Hh{g:BinOp}{x y:Value}{K e:Value->Prop}(h:Au g x y K)(n:∀v,K v->e v):Au g x y e:=by
 cases x<;>cases y<;>try exact h.elim
 rename_i k a o b;have c:∀{X Y:Prop},(bif gw k o then X else False)->(X->Y)->(bif gw k o then Y else False):=ψ
 have d:∀{k:IntKind}{x:Int},Wr k x (λz=>K (.int k z))->Wr k x (λz=>e (.int k z)):=λh=>by
  obtain⟨z,i,j⟩:=h.out;exact CK i (n _ j)
 have q:∀{k:IntKind}{x:Int},Ev x (λz=>K (.int k z))->Ev x (λz=>e (.int k z)):=λh=>by
  obtain⟨z,i,j⟩:=h.out;exact CS i (n _ j)
 have f:∀{p X Y:Prop},Cd p X->(X->Y)->Cd p Y:=λh l=>CM h.out.1 (l h.out.2)
 cases g<;>simp only[Au]at h |-
 case add=>exact c h d
 case sub=>exact c h d
 case mul=>exact c h d
 case quo=>exact c h λh=>f h d
 case rem=>exact c h λh=>f h q
 case and=>exact c h d
 case or=>exact c h d
 case xor=>exact c h d
 case andNot=>exact c h d
 case shl=>exact f h d
 case shr=>exact f h q
 all_goals grind
theorem Ld{f:BinOp}{x y:Value}{K:Value->Prop}(h:Au f x y K):∃v,K v/\Au f x y (· = v):=by
 cases x<;>cases y<;>try exact h.elim
 rename_i k a g b;have e:∀{X:Prop},(bif gw k g then X else False)->X/\∀Y:Prop,Y->(bif gw k g then Y else False):=ψ
 cases f<;>simp only[Au]at h |-
 case add=>obtain⟨h,b⟩:=e h;obtain⟨z,c,d⟩:=h.out;exact⟨_,d,b _ (CK c rfl)⟩
 case sub=>obtain⟨h,b⟩:=e h;obtain⟨z,c,d⟩:=h.out;exact⟨_,d,b _ (CK c rfl)⟩
 case mul=>obtain⟨h,b⟩:=e h;obtain⟨z,c,d⟩:=h.out;exact⟨_,d,b _ (CK c rfl)⟩
 case quo=>obtain⟨h,b⟩:=e h;obtain⟨z,c,d⟩:=h.out.2.out;exact⟨_,d,b _ (CM h.out.1 (CK c rfl))⟩
 case rem=>obtain⟨h,b⟩:=e h;obtain⟨z,c,d⟩:=h.out.2.out;exact⟨_,d,b _ (CM h.out.1 (CS c rfl))⟩
 case and=>obtain⟨h,b⟩:=e h;obtain⟨z,c,d⟩:=h.out;exact⟨_,d,b _ (CK c rfl)⟩
 case or=>obtain⟨h,b⟩:=e h;obtain⟨z,c,d⟩:=h.out;exact⟨_,d,b _ (CK c rfl)⟩
 case xor=>obtain⟨h,b⟩:=e h;obtain⟨z,c,d⟩:=h.out;exact⟨_,d,b _ (CK c rfl)⟩
 case andNot=>obtain⟨h,b⟩:=e h;obtain⟨z,c,d⟩:=h.out;exact⟨_,d,b _ (CK c rfl)⟩
 case shl=>obtain⟨z,c,d⟩:=h.out.2.out;exact⟨_,d,CM h.out.1 (CK c rfl)⟩
 case shr=>obtain⟨z,c,d⟩:=h.out.2.out;exact⟨_,d,CM h.out.1 (CS c rfl)⟩
 all_goals grind
theorem KO{b:BinOp}{T:Nat}{x y:Value}{K:Value->Prop}(h:D7 TE b T x y K):∃v,K v/\∀a:Value->Prop,a v->D7 TE b T x y a:=by
 unfold D7 at h;split at h
 ·grind [D7]
 ·cases b<;>simp only at h<;>try exact h.elim
  case add=>obtain⟨d,e⟩:=h.out;obtain⟨z,f,g⟩:=e.out;exact⟨_,g,λa c=>CM d (Es.mk f c)⟩
  all_goals exact⟨_,h,λa c=>c⟩
 grind [Ld,Hh,D7]
def LO{a:UnOp}{x:Value}{K b:Value->Prop}(h:N3 a x K)(c:∀v,K v->b v):N3 a x b:=by
 unfold N3 at h |-;split at h
 ·exact c _ h
 ·obtain⟨z,d,e⟩:=Wr.out h;exact CK d (c _ e)
 exact h.elim
def MX{a:UnOp}{x:Value}{K:Value->Prop}(h:N3 a x K):∃v,K v/\N3 a x (· = v):=by
 unfold N3 at h;split at h
 ·exact⟨_,h,rfl⟩
 ·obtain⟨z,b,c⟩:=Wr.out h;exact⟨_,c,CK b rfl⟩
 exact h.elim
theorem Kw{c x y:Operand}(h:Gh F c x y K):ng (λF K=>Gh F c x y K) F (tm c++tm x++tm y) K:=by
 obtain⟨z,f,p⟩:=gC h;cases z with
 | bool b=>
  cases b with
  | true=>
   obtain⟨g,i,j,k⟩:=jh (Bf.out f);refine⟨g,i,λd l=>(j d l).imp ψ ψ,λa e n o=>p a (e.mono (by simp +contextual)) _ (Bf.in_ (k a (e.mono (by simp +contextual)) n o))⟩
  | false=>
   obtain⟨g,i,j,k⟩:=jh (Bf.out f);refine⟨g,i,λd l=>(j d l).imp ψ ψ,λa e n o=>p a (e.mono (by simp +contextual)) _ (Bf.in_ (k a (e.mono (by simp +contextual)) n o))⟩
 | _=>exact f.elim
theorem M2{x:Operand}(h:M9 F x K):ng (λF K=>M9 F x K) F (tm x) K:=by
 obtain⟨i,c,a,d⟩:=cj h;cases b:aW c with
 | false=>grind
 | true=>rw[b]at a;exact⟨_,a,CP _ _ _ _,λe f j g=>d e f _ (by rw[b];exact g)⟩
theorem Ei{x:Operand}{i:Nat}(h:jw F x i K):ng (λF K=>jw F x i K) F (tm x) K:=by
 cases x with
 | tmp t=>
  have b:t∈tm (.tmp t):=by simp[tm]
  simp only[jw]at h;cases c:F t with
  | F k l=>
   rw[c]at h;cases k with
   | tup n=>
    simp only at h;cases e:AB n i with
    | none=>grind
    | some p=>
     rw[e]at h;simp only at h;cases a:aW (bt l p.1 (p.2.getD 1)) with
     | true=>rw[a]at h;exact⟨_,h,CP _ _ _ _,λo f q g=>by simp only[jw,(f t b).1,c,e,a,cond_true];exact g⟩
     | false=>rw[a]at h;exact⟨_,h,λd j=>.inl (by simp[AV.uses]at j;subst j;exact b),λo f q g=>by simp only[jw,(f t b).1,c,e,a,cond_false];exact g⟩
   | _=>exact h.elim
  | _=>grind
 | _=>exact h.elim
theorem Mc{T:Nat}{x:Operand}(h:FA TE F T x K):ng (λF K=>FA TE F T x K) F (tm x) K:=by
 unfold FA at h;unfold ng FA;split at h
 ·obtain⟨f,g,a,b⟩:=cj h
  match f,g,a with
  | none,[.s o rows],a=>exact⟨_,Ln.out a,CP _ _ _ _,λc d i e=>b c d _ (Ln.mk rfl e)⟩
  | none,[.z],a=>exact⟨_,a,CP _ _ _ _,ψ⟩
 ·obtain⟨z,a,b⟩:=gC h
  cases z with
  | string s=>exact⟨_,Ln.out a,CP _ _ _ _,λc d i e=>b c d _ (Ln.mk rfl e)⟩
  | _=>exact a.elim
 exact h.elim
theorem M6{T:Nat}{x:Operand}(h:Fh TE F T x K):ng (λF K=>Fh TE F T x K) F (tm x) K:=by
 unfold Fh at h;unfold ng Fh;split at h
 all_goals grind [cj,Nn.out,CP]
theorem N5{d:BinOp}{T:Nat}{x y:Operand}(h:F4 P F d T x y K):ng (λF K=>F4 P F d T x y K) F (tm x++tm y) K:=by
 unfold F4 at h;unfold ng F4;obtain⟨g,q,i,j⟩:=cj h;obtain⟨ag2,ds,a,b⟩:=cj i
 match g,ag2,a with
 | some n,some m,c=>
  obtain⟨t,k,u⟩:=oo c;obtain⟨w,l,A⟩:=oo k;obtain⟨r,B,o⟩:=l.out;exact⟨_,o,CP _ _ _ _,λe f C p=>j e (f.mono ψ) _ (b e (f.mono ψ) _ (by grind [KH,PR.mk]))⟩
theorem yy{x:Operand}{F':Nat->AV}(a:gk F F' (tm x)):isAgg F' x=isAgg F x:=by
 cases x with
 | tmp t=>unfold isAgg;simp only;rw[(a t (by simp[tm])).1]
 | _=>rfl
def tms(xs:List Operand):List Nat:=xs.flatMap tm
theorem Lg{x:Operand}{k:Bool->RA->Prop}(h:argV F x k):∃b A,k b A/\∀F':Nat->AV,gk F F' (tm x)->∀c:Bool->RA->Prop,c b A->argV F' x c:=by
 have key:∀F':Nat->AV,gk F F' (tm x)->lY F' x=lY F x:=λF' l=>l.ev
 have n:∀i,lY F x=i->gM F i (xA k)->(∀F' c,lY F' x=i->(argV F' x c=gM F' i (xA c)))->∃b A,k b A/\∀F':Nat->AV,gk F F' (tm x)->∀c:Bool->RA->Prop,c b A->argV F' x c:=λi a y B=>by grind [cj,xA]
 have d:=h;unfold argV at d;cases a:lY F x with
 | F p o=>
  rw[a]at d;cases p with
  | box=>grind [argV]
  | one=>exact n _ a d λF' c e=>by unfold argV;rw[e];rfl
  | agg=>exact n _ a d λF' c e=>by unfold argV;rw[e];rfl
  | tup C=>exact d.elim
 | c3 t j q D=>grind [argV]
 | ref t j q=>
  rw[a]at d;simp only at d;split at d
  ·rename_i o u
   refine⟨false,_,d,λF' l c w=>?_⟩;unfold argV;rw[key F' l,a];have:F' t=.F .box o:=by
    cases x with
    | tmp s=>exact(l s (by simp[tm])).2 t (by show AV.uses t (F s)=true;rw[show F s=_ from a];simp[AV.uses]) _ _ u
    | const v=>simp only[lY]at a;have:=kF v t;rw[a]at this;simp[AV.uses]at this
    | global g=>cases a
    | func f=>cases a
   grind
  exact d.elim
 | iref r j=>
  grind [argV]
 | fv Ok=>grind [argV]
 | fn f caps=>grind
 | dead=>grind
theorem nK:∀{cs:List Nat}{k:List RA->Prop},lI F cs k->∃D,k D/\∀F':Nat->AV,(∀t,t∈cs->∀a xs,F t=.F a xs->F' t=.F a xs)->∀b:List RA->Prop,b D->lI F' cs b
 | [],k,h=>⟨[],h,λ_ _ _ h=>h⟩
 | c::cs,k,h=>by
  simp only[lI]at h;split at h
  ·rename_i xs d
   obtain⟨D,e,f⟩:=nK h
   grind [lI]
  ·rename_i xs d
   obtain⟨D,e,f⟩:=nK h
   grind [lI]
  ·rename_i xs d
   obtain⟨D,e,f⟩:=nK h
   grind [lI]
  exact h.elim
theorem G4{F':Nat->AV}{t:Nat}{ts:List Nat}{f:FuncId}{caps:List Nat}(b:gk F F' ts)(d:t∈ts)(e:F t=.fn f caps):∀c,c∈caps->∀a xs,F c=.F a xs->F' c=.F a xs:=λc g a xs h=>
 (b t d).2 c (by grind [Nat.beq_refl,AV.uses]) a xs h
theorem K8{x:Operand}{k:Bool->RA->Prop}(h:argA P F x k):∃b A,k b A/\∀F':Nat->AV,gk F F' (tm x)->∀d:Bool->RA->Prop,d b A->argA P F' x d:=by
 have e:=h;unfold argA at e;split at e
 ·rename_i f caps a
  obtain⟨D,l,n⟩:=nK e;obtain⟨Q,o,p,q⟩:=l;refine⟨false,_,q,λF' j d i=>?_⟩;unfold argA;rw[j.ev,a];refine n F' ?_ _ ⟨Q,o,p,i⟩;cases x with
  | tmp s=>exact G4 j (t:=s) (by simp[tm]) a
  | const v=>
   intro c r;simp only[lY]at a;have:=kF v c
   grind [Nat.beq_refl,AV.uses]
  | global g=>cases a
  | func f=>cases a;grind
 grind [Lg,gk.ev,argA]
theorem wt:∀{xs:List Operand}{k:Bool->List RA->Prop},yF P F xs k->∃b A,k b A/\∀F':Nat->AV,gk F F' (tms xs)->∀c:Bool->List RA->Prop,c b A->yF P F' xs c
 | [],k,h=>⟨true,[],h,λ_ _ _ h=>h⟩
 | x::xs,k,h=>by
  obtain⟨l,A,d,g⟩:=K8 h;obtain⟨b,As,d,e⟩:=wt d;have i:∀{F':Nat->AV},gk F F' (tms (x::xs))->gk F F' (tm x):=λa=>a.mono (by grind [tms])
  have j:∀{F':Nat->AV},gk F F' (tms (x::xs))->gk F F' (tms xs):=λa=>a.mono (λt n=>by grind [tms])
  exact⟨_,_,d,λF' a c f=>g F' (i a) _ (e F' (j a) _ f)⟩
theorem zi:∀{xs:List Operand}{k:List (Option Nat × List C)->Prop},argsV F xs k->∃L,k L/\∀F':Nat->AV,gk F F' (tms xs)->∀b:List (Option Nat × List C)->Prop,b L->argsV F' xs b
 | [],k,h=>⟨[],h,λ_ _ _ h=>h⟩
 | x::xs,k,h=>by
  obtain⟨j,l,c,f⟩:=cj h;obtain⟨L,c,d⟩:=zi c;have g:∀{F':Nat->AV},gk F F' (tms (x::xs))->gk F F' (tm x):=λa=>a.mono (by grind [tms])
  have i:∀{F':Nat->AV},gk F F' (tms (x::xs))->gk F F' (tms xs):=λa=>a.mono (λt n=>by grind [tms])
  exact⟨_,c,λF' a b e=>f F' (g a) _ (d F' (i a) _ e)⟩
theorem Kr{f:Nat}{xs:List Operand}(h:Gv P F f xs K):ng (λF K=>Gv P F f xs K) F (tms xs) K:=by
 obtain⟨b,A,a,c⟩:=wt h;obtain⟨i,k,rcs,j,l,d⟩:=a.out;exact⟨_,d,CP _ _ _ _,λe g n o=>c e g _ (.mk_ ψ)⟩
theorem Hs{t:Nat}{xs:List Operand}(h:ly P F t xs K):ng (λF K=>ly P F t xs K) F (t::tms xs) K:=by
 have d:=h;unfold ly at d;split at d
 ·rename_i f caps g
  obtain⟨b,A,e,i⟩:=wt d;obtain⟨D,e,j⟩:=nK e;obtain⟨r,k,rcs,o,p,l⟩:=e.out;refine⟨_,l,CP _ _ _ _,λa c n q=>?_⟩;show ly P a t xs n;unfold ly;rw[(c t ψ).1,g];exact i a (c.mono ψ) _ (j a (G4 c ψ g) _ (.mk_ ψ))
 ·rename_i Ok g
  obtain⟨L,e,i⟩:=zi d;obtain⟨Q,k,rcs,o,p,l⟩:=e;refine⟨_,l,CP _ _ _ _,λa c n q=>?_⟩;show ly P a t xs n;unfold ly;rw[(c t ψ).1,g];exact i a (c.mono ψ) _ ⟨Q,k,rcs,o,p,q⟩
 exact d.elim
theorem fC{T:Nat}{k:Nat->TI->Prop}(h:Ep TE T k):∃e a,k e a/\∀b:Nat->TI->Prop,b e a->Ep TE T b:=by
 unfold Ep at h
 grind [Ep]
def iY{x:Operand}{k:Int->Prop}(h:uQ F x k):∃n,k n/\∀F':Nat->AV,gk F F' (tm x)->∀a:Int->Prop,a n->uQ F' x a:=by
 obtain⟨z,b,c⟩:=gC h;cases z with
 | int f n=>exact⟨n,b,λF' d a e=>c F' d _ e⟩
 | _=>exact b.elim
def otm(x:Option Operand):List Nat:=x.toList.flatMap tm
theorem G8{x:Option Operand}{k:Option Int->Prop}(h:Kk F x k):∃n,k n/\∀F':Nat->AV,gk F F' (otm x)->∀a:Option Int->Prop,a n->Kk F' x a:=by
 cases x with
 | none=>exact⟨none,h,λ_ _ _ b=>b⟩
 | some x=>
  obtain⟨n,c,d⟩:=iY h;exact⟨some n,c,λF' e a b=>d F' (e.mono (by grind [otm])) _ b⟩
theorem sG{c:Nat->Option (Nat × Nat)} : ∀{parts:List (Nat × Operand)}{cs:List C}{k:List C->Prop},fillP F c parts cs k->∃a,k a/\∀F':Nat->AV,gk F F' (tms (parts.map (·.2)))->∀d:List C->Prop,d a->fillP F' c parts cs d
 | [],cs,k,h=>⟨cs,h,λ_ _ _ h=>h⟩
 | p::rest,cs,k,h=>by
  simp only[fillP]at h;split at h
  case h_2=>exact h.elim
  rename_i q i;obtain⟨j,xs,b,l⟩:=cj h;cases e:(aW xs&&Nat.beq xs.length q.2&&Nat.ble (q.1+q.2) cs.length) with
  | false=>grind
  | true=>
   rw[e]at b;simp only[cond_true,cZ]at b;obtain⟨a,f,g⟩:=sG b
   grind [gk.mono,cZ,fillP,tms]
theorem GT{T:Nat}{parts:List (Nat × Operand)}(h:sv TE F T parts K):ng (λF K=>sv TE F T parts K) F (tms (parts.map (·.2))) K:=by grind [sG,CP,sv,ng]
theorem EE{T n:Nat}{parts:List (Nat × Operand)}(h:uK TE F T n parts K):ng (λF K=>uK TE F T n parts K) F (tms (parts.map (·.2))) K:=by
 obtain⟨e,g,a,c⟩:=fC h;cases d:Nat.ble (n*g.size) 16777216 with
 | false=>grind
 | true=>
  rw[d]at a;simp only[cond_true]at a;split at a
  ·exact⟨_,a,CP _ _ _ _,λi j k f=>c _ (by rw[d];exact f)⟩
  ·rw[cZ]at a
   obtain⟨l,b,o⟩:=sG a;rw[ow]at b;exact⟨_,b,CP _ _ _ _,λi j k f=>c _ (by grind [cZ,ow])⟩
  exact a.elim
theorem Ls{T:Nat}{x y:Operand}(h:G9 TE F T x y K):ng (λF K=>G9 TE F T x y K) F (tm x++tm y) K:=by
 obtain⟨e,r,a,g⟩:=fC h;obtain⟨j,k,a,i⟩:=cj a
 match j,k,a with
 | none,[.z],a=>
  obtain⟨ag2,cs2,a,b⟩:=cj a
  match ag2,cs2,a with
  | none,[.s o rows],a=>
   obtain⟨l,n,p,a⟩:=a.out;exact⟨_,a,CP _ _ _ _,λc d q f=>g _ (i c (d.mono (by simp +contextual)) _ (b c (d.mono (by simp +contextual)) _ (Fl.mk l n p f)))⟩
  | none,[.z],a=>
   exact⟨_,a,CP _ _ _ _,λc d q f=>g _ (i c (d.mono (by simp +contextual)) _ (b c (d.mono (by simp +contextual)) _ f))⟩
def K4{T:Nat}{x y:Operand}(h:Gx TE F T x y K):ng (λF K=>Gx TE F T x y K) F (tm x++tm y) K:=by
 obtain⟨e,r,a,g⟩:=fC h;obtain⟨l,a,i⟩:=iY a;obtain⟨c,a,b⟩:=iY a;obtain⟨n,j,k,o,p,a⟩:=a.out;exact⟨_,a,CP _ _ _ _,λd f t q=>g _ (i d (f.mono (by simp +contextual)) _ (b d (f.mono (by simp +contextual)) _ (Mk.mk n j k o p rfl q)))⟩
def JX{T:Nat}{x y:Operand}{ok:Bool}(h:we TE F T x y ok K):ng (λF K=>we TE F T x y ok K) F (tm x++tm y) K:=by
 unfold we at h;split at h
 case h_2=>exact h.elim
 rename_i i;cases ok with
 | true=>exact h.elim
 | false=>
  simp only[cond_false]at h;obtain⟨j,k,b,c⟩:=cj h
  match j,k,b,c with
  | none,[.m es],b,c=>
   obtain⟨v,d,a⟩:=gC b
   match v,d,a with
   | .int .i64 z,d,a=>
    refine⟨_,d.out,CP _ _ _ _,λf g l e=>?_⟩;simp only[we,i,cond_false];exact c f (g.mono (by simp +contextual)) _ (a f (g.mono (by simp +contextual)) _ (Ml.mk rfl e))
def Et{T:Nat}{x:Operand}{lo j:Option Operand}(h:KN TE F T x lo j K):ng (λF K=>KN TE F T x lo j K) F (tm x++otm lo++otm j) K:=by
 obtain⟨e,q,b,t⟩:=fC h;obtain⟨l,b,u⟩:=G8 b;obtain⟨r,b,g⟩:=G8 b;obtain⟨w,A,b,i⟩:=cj b;have back:∀(c:List (List C))(k:List (List C)->Prop),Sl c q.size l r k->∃a,k a/\∀n:List (List C)->Prop,n a->Sl c q.size l r n:=λc k h=>by
  obtain⟨x,y,B,D,E,G,H,J⟩:=h.out;exact⟨_,J,λn b=>by refine .mk_ ?_;exact⟨x,y,B,D,E,G,H,_,rfl,b⟩⟩
 match w,A,b with
 | none,[.s .U c],b=>
  obtain⟨a,b,o⟩:=back _ _ b;exact⟨_,b,CP _ _ _ _,λd f L p=>t _ (u d (f.mono (by simp +contextual)) _ (g d (f.mono (by simp +contextual)) _ (i d (f.mono (by simp +contextual)) _ (o _ p))))⟩
 | none,[.z],b=>
  obtain⟨a,b,o⟩:=back _ _ b;exact⟨_,b,CP _ _ _ _,λd f L p=>t _ (u d (f.mono (by simp +contextual)) _ (g d (f.mono (by simp +contextual)) _ (i d (f.mono (by simp +contextual)) _ (o _ p))))⟩
def Je{T:Nat}{x:Operand}{lo a:Option Operand}(h:nz TE F T x lo a K):ng (λF K=>nz TE F T x lo a K) F (tm x++otm lo++otm a) K:=by
 unfold nz at h;cases b:FT TE T with
 | false=>
  rw[b]at h;obtain⟨p,e,f,g⟩:=Et (show KN TE F T x lo a K from h);exact⟨p,e,f,λc d l i=>by unfold nz;rw[b];exact g c d l i⟩
 | true=>
  rw[b]at h
  match lo,a,h with
  | none,some y,h=>
   obtain⟨v,o,q⟩:=gC (show Po F x y K from h);cases v with
   | string s=>
    obtain⟨n,j,k⟩:=iY o;obtain⟨m,z,e,f,g,j⟩:=j.out;exact⟨_,j,CP _ _ _ _,λc d l i=>by
      unfold nz;rw[b];exact q c (d.mono (by simp +contextual)) _ (k c (d.mono (by simp +contextual [otm])) _ (Sx.mk m e f g i))⟩
   | _=>exact o.elim
theorem EN{T:Nat}{x b c:Operand}(h:Nh TE F T x b c K):ng (λF K=>Nh TE F T x b c K) F (tm x) K:=by
 obtain⟨e,q,a,j⟩:=fC h;cases d:NK b&&NK c with
 | false=>grind
 | true=>
  rw[d]at a;obtain⟨l,n,a,k⟩:=cj a
  match l,n,a with
  | none,[.s o rows],a=>exact⟨_,a,CP _ _ _ _,λf g p i=>j _ (by rw[d];exact k f g _ i)⟩
  | none,[.z],a=>exact⟨_,a,CP _ _ _ _,λf g p i=>j _ (by rw[d];exact k f g _ i)⟩
theorem HG{T f:Nat}{x:Operand}(h:pI TE F T x f K):ng (λF K=>pI TE F T x f K) F (tm x) K:=by
 unfold pI at h;split at h
 case h_2=>exact h.elim
 rename_i flds g;split at h
 case h_2=>exact h.elim
 rename_i p j;split at h
 case h_2=>exact h.elim
 rename_i i k;obtain⟨c,b,a,l⟩:=cj h;cases d:(c.isSome&&(i.agg || Nat.beq i.size 1)&&Nat.ble (p.1+i.size) b.length) with
 | false=>grind
 | true=>
  rw[d]at a;simp only[cond_true]at a;cases e:aW (bt b p.1 i.size) with
  | false=>grind
  | true=>
   rw[e]at a;simp only[cond_true,cZ]at a;exact⟨_,a,CP _ _ _ _,λn o q r=>by grind [cZ,pI]⟩
def JY{b c:Nat}{x:Operand}(h:v5 TE F b c x K):ng (λF K=>v5 TE F b c x K) F (tm x) K:=by
 unfold v5 at h;split at h
 ·rename_i d e
  obtain⟨n,a,f⟩:=iY h;obtain⟨z,g,a⟩:=a.out;exact⟨_,a,CP _ _ _ _,λi j l k=>by unfold v5;simp only[d,e];exact f i j _ (CK g k)⟩
 exact h.elim
def K6{c:Bool}{x y:Operand}(h:PX c F x y K):ng (λF K=>PX c F x y K) F (tm x++tm y) K:=by
 obtain⟨z,d,g⟩:=gC h;cases z with
 | int k n=>
  obtain⟨m,a,b⟩:=iY d;obtain⟨z,i,a⟩:=a.out;exact⟨_,a,CP _ _ _ _,λe f l j=>g e (f.mono (by simp +contextual)) _ (b e (f.mono (by simp +contextual)) _ (CS i j))⟩
 | _=>exact d.elim
theorem d5.mono{ts a:List Nat}{av:AV}(h:d5 F ts av)(b:∀t,t∈ts->t∈a):d5 F a av:=λd c=>(h d c).imp (b d) ψ
def ng.mono{p:(Nat->AV)->(AV->Prop)->Prop}{ts a:List Nat}(h:ng p F ts K)(b:∀t,t∈ts->t∈a):ng p F a K:=by
 obtain⟨c,d,e,f⟩:=h;exact⟨c,d,e.mono b,λg i j k=>f g (i.mono b) j k⟩
def di(o:Op):List Nat:=o.operands.toList.flatMap tm
theorem jr{o:Op}(h:cS P TE F o K):ng (λF K=>cS P TE F o K) F (di o) K:=by
 cases o with
 | move x=>exact(jh h).mono (by grind [di,Go.Op.operands])
 | assign x=>exact(jh h).mono (by grind [di,Go.Op.operands])
 | nilCheck x=>
  cases x with
  | tmp t=>
   have G:t∈tm (.tmp t):=by simp[tm]
   have key:∀a:Nat->AV,a t=F t->∀b,cS P TE a (.nilCheck (.tmp t)) b=(match F t with|.ref ..=>bp a (.tmp t) b|.iref ..=>bp a (.tmp t) b|.F .box _=>bp a (.tmp t) b|_=>False):=λa e b=>by grind [cS]
   rw[key F rfl]at h;have fin:bp F (.tmp t) K->(∀b (a:Nat->AV),a t=F t->bp a (.tmp t) b->cS P TE a (.nilCheck (.tmp t)) b)->ng (λF K=>cS P TE F (.nilCheck (.tmp t)) K) F (di (.nilCheck (.tmp t))) K:=λR H=>by
    obtain⟨k,p,q,w⟩:=jh R;exact⟨k,p,q.mono (by grind [di,Go.Op.operands]),λa j b g=>H _ a (j t (by grind [di,Go.Op.operands])).1 (w a (j.mono (by grind [di,Go.Op.operands])) b g)⟩
   grind
  | _=>exact h.elim
 | load T x=>exact(KY h).mono (by grind [di,Go.Op.operands])
 | fieldAddr T x f=>exact(xV h).mono (by grind [di,Go.Op.operands])
 | indexAddr T x y=>exact(xC h).mono (by grind [di,Go.Op.operands])
 | binOp A T x y yT=>
  simp only[cS]at h;cases J:wX A y with
  | true=>
   rw[J]at h;obtain⟨k,p,q,w⟩:=M6 h;exact⟨k,p,q.mono (by grind [di,Go.Op.operands]),λa j b g=>by grind [gk.mono,cS,di,Go.Op.operands]⟩
  | false=>
   rw[J]at h;have L:∀t,t∈tm x->t∈di (.binOp A T x y yT):=λt G=>by grind [di,Go.Op.operands]
   cases M:isAgg F x with
   | true=>
    rw[M]at h;obtain⟨k,p,q,w⟩:=N5 h;exact⟨k,p,q.mono (by grind [di,Go.Op.operands]),λa j b g=>by grind [yy,gk.mono,cS,di,Go.Op.operands]⟩
   | false=>
   rw[M]at h;obtain⟨z,B,C⟩:=gC h;obtain⟨z2,D,S⟩:=gC B;obtain⟨v,E,N⟩:=KO D;refine⟨_,E,CP _ _ _ _,λa j b g=>by grind [yy,gk.mono,cS,di,Go.Op.operands]⟩
 | unOp A T x=>
  obtain⟨z,B,C⟩:=gC h;obtain⟨v,E,N⟩:=MX B;exact⟨_,E,CP _ _ _ _,λa j b g=>C a (j.mono (by grind [di,Go.Op.operands])) _ (LO N ψ)⟩
 | pick c x y=>exact(Kw h).mono (by simp[di,Op.operands])
 | alloc T=>
  simp only[cS]at h;unfold uW at h;split at h
  ·rename_i i U
   exact⟨_,h,CP _ _ _ _,λa _ b g=>by grind [cS,uW]⟩
  exact h.elim
 | box T x=>exact(M2 h).mono (by grind [di,Go.Op.operands])
 | extract x i=>exact(Ei h).mono (by grind [di,Go.Op.operands])
 | build T V=>exact(GT h).mono (by grind [di,Go.Op.operands,tms])
 | buildSlice T n V=>exact(EE h).mono (by grind [di,Go.Op.operands,tms])
 | makeSlice T x y=>exact(K4 h).mono (by grind [di,Go.Op.operands])
 | makeMap T r=>
  simp only[cS,qE]at h |-;split at h
  case h_2=>exact h.elim
  exact⟨_,h,CP _ _ _ _,ψ⟩
 | lookup T x y ok=>exact(JX h).mono (by grind [di,Go.Op.operands])
 | slice T x W X Y=>
  cases Y with
  | none=>exact(Je h).mono (by grind [di,Go.Op.operands,otm])
  | some m=>
   cases W with
   | some _=>exact h.elim
   | none=>
    cases X with
    | none=>exact h.elim
    | some y=>exact(EN h).mono (by simp +contextual [di,Op.operands])
 | field T x f=>exact(HG h).mono (by grind [di,Go.Op.operands])
 | convert T1 T2 x=>exact(JY h).mono (by grind [di,Go.Op.operands])
 | makeFunc fn fs cs=>
  simp only[cS]at h;split at h
  ·rename_i f Z
   obtain⟨l,g,C⟩:=qf h;refine⟨_,g,λd O=>.inl ?_,λa _ b hK'=>?_⟩
   ·simp only[AV.uses,R3]at O
    obtain⟨c,H,he⟩:=O;have:=V1 he;subst this;simp only[di,Op.operands,List.mem_flatMap];refine⟨.tmp c,?_,by simp[tm]⟩
    grind
   grind [Ek,cS]
  exact h.elim
 | call c=>
  obtain⟨callee,args,ts⟩:=c;simp only[cS]at h;split at h
  ·rename_i f
   exact(Kr h).mono (by grind [di,Go.Op.operands,Go.Call.operands,tms])
  ·exact(Hs h).mono (λt G=>by grind [di,Go.Op.operands,Go.Call.operands,tm,tms])
  ·split at h
   ·rename_i x T Q U
    have u:args = #[x]:=ψ
    have e2:ts = #[T]:=ψ
    subst u e2;exact(Mc h).mono (by grind [di,Go.Op.operands,Go.Call.operands])
   exact h.elim
  ·split at h
   all_goals grind [Ls,di,Go.Op.operands,Go.Call.operands,cS]
  ·split at h
   ·rename_i x y Q
    have u:args = #[x,y]:=ψ
    subst u;exact(K6 h).mono (by simp[di,Op.operands,Call.operands])
   exact h.elim
  ·split at h
   ·rename_i x y Q
    have u:args = #[x,y]:=ψ
    subst u;exact(K6 h).mono (by simp[di,Op.operands,Call.operands])
   exact h.elim
  exact h.elim
 | _=>exact h.elim
end
def cN(o:Oper)(i:Nat):Bool:=o.after.toList.any λe=>Region.binds .any e&&Nat.beq e.on i
def dh(ops:Array Oper)(i:Nat):Oper:=ops.getD i default
def below(n:Nat)(p:Nat->Bool):Bool:=(List.range n).all p
def rV(ops:Array Oper)(i j:Nat):Bool:=match(dh ops i).dst with|some d=>((dh ops j).looksAt ops).any (Nat.beq d)|none=>false
def DL:List Nat->Nat
 | []=>0
 | k::a=>2 ^ k ||| DL a
def ons(o:Oper):List Nat:=(o.after.toList.filter λe=>Region.binds .any e).map (·.on)
def frc{α:Type}(n:Nat)(K:Nat->α):α:=match n with|0=>K 0|n+1=>K (n+1)
def JM{α:Type}(n:Nat)(K:Nat->α):frc n K=K n:=by cases n<;>rfl
def clo(ops:Array Oper):Nat->Nat->Nat
 | 0,S=>S
 | k+1,S=>bif S.testBit k then frc (S ||| DL (ons (dh ops k))) (clo ops k) else clo ops k S
def zV(ops:Array Oper)(m:Nat):Bool:=
 below ops.size λj=>((dh ops j).after.toList.all λe=>!Region.binds .any e || Nat.blt e.on j) &&
  (bif Nat.blt j m then below m (λi=>Nat.beq i j || ((cN (dh ops j) i || cN (dh ops i) j || (dh ops i).apart ops (dh ops j))&&(!rV ops i j || cN (dh ops j) i))) else frc (clo ops j (DL (ons (dh ops j)))) λS=>below j λi=>S.testBit i)
def vK:List (Nat × Nat × List Nat)->Nat->Option (Nat × List Nat)
 | [],_=>none
 | p::l,id=>bif Nat.beq id p.1 then some p.2 else vK l id
def fI(P:Program)(TE:Nat->Option TI)(N:dU)(ops:Array Oper)(o:Oper)(K:(Nat->AV)->Prop)(F:Nat->AV):Prop:=
 eN F ops o.guard (λF=>match o.dst with|some d=>cS P TE F o.op λa=>bA N F d a K|none=>False)
  (λF=>match o.dst with|some d=>bA N F d (.F (.tup []) []) K|none=>False)
def mN:Op->Option (Option Nat × Nat)
 | .buildSlice T 1 ps=>(match ps.toList with|[(0,.tmp s)]=>some (some T,s)|_=>none)
 | .move (.tmp s)=>some (none,s)
 | _=>none
def own1(T:Option Nat)(k:Kd)(cs:List C):Bool:=match T with
 | some _=>(match k with
   | .one=>(match cs with|[c]=>dn c|_=>false)
   | .agg=>(match cs with|[c]=>dn c|_=>false)
   | _=>false)
 | none=>(match k with|.tup _=>!aW cs|_=>false)
def PV(TE:Nat->Option TI)(N:dU)(F:Nat->AV)(d:Nat)(T:Option Nat)(s:Nat)(K:(Nat->AV)->Prop):Prop:=match T with
 | some T=>fp TE N F d T 1 [(0,.tmp s)] K
 | none=>iv N F d (.tmp s) K
def Gw(F:Nat->AV)(o:Oper):Option (Option Nat × Nat):=
 match o.guard with
 | some _=>none
 | none=>match mN o.op with
  | none=>none
  | some p=>match F p.2 with
   | .F k cs=>bif own1 p.1 k cs then some p else none
   | .dead=>none
   | .ref ..=>none
   | .c3 ..=>none
   | .iref ..=>none
   | .fn ..=>none
   | .fv _=>none
def iD(ops:Array Oper)(o:Oper)(s:Nat):Bool:=
 ((List.range ops.size).any λk=>cN o k&&(match(dh ops k).dst with|some a=>Nat.beq a s|none=>false))&&Nat.ble (ops.toList.filter λk=>(k.looksAt ops).any (Nat.beq s)).length 1
def oZ(ds:List Nat)(o:Oper):Bool:=match o.dst with|some d=>ds.any (Nat.beq d)|none=>false
def twk:List Nat->List Nat
 | []=>[]
 | e::l=>bif Nat.ble 1000 e then(e - 1000)::twk l else []
def dec:List Nat->List (Nat × List Nat)
 | []=>[]
 | e::l=>bif Nat.ble 1000 e then dec l else(e,twk l)::dec l
def NG:Op->Bool
 | .move (.tmp _)=>true
 | .assign _=>true
 | .extract ..=>true
 | .build ..=>true
 | .buildSlice ..=>true
 | .store ..=>true
 | .load ..=>true
 | .fieldAddr ..=>true
 | .field ..=>true
 | .binOp ..=>true
 | .unOp ..=>true
 | .call c=>(pk c).isSome
 | .slice _ _ none (some _) none=>true
 | .slice _ _ (some _) none none=>true
 | _=>false
def nS:Op->Bool
 | .call c=>(match c.callee with|.value (.func _)=>true|_=>false)
 | _=>false
def wF(l:List (Nat × List Nat))(i:Nat):Bool:=l.any λp=>Nat.beq p.1 i
def ur(ops:Array Oper)(j i:Nat):Bool:=(clo ops j (DL (ons (dh ops j)))).testBit i
def Qo(o:Oper):Bool:=match o.guard with|none=>true|some _=>false
def Q1(sch:List (Nat × List Nat))(i:Nat):Bool:=sch.any λp=>Nat.beq p.1 i&&!p.2.isEmpty
def PY(ops:Array Oper)(a b:Oper)(nm:Bool):Bool:=match b.dst with
 | none=>false
 | some c=>Qo a&&(NG a.op || nS a.op)&&!(match a.dst with|some d=>Nat.beq d c|none=>false)&&!(a.looksAt ops).any (Nat.beq c)&&Qo b&&!(b.looksAt ops).any (Nat.beq c)&&(nm || match mN b.op with|none=>true|some p=>!iD ops b p.2)
def zk(ops:Array Oper)(ds:List Nat)(nm:Nat->Bool)(i j:Nat):Bool:=
 bif oZ ds (dh ops j) then(bif oZ ds (dh ops i) then(cN (dh ops j) i || cN (dh ops i) j || (dh ops i).apart ops (dh ops j))&&(!rV ops i j || cN (dh ops j) i)&&!(match(dh ops i).dst with|some d=>(match(dh ops j).dst with|some e=>Nat.beq d e|none=>false)|none=>false) else true)
 else(bif oZ ds (dh ops i) then(ur ops j i || ur ops i j || PY ops (dh ops j) (dh ops i) (nm i))&&(!rV ops i j || cN (dh ops j) i) else true)
def Ee(ops:Array Oper)(ds:List Nat):List (Nat × List Nat)->Bool
 | []=>true
 | k::l=>Nat.blt k.1 ops.size&&!wF l k.1&&((dh ops k.1).after.toList.all λe=>!Region.binds .any e || !(Nat.beq k.1 e.on || wF l e.on)) &&
  (oZ ds (dh ops k.1) || ((l.all λj=>ur ops j.1 k.1)&&(below ops.size λp=>!oZ ds (dh ops p) || wF l p || ur ops k.1 p || k.2.any (Nat.beq p))&&(!(l.any λj=>oZ ds (dh ops j.1)) || (Qo (dh ops k.1)&&(NG (dh ops k.1).op || nS (dh ops k.1).op)))))&&Ee ops ds l
def zz(ops:Array Oper)(ds:List Nat)(sch:List (Nat × List Nat)):Bool:=
 (below ops.size λj=>((dh ops j).after.toList.all λe=>!Region.binds .any e || Nat.blt e.on j)&&wF sch j&&(!oZ ds (dh ops j) || (match mN (dh ops j).op with|none=>true|some p=>!iD ops (dh ops j) p.2 || ds.any (Nat.beq p.2)))&&below ops.size λi=>Nat.beq i j || zk ops ds (Q1 sch) i j)&&Nat.beq sch.length ops.size&&Ee ops ds sch
def mj(tb:List (Nat × Nat × List Nat))(id:Nat)(ops:Array Oper):Bool:=
 match vK tb id with
 | some (m,ds)=>bif Nat.ble 65536 m then true else bif Nat.ble 256 m then zz ops (ds.take (m - 256)) (dec (ds.drop (m - 256))) else(Nat.ble m ops.size&&below m λj=>match(dh ops j).dst with|some d=>ds.any (Nat.beq d)|none=>true)&&zV ops m
 | none=>false
def kh(P:Program)(TE:Nat->Option TI)(N:dU)(ops:Array Oper)(o:Oper)(K:(Nat->AV)->Prop)(F:Nat->AV):Prop:=
 match Gw F o with
 | some p=>(match o.dst with|some d=>bif iD ops o p.2 then PV TE N F d p.1 p.2 K else False|none=>False)
 | none=>fI P TE N ops o K F
def Kf(P:Program)(TE:Nat->Option TI)(N:dU)(ops:Array Oper):Nat->List Oper->((Nat->AV)->Prop)->(Nat->AV)->Prop
 | 0,l,K,F=>HY P TE N ops l K F
 | _+1,[],K,F=>K F
 | m+1,o::l,K,F=>kh P TE N ops o (Kf P TE N ops m l K) F
def MD(ds:List Nat)(t:Nat):Bool:=ds.any (Nat.beq t)
def QF(ds:List Nat):AV->AV
 | .ref t off st=>bif MD ds t then .dead else .ref t off st
 | .c3 t off st ag=>bif MD ds t then .dead else .c3 t off st ag
 | .fn f caps=>bif caps.any (MD ds) then .dead else .fn f caps
 | .F k cs=>.F k cs
 | .iref r off=>.iref r off
 | .fv Ok=>.fv Ok
 | .dead=>.dead
def clr(ds:List Nat)(F:Nat->AV):Nat->AV:=λt=>QF ds (F t)
theorem zW(ds:List Nat)(F:Nat->AV)(t:Nat):clr ds F t=bif ds.any (λd=>(F t).uses d) then .dead else F t:=by
 unfold clr;cases F t with
 | dead=>cases ds.any λd=>AV.uses d .dead<;>rfl
 | F k i=>
  have:ds.any (λd=>(AV.F k i).uses d)=false:=by
   rw[<-X4,R3]
   rintro⟨d,_,h⟩
   cases h
  rw[this];rfl
 | iref r a=>
  have:ds.any (λd=>(AV.iref r a).uses d)=false:=by
   rw[<-X4,R3]
   rintro⟨d,_,h⟩
   cases h
  rw[this];rfl
 | fv Ok=>
  have:ds.any (λd=>(AV.fv Ok).uses d)=false:=by
   rw[<-X4,R3]
   rintro⟨d,_,h⟩
   cases h
  rw[this];rfl
 | ref j a l=>rfl
 | c3 j a l n=>rfl
 | fn f caps=>
  have:ds.any (λd=>(AV.fn f caps).uses d)=caps.any (MD ds):=by
   rw[O4,R3,R3];constructor
   ·rintro⟨d,b,h⟩
    simp only[AV.uses,R3]at h;obtain⟨c,e,g⟩:=h;exact⟨c,e,R3.2 ⟨d,b,g⟩⟩
   rintro⟨c,e,h⟩
   obtain⟨d,b,g⟩:=R3.1 h
   grind [AV.uses]
  rw[this];rfl
inductive Sm(a b:AV)(K:Prop):Prop
 |mk_ (h:a=b/\K)
def Sm.rf{a:AV}{K:Prop}(h:K):Sm a a K:=.mk_ ⟨rfl,h⟩
def C8:type_of% @Sm.rf:=@Sm.rf
def Sm.out{a b:AV}{K:Prop}(h:Sm a b K):a=b/\K:=h.1
def Qm(P:Program)(TE:Nat->Option TI)(ops:Array Oper)(p:Nat)(K:Prop)(F:Nat->AV):Prop:=
 match(dh ops p).dst with
 | none=>False
 | some d=>(match Gw F (dh ops p) with
   | some _=>False
   | none=>cS P TE F (dh ops p).op λa=>Sm a (F d) K)
def KF(P:Program)(TE:Nat->Option TI)(ops:Array Oper):List Nat->Prop->(Nat->AV)->Prop
 | [],K,_=>K
 | p::l,K,F=>Qm P TE ops p (KF P TE ops l K F) F
def Ky(P:Program)(TE:Nat->Option TI)(N:dU)(ops:Array Oper)(nm:Bool)(o:Oper)(K:(Nat->AV)->Prop)(F:Nat->AV):Prop:=
 match nm with
 | false=>kh P TE N ops o K F
 | true=>(match Gw F o with
   | some _=>False
   | none=>fI P TE N ops o K F)
def H3(P:Program)(TE:Nat->Option TI)(N:dU)(ops:Array Oper)(ds:List Nat)(nm:Nat->Bool):List (Nat × List Nat)->((Nat->AV)->Prop)->(Nat->AV)->Prop
 | [],K,F=>K F
 | k::l,K,F=>bif oZ ds (dh ops k.1) then Ky P TE N ops (nm k.1) (dh ops k.1) (H3 P TE N ops ds nm l K) F else iy P TE N ops (dh ops k.1) (λa=>KF P TE ops k.2 (H3 P TE N ops ds nm l K a) a) F
def Na:List Nat->(List Nat->Prop)->Prop
 | [],K=>K []
 | a::l,K=>Na l λb=>K (a::b)
def Gp:∀(l:List Nat)(K:List Nat->Prop),Na l K=K l
 | [],_=>rfl
 | a::l,K=>by rw[Na,Gp l]
def Ag(l:List Nat)(j:Nat):Bool:=l.any (Nat.beq j)
def KC(ops:Array Oper)(done:List Nat):List Nat:=(List.range ops.size).filter λj=>!Ag done j&&((dh ops j).after.toList.all λe=>!Region.binds .any e || Ag done e.on)
def QG(p:Nat->Prop):Nat->List Nat->Prop
 | i,[]=>p i
 | i,j::l=>p i/\QG p j l
def QD(l:List Nat)(K:Prop)(p:Nat->Prop):Prop:=match l with
 | []=>K
 | i::l=>QG p i l
def PJ(P:Program)(TE:Nat->Option TI)(N:dU)(ops:Array Oper)(K:(Nat->AV)->Prop):Nat->List Nat->(Nat->AV)->Prop
 | 0,done,F=>QD (KC ops done) (K F) λ_=>False
 | n+1,done,F=>QD (KC ops done) (K F) λi=>iy P TE N ops (dh ops i) (PJ P TE N ops K n (i::done)) F
def DD(P:Program)(TE:Nat->Option TI)(N:dU)(tb:List (Nat × Nat × List Nat))(id:Nat)(ops:Array Oper)(K:(Nat->AV)->Prop)(F:Nat->AV):Prop:=
 match vK tb id with
 | some (m,ds)=>bif Nat.ble 65536 m then PJ P TE N ops K ops.size [] F else bif Nat.ble 256 m then Na (ds.take (m - 256)) λa=>H3 P TE N ops a (Q1 (dec (ds.drop (m - 256)))) (dec (ds.drop (m - 256))) K (clr a F) else Kf P TE N ops m ops.toList K (clr ds F)
 | none=>False
theorem fN{n:Nat}{p:Nat->Bool}(h:below n p=true){i:Nat}(a:i<n):p i=true:=T3.1 h i ψ
theorem ce{o:Oper}{i:Nat} : cN o i=true↔∃e,e∈o.after/\Region.binds .any e=true/\e.on=i:=by grind [V1,Nat.beq_refl,cN]
theorem bn{ops:Array Oper}{i:Nat}{o:Oper}(h:ops[i]? = some o):dh ops i=o:=by simp[dh,X5,h]
section
variable{P:Program}{w0 w w1:World}{M S0 S:ab}{N:dU}{φ:Nat->ab}{F:Nat->AV}{a:Act}{TE:Nat->Option TI}{ops:Array Oper}
theorem zd{d:Nat}{b:Bool}(a:F d=.F .one [.v (.bool b)]):B8 F d b=F:=by grind [V1,B8]
theorem gG(o:Oper)(t:Nat)(h:t∈di o.op):t∈o.looksAt ops:=by grind [Go.Oper.looksAt,di,tm]
structure QJ(P:Program)(TE:Nat->Option TI)(N:dU)(ops:Array Oper)(o:Oper)(F:Nat->AV)(d:Nat)(av:AV):Prop where
 dst:o.dst=some d
 lt:N.free d=true
 self:av.uses d=false
 from_:d5 F (o.looksAt ops) av
 at_:∀F':Nat->AV,gk F F' (o.looksAt ops)->∀K':(Nat->AV)->Prop,K' (put F' d av)->fI P TE N ops o K' F'
def gk.refl(F:Nat->AV)(ts:List Nat):gk F F ts:=λ_ _=>⟨rfl,λ_ _ _ _ h=>h⟩
theorem CW:type_of% @gk.refl:=@gk.refl
theorem v9{o:Oper}{K:(Nat->AV)->Prop}(h:fI P TE N ops o K F):∃d av,QJ P TE N ops o F d av/\K (put F d av):=by
 cases e:o.dst with
 | none=>
  exfalso;unfold fI at h;rw[e]at h;unfold eN at h
  grind [Bf.out]
 | some d=>
  have put1:∀{a:Nat->AV}{av:AV}{c:(Nat->AV)->Prop},N.free d=true->av.uses d=false->c (put a d av)->bA N a d av c:=λA B E=>by grind [bA]
  have put2:∀{a:Nat->AV}{av:AV}{c:(Nat->AV)->Prop},bA N a d av c->N.free d=true/\av.uses d=false/\c (put a d av):=fun {a av c} n=>by grind [bA]
  have pure1:cS P TE F o.op (λav=>bA N F d av K)->∃av,N.free d=true/\av.uses d=false/\K (put F d av)/\d5 F (o.looksAt ops) av/\∀a:Nat->AV,gk F a (o.looksAt ops)->∀c:(Nat->AV)->Prop,c (put a d av)->cS P TE a o.op (λav=>bA N a d av c):=λn=>by
   obtain⟨av,A,B,E⟩:=jr n
   grind [d5.mono,gG,gk.mono]
  unfold fI at h;rw[e]at h;unfold eN at h;cases r:o.guard with
  | none=>
   rw[r]at h;obtain⟨av,i,k,l,w,C⟩:=pure1 h;exact⟨d,av,⟨e,i,k,w,λa f c t=>by unfold fI eN;simp_all⟩,l⟩
  | some p=>
   obtain⟨j,want⟩:=p;rw[r]at h;simp only at h;cases y:(ops[j]?).bind (·.dst) with
   | none=>grind
   | some u=>
    rw[y]at h;simp only at h;have q:u∈o.looksAt ops:=by grind [Go.Oper.looksAt]
    split at h
    case h_3=>exact h.elim
    case h_2=>
     rename_i J L g;obtain⟨i,k,l⟩:=put2 h;refine⟨d,.F (.tup []) [],⟨e,i,k,(λd e=>by cases e),λa f c t=>?_⟩,l⟩;unfold fI eN;rw[r,e];simp only;rw[y];simp only;rw[(f u q).1.trans g];exact put1 i k t
    rename_i b g;have same:∀{a:Nat->AV},gk F a (o.looksAt ops)->a u=.F .one [.v (.bool b)]:=λf=>(f u q).1.trans g
    have back:∀{a:Nat->AV}{c:(Nat->AV)->Prop},gk F a (o.looksAt ops)->(b=want->cS P TE a o.op (λav=>bA N a d av c))->(b = !want->bA N a d (.F (.tup []) []) c)->fI P TE N ops o c a:=fun {a c} f A B=>by
     unfold fI eN;rw[r,e];simp only;rw[y];simp only;rw[same f];simp only;refine Bf.P (λG=>?_) (λG=>?_)
     all_goals grind [zd]
    have D:=zd g;replace h:=Bf.out h;by_cases H:b=want
    ·have n:cS P TE F o.op (λav=>bA N F d av K):=ψ
     obtain⟨av,i,k,l,w,C⟩:=pure1 n;exact⟨d,av,⟨e,i,k,w,λa f c t=>back f (λ_=>C a f c t) ψ⟩,l⟩
    have n:bA N F d (.F (.tup []) []) K:=ψ
    obtain⟨i,k,l⟩:=put2 n;exact⟨d,.F (.tup []) [],⟨e,i,k,(λd e=>by cases e),ψ⟩,l⟩
def aft:AV->AV
 | .F k a=>.F k (splice a 0 (List.replicate a.length .x))
 | _=>.F .one [.x]
theorem KB(v:AV)(e:Nat):(aft v).uses e=false:=by unfold aft;split<;>rfl
def eff(a:Option Nat)(d:Nat)(av:AV)(F:Nat->AV):Nat->AV:=λt=>if t=d then av else if a=some t then aft (F t) else F t
theorem AZ{d:Nat}(av:AV)(a:∀t,(F t).uses d=false):put F d av=eff none d av F:=by grind [oe,gX,y6,eff]
theorem Pn{s:Nat}{v:AV}(h:v.uses s=false):r9 s v=v:=by
 cases v with
 | c3 t a b c=>grind [AV.uses,r9]
 | ref t a b=>simp only[AV.uses]at h;cases b<;>simp[r9,h]
 | _=>rfl
theorem K7{d s:Nat}{k:Kd}{cs:List C}(av:AV)(a:F s=.F k cs)(c:∀t,(F t).uses d=false)(e:∀t,(F t).uses s=false):put (updH F s k (splice cs 0 (List.replicate cs.length .x))) d av=eff (some s) d av F:=by
 funext t
 unfold eff;by_cases h:t=d
 ·grind [oe]
 rw[gX _ _ h,C9 h];by_cases b:t=s
 ·subst b;rw[ia,CB rfl,a];rfl
 grind [Nat.beq_eq,Pn,y6,updH]
theorem Fp{d T s:Nat}{k:Kd}{c:C}{K:(Nat->AV)->Prop}(o:k=.one\/k=.agg)(p:F s=.F k [c])(q:dn c=true)(h:fp TE N F d T 1 [(0,.tmp s)] K) :
  ∃av,N.free d=true/\(∀e,av.uses e=false)/\K (put (updH F s k [.x]) d av)/\∀(F':Nat->AV)(b:(Nat->AV)->Prop),F' s=.F k [c]->b (put (updH F' s k [.x]) d av)->fp TE N F' d T 1 [(0,.tmp s)] b:=by
 have key:∀F':Nat->AV,F' s=.F k [c]->∀b:(Nat->AV)->Prop,fp TE N F' d T 1 [(0,.tmp s)] b=Ep TE T λ_ a=>bif Nat.ble (1*a.size) 16777216 then(bif Nat.beq 1 a.size&&Nat.ble (0*a.size+a.size) (rep a.zero 1).length then bA N (updH F' s k [.x]) d (.F .one [.s .own (chunk a.size 1 (splice (rep a.zero 1) (0*a.size) [c]))]) b else False) else False:=by
  intro F' f b;unfold fp
  congr 1
  funext e a
  rcases o with rfl|rfl<;>simp only[cZ,fillW,Q7,tF,lY,f,gM,aW,q,cond_true,cond_false,fB,ow,List.length_singleton,List.replicate]
  all_goals rfl
 rw[key F p]at h;obtain⟨e,a,g,n⟩:=fC h;cases i:Nat.ble (1*a.size) 16777216 with
 | false=>grind
 | true=>
  cases j:(Nat.beq 1 a.size&&Nat.ble (0*a.size+a.size) (rep a.zero 1).length) with
  | false=>grind
  | true=>
   rw[i,j]at g;simp only[cond_true]at g;unfold bA at g;cases l:N.free d with
   | false=>grind
   | true=>
    rw[l]at g;refine⟨_,rfl,λ_=>rfl,g,λF' b f r=>?_⟩
    grind [bA]
theorem Pb{d s:Nat}{T:Option Nat}{k:Kd}{cs:List C}{K:(Nat->AV)->Prop}(j:F s=.F k cs)(l:own1 T k cs=true)(h:PV TE N F d T s K) :
  ∃av,N.free d=true/\(∀e,av.uses e=false)/\K (put (updH F s k (splice cs 0 (List.replicate cs.length .x))) d av)/\∀(F':Nat->AV)(a:(Nat->AV)->Prop),F' s=.F k cs->a (put (updH F' s k (splice cs 0 (List.replicate cs.length .x))) d av)->PV TE N F' d T s a:=by
 cases T with
 | some T=>
  have f:(k=.one\/k=.agg)/\∃c,cs=[c]/\dn c=true:=by
   unfold own1 at l
   grind
  obtain⟨n,c,rfl,o⟩:=f;exact Fp n j o h
 | none=>
  have f:∃b,k=.tup b/\aW cs=false:=by
   unfold own1 at l
   grind
  obtain⟨b,rfl,p⟩:=f;have key:∀F':Nat->AV,F' s=.F (.tup b) cs->∀a,PV TE N F' d none s a=bA N (updH F' s (.tup b) (splice cs 0 (List.replicate cs.length .x))) d (.F (.tup b) cs) a:=λF' g a=>by grind [PV,iv]
  rw[key F j]at h;unfold bA at h;cases i:N.free d with
  | false=>grind
  | true=>
   rw[i]at h;refine⟨_,rfl,λ_=>rfl,h,λF' a g q=>?_⟩
   grind [bA]
structure Yl(P:Program)(TE:Nat->Option TI)(N:dU)(ops:Array Oper)(o:Oper)(F:Nat->AV)(mv:Option Nat)(d:Nat)(av:AV):Prop where
 dst:o.dst=some d
 lt:N.free d=true
 self:av.uses d=false
 from_:d5 F (o.looksAt ops) av
 mvl:∀s,mv=some s->o.guard=none/\(∃T,mN o.op=some (T,s))/\iD ops o s=true
 at_:∀F':Nat->AV,gk F F' (o.looksAt ops)->(∀t,(F' t).uses d=false)->(∀s,mv=some s->∀t,(F' t).uses s=false)->∀K':(Nat->AV)->Prop,K' (eff mv d av F')->kh P TE N ops o K' F'
theorem GB{o:Op}{T:Option Nat}{s:Nat}(h:mN o=some (T,s)):(∃a ps,T=some a/\o=.buildSlice a 1 ps/\ps.toList=[(0,.tmp s)])\/(T=none/\o=.move (.tmp s)):=by
 unfold mN at h
 grind
theorem cM{o:Oper}{T:Option Nat}{s:Nat}(h:mN o.op=some (T,s)):s∈o.looksAt ops:=by
 refine gG o s ?_;unfold di;refine List.mem_flatMap.2 ⟨.tmp s,?_,by simp[tm]⟩
 grind [GB,Go.Op.operands]
theorem DI{o:Oper}{p:Option Nat × Nat}(h:Gw F o=some p):o.guard=none/\mN o.op=some p/\∃k cs,F p.2=.F k cs/\own1 p.1 k cs=true:=by grind [Gw]
theorem uE{F':Nat->AV}{o:Oper}(a:gk F F' (o.looksAt ops)):Gw F' o=Gw F o:=by
 unfold Gw;cases c:o.guard with
 | some _=>rfl
 | none=>
  cases b:mN o.op with
  | none=>rfl
  | some p=>simp only;rw[(a p.2 (cM b)).1]
theorem re{o:Oper}{K:(Nat->AV)->Prop}(c:Gw F o=none)(h:fI P TE N ops o K F)(e:∀d,o.dst=some d->∀t,(F t).uses d=false):∃d av,Yl P TE N ops o F none d av/\K (eff none d av F):=by
 obtain⟨d,av,a,f⟩:=v9 h;refine⟨d,av,⟨a.dst,a.lt,a.self,a.from_,ψ,λg i j _ k b=>?_⟩,by grind [AZ,QJ.dst]⟩
 grind [uE,QJ.at_,AZ,kh]
theorem oE{o:Oper}{K:(Nat->AV)->Prop}(h:kh P TE N ops o K F)(E:∀d,o.dst=some d->∀t,(F t).uses d=false)(y:∀T s,o.guard=none->mN o.op=some (T,s)->iD ops o s=true->∀t,(F t).uses s=false) :
  ∃r d av,Yl P TE N ops o F r d av/\K (eff r d av F):=by
 unfold kh at h;cases f:Gw F o with
 | none=>
  grind [re]
 | some p=>
  rw[f]at h;obtain⟨G,a,k,H,g,b⟩:=DI f;simp only at h;cases i:o.dst with
  | none=>grind
  | some d=>
   rw[i]at h;simp only at h;cases c:iD ops o p.2 with
   | false=>grind
   | true=>
    rw[c]at h;simp only[cond_true]at h;obtain⟨av,A,u,J,B⟩:=Pb g b h;refine⟨some p.2,d,av,⟨i,A,u d,λe w=>(by rw[u e]at w;cases w),λs y=>?_,λC j l n D q=>?_⟩,?_⟩
    ·grind
    ·unfold kh
     rw[uE j,f];simp only;rw[i];simp only;rw[c];refine B C D ((j p.2 (cM a)).1.trans g) ?_;rw[K7 av ((j p.2 (cM a)).1.trans g) l (n p.2 rfl)];exact q
    grind [K7]
theorem Hg{nm:Bool}{o:Oper}{K:(Nat->AV)->Prop}(h:Ky P TE N ops nm o K F)(b:∀d,o.dst=some d->∀t,(F t).uses d=false)(c:∀T s,o.guard=none->mN o.op=some (T,s)->iD ops o s=true->∀t,(F t).uses s=false) :
  ∃a d av,Yl P TE N ops o F a d av/\K (eff a d av F)/\(nm=true->a=none):=by
 unfold Ky at h
 grind [oE,re]
end
section
variable{P:Program}{w0 w w1:World}{M S0 S:ab}{N:dU}{φ:Nat->ab}{F:Nat->AV}{a:Act}{TE:Nat->Option TI}{ops:Array Oper}
def wH(P:Program)(TE:Nat->Option TI)(N:dU)(ops:Array Oper)(m i:Nat)(K:(Nat->AV)->Prop)(F:Nat->AV):Prop:=
 match ops[i]? with
 | none=>K F
 | some o=>if i<m then kh P TE N ops o K F else iy P TE N ops o K F
def F9(P:Program)(TE:Nat->Option TI)(N:dU)(ops:Array Oper)(m:Nat)(K:(Nat->AV)->Prop):Nat->Array Bool->(Nat->AV)->Prop
 | 0,listed,F=>Region.ready .any ops listed=[]/\K F
 | fuel+1,listed,F=>(Region.ready .any ops listed=[]->K F)/\∀i,i∈Region.ready .any ops listed->wH P TE N ops m i (F9 P TE N ops m K fuel (listed.setIfInBounds i true)) F
theorem aV.oneP0(h:aV w0 M S0 N S φ F a w)(c:∀t i,TE t=some i->gg P t i){o:Oper}{K:(Nat->AV)->Prop}(b:fI P TE N ops o K F){Kc:Act->World->Prop}{Q:Exit->Act->World->Prop}(p:∀F' j e,K F'->St w0 M S0 N F' j e->Kc j e) :
  if Region.wanted o (yielded ops a.tmps) then o.wp P a w Kc Q else Kc (a.put o.dst undef) w:=by
 unfold fI at b;rcases vh h b with⟨f,b⟩|⟨f,b⟩
 ·rw[f,CB rfl]
  cases g:o.dst with
  | none=>grind
  | some d=>
   rw[g]at b;obtain⟨av,k,l⟩:=h.pure_ c b;refine l Kc Q λv e q=>?_
   grind [aV.putD_new]
 rw[f,C9 (by simp)];cases g:o.dst with
 | none=>grind
 | some d=>
  rw[g]at b;obtain⟨F',k,n⟩:=h.putD_new (v:=undef) (kD.same (av:=.F (.tup []) []) Jz) b
  grind
def HD{o:Oper}{p:Option Nat × Nat}{d:Nat}{K:(Nat->AV)->Prop}(f:Gw F o=some p)(c:o.dst=some d)(h:PV TE N F d p.1 p.2 K):iy P TE N ops o K F:=by
 obtain⟨e,a,-⟩:=DI f;obtain⟨T,s⟩:=p;rcases GB a with⟨i,j,rfl,b,g⟩|⟨rfl,b⟩
 ·unfold iy eN
  rw[e];simp only;rw[b];simp only[xM];rw[c];simp only[ir,g];exact h
 unfold iy eN;rw[e];simp only;rw[b];simp only[xM];rw[c];simp only[ir];exact h
theorem aV.oneP(h:aV w0 M S0 N S φ F a w)(c:∀t i,TE t=some i->gg P t i){o:Oper}{K:(Nat->AV)->Prop}(b:kh P TE N ops o K F){Kc:Act->World->Prop}{Q:Exit->Act->World->Prop}(g:∀F' j k,K F'->St w0 M S0 N F' j k->Kc j k) :
  if Region.wanted o (yielded ops a.tmps) then o.wp P a w Kc Q else Kc (a.put o.dst undef) w:=by
 unfold kh at b;cases e:Gw F o with
 | none=>rw[e]at b;exact h.oneP0 c b g
 | some p=>
  rw[e]at b;simp only at b;cases l:o.dst with
  | none=>grind
  | some d=>
   rw[l]at b;simp only at b;cases f:iD ops o p.2 with
   | false=>grind
   | true=>
    rw[f]at b;have:=h.one c (HD (P:=P) (ops:=ops) e l b) (Q:=Q) g
    grind
theorem Fs(c:∀t i,TE t=some i->gg P t i){m i:Nat}{K:(Nat->AV)->Prop}(b:wH P TE N ops m i K F)(g:St w0 M S0 N F a w){Kc:Act->World->Prop}{Q:Exit->Act->World->Prop}(d:∀F' e f,K F'->St w0 M S0 N F' e f->Kc e f):wpOp P ops Q i Kc a w:=by
 unfold wH at b;unfold wpOp;cases j:ops[i]? with
 | none=>grind
 | some o=>
  rw[j]at b;simp only at b |-;obtain⟨S,φ,h⟩:=g;have:if Region.wanted o (yielded ops a.tmps) then o.wp P a w Kc Q else Kc (a.put o.dst undef) w:=by
   split at b
   ·exact h.oneP c b d
   exact h.one c b d
  grind
def y8(b:∀t i,TE t=some i->gg P t i){m:Nat}{K:(Nat->AV)->Prop}{Q:Exit->Act->World->Prop}(g:∀F' d e,K F'->St w0 M S0 N F' d e->Q .normal d e) :
  ∀(fuel:Nat)(listed:Array Bool)(F:Nat->AV)(a:Act)(w:World),F9 P TE N ops m K fuel listed F->St w0 M S0 N F a w->wpAny P .any ops Q fuel listed a w
 | 0,_,F,a,w,c,f=>⟨c.1,g F a w c.2 f⟩
 | fuel+1,_,F,a,w,c,f=>⟨λj=>g F a w (c.1 j) f,λi k=>Fs b (c.2 i k) f λF' d e l h=>y8 b g fuel _ F' d e l h⟩
structure yG(ops:Array Oper)(m:Nat)(F:Nat->AV)(listed:Array Bool):Prop where
 dst:∀j o d,j<m->ops[j]? = some o->listed.getD j true=false->o.dst=some d->∀t,(F t).uses d=false
 mv:∀j o T s,j<m->ops[j]? = some o->listed.getD j true=false->o.guard=none->mN o.op=some (T,s)->iD ops o s=true->∀t,(F t).uses s=false
def DC(ops:Array Oper)(listed:Array Bool):Prop:=∀j a,ops[j]? = some a->listed.getD j false=true->∀k,cN a k=true->listed.getD k false=true
theorem Mw{d e:Nat}{v:AV}(h:(kl d v).uses e=true):v.uses e=true/\v.uses d=false:=by
 rw[y6]at h;cases a:v.uses d with
 | true=>rw[a]at h;cases h
 | false=>grind
theorem wS{α:Type}{p:α->Bool} : ∀{l:List α}{i j:Nat}{x y:α},(l.filter p).length<=1->l[i]? = some x->l[j]? = some y->p x=true->p y=true->i=j
 | [],_,_,_,_,_,h,_,_,_=>by simp at h
 | a::l,0,0,_,_,_,_,_,_,_=>rfl
 | a::l,i+1,j+1,x,y,h,b,c,d,e=>by
  rw[wS (l:=l) (R4 (List.Sublist.length_le ((List.sublist_cons_self a l).filter p)) h) b c d e]
 | a::l,0,j+1,x,y,h,b,c,d,e=>by
  simp only[List.getElem?_cons_zero,W0]at b;subst b;rw[List.filter_cons_of_pos d]at h;have:y∈l.filter p:=Y3.2 ⟨U1 c,e⟩;have:=List.length_pos_of_mem this;rw[List.length_cons]at h;omega
 | a::l,i+1,0,x,y,h,b,c,d,e=>by
  simp only[List.getElem?_cons_zero,W0]at c;subst c;rw[List.filter_cons_of_pos e]at h;have:x∈l.filter p:=Y3.2 ⟨U1 b,d⟩;have:=List.length_pos_of_mem this;rw[List.length_cons]at h;omega
theorem gQ{listed:Array Bool}{j a:Nat}(b:(listed.setIfInBounds j true).getD a true=false):a≠j:=λe=>by simp_all
theorem js{a:Option Nat}{d e t:Nat}{av:AV}(b:av.uses e=false)(c:(F t).uses e=false):(eff a d av F t).uses e=false:=by grind [KB,eff]
theorem yG.put{m j d:Nat}{o:Option Nat}{listed:Array Bool}{av:AV}(h:yG ops m F listed)(p:∀a b g,a<m->a≠j->ops[a]? = some b->listed.getD a true=false->b.dst=some g->av.uses g=false)(q:∀a b T s,a<m->a≠j->ops[a]? = some b->listed.getD a true=false->b.guard=none->mN b.op=some (T,s)->iD ops b s=true->av.uses s=false) :
  yG ops m (eff o d av F) (listed.setIfInBounds j true):=by
 refine⟨λa b g i c e k t=>?_,λa b T s i c e r l n t=>?_⟩
 ·have f:=gQ e
  rw[getD_set_ne true (Ne.symm f)]at e;exact js ψ (h.dst a b g i c e k t)
 have f:=gQ e;rw[getD_set_ne true (Ne.symm f)]at e;exact js ψ (h.mv a b T s i c e r l n t)
inductive nl(ops:Array Oper):Nat->Nat->Prop
 |one {j i:Nat} (h:cN (dh ops j) i=true):nl ops j i
 |step {j k i:Nat} (h:cN (dh ops j) k=true) (h2:nl ops k i):nl ops j i
def nl.trans{i j k:Nat}(h:nl ops j k)(a:nl ops k i):nl ops j i:=by
 induction h with
 | one h=>exact .step h a
 | step h _ b=>exact .step h (b a)
theorem Dx{i:Nat} : ∀{a:List Nat},(DL a).testBit i=true->i∈a
 | [],h=>by simp[DL]at h
 | k::a,h=>by
  rw[DL,Nat.testBit_or,U5]at h;rcases h with h|h
  ·grind
  exact W4 _ (Dx h)
theorem wT{o:Oper}{i:Nat}(h:(DL (ons o)).testBit i=true):cN o i=true:=by
 have:=Dx h
 grind [ce,ons]
def rd{j:Nat} : ∀(k S:Nat),(∀i,S.testBit i=true->nl ops j i)->∀i,(clo ops k S).testBit i=true->nl ops j i
 | 0,_,h,i,a=>h i a
 | k+1,S,h,i,a=>by
  rw[clo,JM]at a;cases c:S.testBit k with
  | false=>rw[c]at a;exact rd k S h i a
  | true=>
   rw[c]at a;refine rd k _ (λe b=>?_) i a;rw[Nat.testBit_or,U5]at b;rcases b with d|d
   ·exact h e d
   exact(h k c).trans (.one (wT d))
theorem mV{listed:Array Bool}(d:DC ops listed)(b:∀j n,ops[j]? = some n->∀e∈n.after,Region.binds .any e=true->e.on<j){j i:Nat}(o:nl ops j i):j<ops.size->(∀k,cN (dh ops j) k=true->listed.getD k false=true)->listed.getD i false=true:=by
 induction o with
 | one h=>grind
 | @step j k i h h2 ih=>
  intro f p;have r:k<j:=by
   have c:=(show ops[j]? = some ops[j] from V5 f)
   rw[bn c]at h;obtain⟨e,g,l,rfl⟩:=ce.1 h;exact b j _ c e g l
  have a:k<ops.size:=ω
  have c:=(show ops[k]? = some ops[k] from V5 a)
  exact ih a λq a=>d k _ c (p k h) q (by rw[bn c]at a;exact a)
theorem DC.put{listed:Array Bool}(h:DC ops listed){j:Nat}(d:j∈Region.ready .any ops listed):DC ops (listed.setIfInBounds j true):=by
 obtain⟨l,n,f,b⟩:=mem_ready.1 d;intro k ok g c e i;by_cases a:k=j
 ·grind [ce,Go.getD_set_true]
 rw[getD_set_ne false (Ne.symm a)]at c;exact getD_set_true (h k ok g c e i)
theorem fw{o:Oper}{s:Nat}(h:iD ops o s=true):(∃k ok,cN o k=true/\ops[k]? = some ok/\ok.dst=some s)/\∀(i j:Nat)(a b:Oper),ops[i]? = some a->ops[j]? = some b->s∈a.looksAt ops->s∈b.looksAt ops->i=j:=by
 unfold iD at h;rw[I0]at h;obtain⟨q,c⟩:=h;constructor
 ·grind [bn,V1]
 intro i j a b d e f g;have l:=Z0 c;have n:ops.toList[i]? = some a:=by simpa using d
 have p:ops.toList[j]? = some b:=by simpa using e
 grind [Nat.beq_refl,wS]
structure PD(ops:Array Oper)(m:Nat):Prop where
 back:∀j oj,ops[j]? = some oj->∀e∈oj.after,Region.binds .any e=true->e.on<j
 tail:∀j,m<=j->j<ops.size->∀i,i<j->nl ops j i
 apart:∀i j oi oj,i<m->j<m->i≠j->ops[i]? = some oi->ops[j]? = some oj->cN oj i=true\/cN oi j=true\/oi.apart ops oj=true
 look:∀i j oi oj d,i<m->j<m->i≠j->ops[i]? = some oi->ops[j]? = some oj->oi.dst=some d->d∈oj.looksAt ops->cN oj i=true
theorem Bh{m:Nat}(h:zV ops m=true):PD ops m:=by
 have o:∀j b,ops[j]? = some b->_:=λj b a=>fN h (C3.1 a).1
 refine⟨λj b a e t p=>?_,λj u a i f=>?_,λi j q b f a g r k=>?_,λi j q b d f a g r k w y=>?_⟩
 ·grind [bn,Nat.blt_eq]
 ·have l:=(show ops[j]? = some ops[j] from V5 a)
  have:=o j _ l;simp only[I0]at this;have c:=this.2;rw[show Nat.blt j m=false by rw[<-X4,Nat.blt_eq];omega]at c;simp only[cond_false,JM]at c;exact rd j _ (λA n=>.one (wT n)) i (fN c f)
 ·grind [bn,Nat.blt_eq,fN,Nat.beq_eq]
 have:=o j b k;rw[bn k]at this;simp only[I0]at this;have c:=this.2;rw[show Nat.blt j m=true by simpa[Nat.blt_eq] using a]at c
 grind [fN,bn,Nat.beq_eq,rV]
theorem H8{m:Nat}(V:PD ops m){i d:Nat}{c:Oper}{u:Option Nat}{av:AV}{K:(Nat->AV)->Prop}(R:ops[i]? = some c)(w:i<m) :
  ∀(fuel:Nat)(listed:Array Bool)(F:Nat->AV),i∈Region.ready .any ops listed->yG ops m F listed->DC ops listed->Yl P TE N ops c F u d av->F9 P TE N ops m K fuel (listed.setIfInBounds i true) (eff u d av F)->F9 P TE N ops m K (fuel+1) listed F:=by
 have self:∀(listed:Array Bool)(F:Nat->AV),i∈Region.ready .any ops listed->yG ops m F listed->Yl P TE N ops c F u d av->∀S:(Nat->AV)->Prop,S (eff u d av F)->kh P TE N ops c S F:=λlisted F W a g S hK=>by
  have b:=(mem_ready.1 W).1;refine g.at_ F (CW _ _) (a.dst i c d w R b g.dst) (λs X=>?_) S hK;obtain⟨A,⟨T,h2⟩,h3⟩:=g.mvl s X;exact a.mv i c T s w R b A h2 h3
 intro fuel
 induction fuel with
 | zero=>
  intro listed F W a E g H;refine⟨ψ,λj Y=>?_⟩;by_cases n:j=i
  ·grind [wH]
  have:=ready_mono Y n;rw[H.1]at this;cases this
 | succ fuel ih=>
  intro listed F W a E g H;refine⟨ψ,λj Y=>?_⟩;by_cases n:j=i
  ·grind [wH]
  have A:=H.2 j (ready_mono Y n);obtain⟨B,f,o,hall⟩:=mem_ready.1 Y;have b:=(mem_ready.1 W).1;have unl:∀k,listed.getD k true=false->listed.getD k false=true->False:=ψ
  have noedge:∀k ok,ops[k]? = some ok->listed.getD k true=false->cN f k=false:=λk ok hk Z=>by grind [ce]
  have noedge':∀k ok,ops[k]? = some ok->listed.getD k true=false->cN c k=false:=λk ok hk Z=>by grind [ce,Go.mem_ready]
  have G:j<m:=by
   rcases Nat.lt_or_ge j m with h|h
   ·exact h
   have C:=(C3.1 o).1;refine(unl i b (mV E V.back (V.tail j h C i ω) C λk hk=>?_)).elim
   grind [bn,ce]
  have hap:c.apart ops f=true:=by grind [PD.apart]
  obtain⟨ap1,ap2,ap3⟩:=Oper.apart_spec hap;unfold wH at A |-;rw[o]at A |-;simp only[CB G]at A |-;have hdl:d∉f.looksAt ops:=ap1 d g.dst;have cd:∀t,(F t).uses d=false:=a.dst i c d w R b g.dst
  have cdj':∀l,f.dst=some l->∀t,(F t).uses l=false:=λl J=>a.dst j f l G o B J
  have cmv:∀s,u=some s->(∀t,(F t).uses s=false)/\s∉f.looksAt ops/\s∈c.looksAt ops:=λs X=>by
   obtain⟨L,⟨T,q⟩,r⟩:=g.mvl s X;exact⟨a.mv i c T s w R b L q r,λhl=>n ((fw r).2 i j c f R o (cM q) hl).symm,cM q⟩
  have cmvj:∀T s,f.guard=none->mN f.op=some (T,s)->iD ops f s=true->(∀t,(F t).uses s=false)/\s∉c.looksAt ops/\s∈f.looksAt ops:=λT s L q r=>
   ⟨a.mv j f T s G o B L q r,λhl=>n ((fw r).2 i j c f R o hl (cM q)).symm,cM q⟩
  have avno:∀e,e∉c.looksAt ops->(∀t,(F t).uses e=false)->av.uses e=false:=λe A h2=>by
   cases hu:av.uses e with
   | false=>rfl
   | true=>
    rcases g.from_ e hu with h|⟨t,_,h⟩
    all_goals grind
  obtain⟨mvj,l,avj,p,hKj⟩:=oE A (λl J t=>js ψ (cdj' l J t)) (λT s L q r t=>by grind [js]);have hdne:d≠l:=λe=>ap2 d g.dst (by rw[p.dst,e])
  have hdjl:l∉c.looksAt ops:=ap3 l p.dst;have cdj:∀t,(F t).uses l=false:=cdj' l p.dst
  have cmj:∀s,mvj=some s->(∀t,(F t).uses s=false)/\s∉c.looksAt ops/\s∈f.looksAt ops:=λs X=>by
   obtain⟨L,⟨T,q⟩,r⟩:=p.mvl s X
   grind
  have lookj:∀t,t∈f.looksAt ops->eff u d av F t=F t:=λt U=>by grind [eff]
  have looki:∀t,t∈c.looksAt ops->eff mvj l avj F t=F t:=λt U=>by grind [eff]
  have avjno:∀e,e∉f.looksAt ops->(∀t,(F t).uses e=false)->avj.uses e=false:=λe A h2=>by
   cases hu:avj.uses e with
   | false=>rfl
   | true=>
    rcases p.from_ e hu with h|⟨t,U,h⟩
    all_goals grind
  have agrj:gk (eff u d av F) F (f.looksAt ops):=λt U=>by grind [eff]
  refine p.at_ F agrj cdj ψ _ (ih (listed.setIfInBounds j true) (eff mvj l avj F) (ready_mono W (Ne.symm n)) (a.put (λj' o' d' M D y O Q=>?_) (λj' o' T s M D y O L q r=>?_)) (E.put Y) ?_ ?_)
  ·refine avjno d' (λh=>?_) (a.dst j' o' d' M y O Q)
   grind [PD.look]
  ·exact avjno s (λh=>D ((fw r).2 j' j o' f y o (cM q) h)) (a.mv j' o' T s M y O L q r)
  ·refine⟨g.dst,g.lt,g.self,λe he=>?_,g.mvl,λF' hA Q hs' S hK=>g.at_ F' (λt U=>?_) Q hs' S hK⟩
   ·rcases g.from_ e he with h|⟨t,U,h⟩
    all_goals grind
   obtain⟨a1,a2⟩:=hA t U
   grind [eff]
  rw[Array.setIfInBounds_comm _ _ n];have:eff u d av (eff mvj l avj F)=eff mvj l avj (eff u d av F):=by grind [eff]
  grind
theorem fU{o:Op}{K a:AV->Prop}(h:cS P TE F o K)(b:∀av,K av->a av):cS P TE F o a:=by
 obtain⟨av,c,-,d⟩:=jr h
 grind [CW]
theorem aZ{d:Nat}{av:AV}{K a:(Nat->AV)->Prop}(h:bA N F d av K)(b:∀F',K F'->a F'):bA N F d av a:=by grind [bA]
theorem d9{y:Operand}{K b:(Nat->AV)->Option Nat->List C->Prop}(h:fB F y K)(g:∀F' ag cs,K F' ag cs->b F' ag cs):fB F y b:=by
 cases y with
 | tmp t=>
  simp only[fB]at h |-;cases d:F t with
  | F k cs=>
   grind
  | c3 e f c ag=>
   rw[d]at h;cases c with
   | cons s c=>
    simp only at h |-;cases a:F e with
    | F k cs=>
     rw[a]at h;obtain⟨r,j,i,l,n,o⟩:=Lq.out h;exact .mk_ ψ
    | _=>grind
   | nil=>
    grind
  | _=>grind
 | _=>exact h.elim
theorem yt{x:Operand}{K a:AV->Prop}(h:bp F x K)(b:∀av,K av->a av):bp F x a:=by
 obtain⟨av,c,-,d⟩:=jh h
 grind [CW]
theorem DA{d:Nat}{x:Operand}{K a:(Nat->AV)->Prop}(h:jM N F d x K)(j:∀F',K F'->a F'):jM N F d x a:=by
 have i:∀y,bp F y (λb=>bA N F d b K)->bp F y (λb=>bA N F d b a):=λy h=>yt h λb h=>aZ h j
 have k:∀y,fB F y (λF' c e=>bA N F' d (.F (kC c) e) K)->fB F y (λF' c e=>bA N F' d (.F (kC c) e) a):=λy h=>d9 h λF' c e h=>aZ h j
 cases x with
 | tmp t=>
  grind [jM]
 | const v=>exact i (.const v) h
 | global g=>exact i (.global g) h
 | func f=>exact i (.func f) h
theorem Lc{d:Nat}{x:Operand}{K a:(Nat->AV)->Prop}(h:AX N F d x K)(b:∀F',K F'->a F'):AX N F d x a:=by grind [aZ,DA,AX,Gy]
theorem y9{x:Operand}{cs:List C}{K b:(Nat->AV)->Prop}(h:pD F x cs K)(d:∀F',K F'->b F'):pD F x cs b:=by
 cases x with
 | tmp t=>
  simp only[pD]at h |-;cases e:F t with
  | F k f=>
   grind [cZ]
  | ref g i c=>
   rw[e]at h;cases c with
   | cons s c=>
    simp only at h |-;cases a:F g with
    | F k f=>
     rw[a]at h;obtain⟨r,j,l,n,o,p⟩:=Pu.out h;exact Pu.mk l n o rfl (d _ p)
    | _=>grind
   | nil=>
    grind [cZ]
  | _=>grind
 | _=>exact h.elim
theorem vA{T:Nat}{x y:Operand}{K a:(Nat->AV)->Prop}(h:lB TE F T x y K)(b:∀F',K F'->a F'):lB TE F T x y a:=by
 unfold lB at h |-;split at h
 all_goals grind [cj,CW,y9,d9]
theorem Fc{g:Option (Nat × Bool)}{a b K1' K0':(Nat->AV)->Prop}(h:eN F ops g a b)(h1:∀F,a F->K1' F)(c:∀F,b F->K0' F):eN F ops g K1' K0':=by
 unfold eN at h |-;split at h
 ·exact h1 _ h
 rename_i j want;split at h
 all_goals grind [Bf.out,Bf.in_]
theorem sF{x:Operand}{K a:(Nat->AV)->Option Nat->List C->Prop}(h:tF F x K)(c:∀F' ag cs,K F' ag cs->a F' ag cs):tF F x a:=by
 obtain⟨ag,cs,d,b⟩:=cj h;refine b F (CW _ _) _ ?_
 grind [d9]
theorem iH{c:Nat->Option (Nat × Nat)} : ∀{parts:List (Nat × Operand)}{cs:List C}{K a:(Nat->AV)->List C->Prop}{F:Nat->AV},fillW c parts cs K F->(∀F' cs,K F' cs->a F' cs)->fillW c parts cs a F
 | [],cs,K,a,F,h,b=>b _ _ h
 | p::rest,cs,K,a,F,h,b=>by
  simp only[fillW]at h |-;split at h
  case h_2=>exact h.elim
  rename_i q e;refine sF h λF' f xs h=>?_
  cases d:(Nat.beq xs.length q.2&&Nat.ble (q.1+q.2) cs.length) with
  | false=>grind
  | true=>
   rw[d]at h;simp only[cond_true,cZ]at h |-;exact iH h b
theorem DO{d T:Nat}{parts:List (Nat × Operand)}{K a:(Nat->AV)->Prop}(h:jJ TE N F d T parts K)(b:∀F',K F'->a F'):jJ TE N F d T parts a:=by grind [iH,aZ,jJ]
theorem zT{d T n:Nat}{parts:List (Nat × Operand)}{K a:(Nat->AV)->Prop}(h:fp TE N F d T n parts K)(c:∀F',K F'->a F'):fp TE N F d T n parts a:=by
 obtain⟨e,f,h,b⟩:=fC h;refine b _ ?_
 grind [aZ,cZ,iH,ow]
theorem BW{y:Operand}{K a:Bool->(Nat->AV)->List (List C)->Prop}(h:zY F y K)(c:∀b F' xr,K b F' xr->a b F' xr):zY F y a:=by
 unfold zY at h |-;split at h
 all_goals grind [d9,cj,CW]
theorem ze{x:Operand}{K a:(Nat->AV)->List (List C)->Prop}(h:zp F x K)(c:∀F' xr,K F' xr->a F' xr):zp F x a:=by
 obtain⟨d,e,f,b⟩:=cj h;refine b F (CW _ _) _ ?_
 grind [d9]
theorem GW{d T:Nat}{x y:Operand}{K a:(Nat->AV)->Prop}(h:yq TE N F d T x y K)(f:∀F',K F'->a F'):yq TE N F d T x y a:=by
 obtain⟨e,p,h,g⟩:=fC h;refine g _ (BW h λb F' q h=>ze h λF'' c h=>?_);obtain⟨i,j,k,l,n,o⟩:=h.out;exact CN i j k l n rfl (aZ o f)
theorem Bp{d T:Nat}{x:Operand}{K a:(Nat->AV)->Prop}(h:oW TE N F d T x K)(b:∀F',K F'->a F'):oW TE N F d T x a:=by
 unfold oW at h |-;split at h
 all_goals grind [d9,aZ]
theorem EA{d:Nat}{x:Operand}{K b:(Nat->AV)->Prop}(h:iv N F d x K)(c:∀F',K F'->b F'):iv N F d x b:=by
 have std:∀{y:Operand},bp F y (λa=>bA N F d a K)->bp F y (λa=>bA N F d a b):=λh=>yt h λa h=>aZ h c
 cases x with
 | tmp t=>
  simp only[iv]at h |-
  grind [aZ]
 | const v=>grind [iv]
 | global g=>grind [iv]
 | func f=>grind [iv]
theorem EU{d:Nat}{x:Operand}{K a:(Nat->AV)->Prop}(h:so N F d x K)(b:∀F',K F'->a F'):so N F d x a:=by
 unfold so at h |-;split at h
 case h_2=>exact h.elim
 split at h
 all_goals grind [Nt.out,Nt.mk,aZ]
theorem BG{d:Nat}{x:Operand}{K a:(Nat->AV)->Prop}(h:oV N F d x K)(b:∀F',K F'->a F'):oV N F d x a:=by
 unfold oV at h |-
 grind [aZ]
theorem JL{d T:Nat}{x b:Operand}{K c:(Nat->AV)->Prop}(h:Dj TE N F d T x b K)(f:∀F',K F'->c F'):Dj TE N F d T x b c:=by
 unfold Dj at h |-;obtain⟨e,q,h,a⟩:=fC h;refine a _ ?_;obtain⟨n,g,i⟩:=iY h;refine i F (CW _ _) _ (d9 g λF' r t h=>?_);split at h
 case h_2=>exact h.elim
 obtain⟨m,y,j,k,l,o,p,h⟩:=h.out;exact .mk_ ⟨m,y,j,k,l,o,p,_,rfl,aZ h f⟩
theorem Jt{d T:Nat}{x b:Operand}{K c:(Nat->AV)->Prop}(h:DY TE N F d T x b K)(f:∀F',K F'->c F'):DY TE N F d T x b c:=by
 unfold DY at h |-;obtain⟨e,q,h,a⟩:=fC h;refine a _ ?_;obtain⟨n,g,i⟩:=iY h;refine i F (CW _ _) _ (d9 g λF' r t h=>?_);split at h
 case h_2=>exact h.elim
 obtain⟨m,y,j,k,l,o,p,h⟩:=h.out;exact .mk_ ⟨m,y,j,k,l,o,p,_,rfl,aZ h f⟩
theorem By{d:Nat}{b:Op}{K f:(Nat->AV)->Prop}(h:ir P TE N d b K F)(a:∀F',K F'->f F'):ir P TE N d b f F:=by
 cases b with
 | assign x=>exact Lc h a
 | box T x=>grind [sF,aZ,ir,Ke]
 | build T j=>exact DO h a
 | buildSlice T n j=>exact zT h a
 | range T x=>exact Bp h a
 | move x=>exact EA h a
 | next x str=>
  cases str with
  | true=>exact h.elim
  | false=>exact EU h a
 | entry x=>exact BG h a
 | call c=>
  grind [fU,aZ,GW,ir]
 | slice T x g e i=>
  cases g with
  | some g=>
   cases e with
   | some _=>grind [fU,aZ,ir]
   | none=>
    cases i with
    | some _=>grind [fU,aZ,ir]
    | none=>grind [fU,aZ,Jt,ir]
  | none=>
   cases e with
   | none=>grind [fU,aZ,ir]
   | some e=>
    cases i with
    | some _=>grind [fU,aZ,ir]
    | none=>
     grind [fU,aZ,JL,ir]
 | _=>grind [fU,aZ,ir]
theorem dZ{t off n:Nat}{st:cq}{K a:(Nat->AV)->List C->Prop}(h:lendAt F t off st n K)(b:∀F' cs,K F' cs->a F' cs):lendAt F t off st n a:=by
 unfold lendAt at h |-;split at h
 case h_2=>exact h.elim
 split at h
 ·grind [cZ]
 obtain⟨r,j,c,d,e,f⟩:=Lq.out h;refine .mk_ ?_
 grind
theorem cg:∀{xs:List (Operand × Nat)}{K a:(Nat->AV)->List (MA × qo)->Prop}{F:Nat->AV},lendP xs K F->(∀F' l,K F' l->a F' l)->lendP xs a F
 | [],K,a,F,h,b=>b _ _ h
 | (x,0)::xs,K,a,F,h,b=>cg (xs:=xs) h ψ
 | (x,1)::xs,K,a,F,h,b=>by
  simp only[lendP]at h |-;split at h
  case h_2=>exact h.elim
  split at h
  ·exact dZ h λF' c h=>cg h ψ
  ·exact dZ h λF' c h=>cg h ψ
  ·exact dZ h λF' c h=>cg h ψ
  exact h.elim
 | (x,n+2)::xs,K,a,F,h,b=>by
  simp only[lendP]at h |-;split at h
  case h_2=>exact h.elim
  split at h
  ·split at h
   ·exact cg h ψ
   exact h.elim
  ·exact cg h ψ
  exact h.elim
theorem iK:∀{l:List (MA × qo)}{xs:List Operand}{K a:Bool->List MA->Prop},valsP F l xs K->(∀b A,K b A->a b A)->valsP F l xs a
 | [],[],K,a,h,c=>c _ _ h
 | (m,.no)::l,x::xs,K,a,h,c=>by
  obtain⟨f,g,d,e⟩:=cj h;refine e F (CW _ _) _ (iK d λb A h=>?_)
  grind
 | (m,.at_ t off st)::l,x::xs,K,a,h,c=>iK (l:=l) (xs:=xs) h ψ
 | (m,.box t)::l,x::xs,K,a,h,c=>iK (l:=l) (xs:=xs) h ψ
 | [],_::_,K,a,h,c=>h.elim
 | (m,.no)::l,[],K,a,h,c=>h.elim
 | (m,.at_ t off st)::l,[],K,a,h,c=>h.elim
 | (m,.box t)::l,[],K,a,h,c=>h.elim
theorem dc{K b:(Nat->AV)->Prop}(a:∀F',K F'->b F'):∀{l:List (MA × qo)}{B:List MA}{F:Nat->AV},gj l B K F->gj l B b F
 | [],[],F,h=>a _ h
 | [],_::_,F,h=>h.elim
 | (m,.no)::l,[],F,h=>h.elim
 | (m,.at_ t off st)::l,[],F,h=>h.elim
 | (m,.box t)::l,[],F,h=>h.elim
 | (m,.no)::l,.val _ _::B,F,h=>dc a (l:=l) (B:=B) h
 | (m,.no)::l,.mut _ _::B,F,h=>dc a (l:=l) (B:=B) h
 | (m,.no)::l,.ptr _::B,F,h=>dc a (l:=l) (B:=B) h
 | (m,.at_ t off st)::l,.val _ _::B,F,h=>h.elim
 | (m,.at_ t off st)::l,.ptr _::B,F,h=>h.elim
 | (m,.box t)::l,.val _ _::B,F,h=>h.elim
 | (m,.box t)::l,.mut _ _::B,F,h=>h.elim
 | (m,.at_ t off st)::l,.mut ag out::B,F,h=>by
  simp only[gj]at h |-;split at h
  case h_2=>exact h.elim
  split at h
  ·rename_i k c _ _
   cases d:Nat.ble (off+out.length) c.length with
   | false=>grind
   | true=>
    rw[d]at h;simp only[cond_true,cZ]at h |-;exact dc a h
  obtain⟨r,j,e,f,g,i⟩:=Pu.out h;exact Pu.mk e f g rfl (dc a i)
 | (m,.box t)::l,.ptr out::B,F,h=>by
  simp only[gj]at h |-;split at h
  ·exact dc a h
  exact h.elim
theorem Fx{d:Option Nat}{f:Nat}{args:List Operand}{modes:List Nat}{K a:(Nat->AV)->Prop}(h:kA P N F d f args modes K)(j:∀F',K F'->a F'):kA P N F d f args modes a:=by
 unfold kA at h |-;refine cg h λF' l h=>?_
 cases c:(tH l&&Nat.beq args.length modes.length) with
 | false=>grind
 | true=>
  rw[c]at h;refine iK h λb A h=>?_
  obtain⟨n,B,k,rcs,e,g,i⟩:=cy.out h;refine CJ e g (dc (λF'' h=>?_) i)
  grind [aZ]
theorem jS{F:Nat->AV}{x:Operand}{K a:Nat->Nat->Prop}(h:ye F x K)(b:∀t o,K t o->a t o):ye F x a:=by grind [qJ,ye]
theorem HR{d:Option Nat}{t:Nat}{cs:List C}{c a e b:Nat}{K f:(Nat->AV)->Prop}{k:Kd}{rcs:List C}{B:List MA}(h:xk N F d t cs c a e b K k rcs B)(l:∀F',K F'->f F'):xk N F d t cs c a e b f k rcs B:=by
 unfold xk at h |-;split at h
 case h_2=>exact h.elim
 rename_i g i;cases j:(Nat.beq g.length a&&Nat.beq i.length b) with
 | false=>grind
 | true=>
  rw[j]at h;simp only[cond_true,cZ]at h |-
  grind [aZ]
theorem F8{d:Option Nat}{f:Nat}{args:List Operand}{a b:Nat}{K c:(Nat->AV)->Prop}(h:jx P N F d f args a b K)(e:∀F',K F'->c F'):jx P N F d f args a b c:=by
 unfold jx at h |-;split at h
 case h_2=>exact h.elim
 refine jS h λt g h=>jS h λi j h=>?_
 split at h
 all_goals grind [cZ,cy.out,CJ,HR]
theorem ql{d:Option Nat}{f:Nat}{args:List Operand}{modes:List Nat}{K a:(Nat->AV)->Prop}(h:jz P N F d f args modes K)(b:∀F',K F'->a F'):jz P N F d f args modes a:=by grind [F8,Fx,jz]
theorem BT{t off:Nat}{z:Int}{v:Value}{K a:(Nat->AV)->Prop}(h:putMap F t off z v K)(f:∀F',K F'->a F'):putMap F t off z v a:=by
 unfold putMap at h |-;cases b:F t with
 | F k d=>
  rw[b]at h;simp only at h |-;cases e:d[off]? with
  | none=>grind
  | some c=>
   rw[e]at h;cases c with
   | m g=>
    simp only at h |-;have:=h.out;refine Mu.mk rfl ?_
    grind [cZ]
   | _=>exact h.elim
 | _=>grind
theorem tq{T:Nat}{x y v:Operand}{K b:(Nat->AV)->Prop}(h:mO TE F T x y v K)(f:∀F',K F'->b F'):mO TE F T x y v b:=by
 unfold mO at h |-;split at h
 case h_2=>exact h.elim
 obtain⟨z,c,d⟩:=gC h;refine d F (CW F _) _ ?_;obtain⟨g,a,e⟩:=gC c;refine e F (CW F _) _ ?_;split at a
 case h_2=>exact a.elim
 split at a
 all_goals grind [BT]
theorem jt{o:Oper}{K a:(Nat->AV)->Prop}(h:iy P TE N ops o K F)(c:∀F',K F'->a F'):iy P TE N ops o a F:=by
 unfold iy at h |-;refine Fc h (λF h=>?_) (λF h=>?_)
 ·split at h
  ·rename_i p _
   have lt:r8 P N F o.dst p.1 p.2.1 p.2.2 K->r8 P N F o.dst p.1 p.2.1 p.2.2 a:=λh=>ql h λF' h=>by grind [mh]
   cases b:La N o.op with
   | false=>grind
   | true=>
    rw[b]at h;rcases h with h|h
    ·refine .pl ?_
     grind [vA,tq,By,j8]
    exact .lt (lt h)
  grind [vA,tq,By]
 grind [aZ]
theorem An{m:Nat}(a:PD ops m){K:(Nat->AV)->Prop}(hm:m<=ops.size):∀(l:List Oper)(k:Nat)(listed:Array Bool)(F:Nat->AV),(∀j,l[j]? = ops[k+j]?)->listed.size=ops.size->(∀j,j<ops.size->listed.getD j true=decide (j<k))->yG ops m F listed->DC ops listed->
  Kf P TE N ops (m - k) l K F->F9 P TE N ops m K l.length listed F
 | [],k,listed,F,C,L,b,_,_,i=>by
  have D:ops.size<=k:=by
   rcases Nat.lt_or_ge k ops.size with h|h
   ·have:=C 0;simp[h]at this
   exact h
  refine⟨?_,?_⟩
  ·apply List.eq_nil_iff_forall_not_mem.2
   grind [Go.mem_ready]
  cases M:m - k with
  | zero=>rw[M]at i;exact i
  | succ x=>omega
 | o::l,k,listed,F,C,L,b,c,n,i=>by
  have w:ops[k]? = some o:=by simpa using (C 0).symm
  have D:=(C3.1 w).1;have hready:k∈Region.ready .any ops listed:=mem_ready.2 ⟨by rw[b k D];simp,o,w,λe he hb=>by grind [PD.back]⟩;have A:∀j,l[j]? = ops[k+1+j]?:=λj=>by have:=C (j+1);grind
  have r:∀j,j<ops.size->(listed.setIfInBounds k true).getD j true=decide (j<k+1):=λj O=>by
   by_cases y:j=k
   ·simp_all
   rw[getD_set_ne true (Ne.symm y),b j O]
   grind
  show F9 P TE N ops m K (l.length+1) listed F;by_cases f:k<m
  ·have e1:m - k=(m - (k+1))+1:=ω
   rw[e1]at i;obtain⟨mv,d,av,Q,i⟩:=oE (show kh P TE N ops o (Kf P TE N ops (m - (k+1)) l K) F from i) (λd hd=>c.dst k o d f w (by rw[b k D];simp) hd) (λT s R S U=>c.mv k o T s f w (by rw[b k D];simp) R S U);refine H8 a w f l.length listed F hready c n Q (An a hm l (k+1) _ _ A (by simpa using L) r (c.put (λE G H p u q hl'' B=>?_) (λE G T s p u q hl'' R S U=>?_)) (n.put hready) i)
   ·cases V:av.uses H with
    | false=>rfl
    | true=>
     rcases Q.from_ H V with h|⟨t,_,h⟩
     ·have:=a.look E k G o H p f u q w B h
      grind [ce,PD.back]
     rw[c.dst E G H p q hl'' B t]at h;cases h
   cases V:av.uses s with
   | false=>rfl
   | true=>
    rcases Q.from_ s V with h|⟨t,_,h⟩
    ·grind [fw,cM]
    rw[c.mv E G T s p q hl'' R S U t]at h;cases h
  refine⟨ψ,λj O=>?_⟩;have y:j=k:=by
   obtain⟨h1,oj,W,hall⟩:=mem_ready.1 O;have g:=(C3.1 W).1;rw[b j g]at h1;simp at h1;rcases Nat.lt_or_ge k j with X|hge
   ·exfalso
    have h2:=mV n a.back (a.tail j ω g k X) g λk' hk'=>by grind [bn,ce]
    grind
   omega
  subst y;unfold wH;rw[w];simp only[C9 f];have e0:m - j=0:=ω
  rw[e0]at i;have hp':iy P TE N ops o (HY P TE N ops l K) F:=i;have Y:∀J,HY P TE N ops l K J->F9 P TE N ops m K l.length (listed.setIfInBounds j true) J:=λJ Z=>
   An a hm l (j+1) _ J A (by simpa using L) r ⟨ψ,ψ⟩ (n.put hready) (by rw[show m - (j+1)=0 by omega];cases l<;>exact Z)
  grind [jt]
theorem St.clr(h:St w0 M S0 N F a w)(ds:List Nat):St w0 M S0 N (Ab.clr ds F) a w:=by
 obtain⟨S,φ,h⟩:=h;refine⟨S,φ,λt=>?_,h.dis,h.disS,h.ex,h.sub,h.sup,h.old,h.size,h.defers,h.par⟩;rw[zW];cases b:ds.any (λd=>(F t).uses d) with
 | true=>trivial
 | false=>
  simp only[cond_false];refine(h.slot t).keep (φ:=φ) (λt _ _ _=>h.slot t) (λc _=>⟨λk e f=>?_,rfl,λ_ _ _=>⟨rfl,rfl⟩⟩) (λ_ _ _=>⟨rfl,rfl⟩) (λ_ _ _=>⟨rfl,rfl⟩) (λ_ _ h=>h) (λ_ _ h=>h)
  grind [zW,AV.uses]
theorem Ao(g:∀t i,TE t=some i->gg P t i)(E:P.follows .mixedOrders=true){id m:Nat}{ds:List Nat}(b:((Nat.ble m ops.size&&below m λj=>match(dh ops j).dst with|some d=>ds.any (Nat.beq d)|none=>true)&&zV ops m)=true){K:(Nat->AV)->Prop}{Q:Exit->Act->World->Prop}(G:Kf P TE N ops m ops.toList K (Ab.clr ds F))(H:St w0 M S0 N F a w)(J:∀F' u y,K F'->St w0 M S0 N F' u y->Q .normal u y):(Code.region id ops true).wp P Q a w:=by
 simp only[I0]at b;obtain⟨⟨A,L⟩,b⟩:=b;have c:m<=ops.size:=by simp_all
 refine wp_region_any E ?_;have l:St w0 M S0 N (Ab.clr ds F) a {w with drawn:=w.drawn+1}:=by
  have O:=H.clr ds;obtain⟨S,φ,h⟩:=O;exact⟨S,φ,h.more (w1:={w with drawn:=w.drawn+1}) (λ_ _ h=>h) ψ ⟨rfl,rfl,rfl,U2 _,λ_ _ _=>rfl,λ_ _ _ _=>rfl,λ_ _ _ _=>rfl⟩⟩
 refine y8 g (m:=m) J ops.size (Array.replicate ops.size false) _ a _ ?_ l;have R:∀d,ds.any (Nat.beq d)=true->∀t,(Ab.clr ds F t).uses d=false:=λd U t=>by
  rw[zW];cases Z:ds.any (λd=>(F t).uses d) with
  | true=>rfl
  | false=>
   simp_all
 have B:∀j o d,j<m->ops[j]? = some o->o.dst=some d->ds.any (Nat.beq d)=true:=λj o d f C U=>by grind [fN,bn]
 have D:=Bh b;have:=An (P:=P) (TE:=TE) (N:=N) D (K:=K) c ops.toList 0 (Array.replicate ops.size false) (Ab.clr ds F) (by simp) (by simp) (λj f=>by simp[f]) ⟨ψ,λj o T s f C _ _ _ V t=>by
   obtain⟨k,ok,n,W,X⟩:=(fw V).1;obtain⟨e,p,q,rfl⟩:=ce.1 n;have:=D.back j o C e p q
   grind⟩ (λj oj f Y=>by
   have r:=(C3.1 f).1;simp[r]at Y) G
 simpa using this
end
section
variable{P:Program}{w0 w w1:World}{M S0 S:ab}{N:dU}{φ:Nat->ab}{F:Nat->AV}{a:Act}{TE:Nat->Option TI}{ops:Array Oper}{ds:List Nat}{nm:Nat->Bool}
def PH(P:Program)(TE:Nat->Option TI)(ops:Array Oper)(p:Nat)(F:Nat->AV):Prop:=∃d,(dh ops p).dst=some d/\Gw F (dh ops p)=none/\cS P TE F (dh ops p).op λa=>a=F d
def tD(P:Program)(TE:Nat->Option TI)(N:dU)(ops:Array Oper)(ds:List Nat)(listed:Array Bool)(i:Nat)(K:(Nat->AV)->Prop)(F:Nat->AV):Prop:=
 match ops[i]? with
 | none=>K F
 | some o=>if oZ ds o=true then kh P TE N ops o K F else iy P TE N ops o (λa=>(∀p,listed.getD p false=true->oZ ds (dh ops p)=true->ur ops i p=false->PH P TE ops p a)/\K a) F
def BZ(P:Program)(TE:Nat->Option TI)(N:dU)(ops:Array Oper)(ds:List Nat)(K:(Nat->AV)->Prop):Nat->Array Bool->(Nat->AV)->Prop
 | 0,listed,F=>Region.ready .any ops listed=[]/\K F
 | fuel+1,listed,F=>(Region.ready .any ops listed=[]->K F)/\∀i,i∈Region.ready .any ops listed->tD P TE N ops ds listed i (BZ P TE N ops ds K fuel (listed.setIfInBounds i true)) F
theorem Eg(c:∀t i,TE t=some i->gg P t i){listed:Array Bool}{i:Nat}{K:(Nat->AV)->Prop}(b:tD P TE N ops ds listed i K F)(g:St w0 M S0 N F a w){Kc:Act->World->Prop}{Q:Exit->Act->World->Prop}(d:∀F' e f,K F'->St w0 M S0 N F' e f->Kc e f):wpOp P ops Q i Kc a w:=by
 unfold tD at b;unfold wpOp;cases j:ops[i]? with
 | none=>grind
 | some o=>
  rw[j]at b;simp only at b |-;obtain⟨S,φ,h⟩:=g;have:if Region.wanted o (yielded ops a.tmps) then o.wp P a w Kc Q else Kc (a.put o.dst undef) w:=by
   split at b
   ·exact h.oneP c b d
   exact h.one c (jt b λF' h=>h.2) d
  grind
def pV(b:∀t i,TE t=some i->gg P t i){K:(Nat->AV)->Prop}{Q:Exit->Act->World->Prop}(g:∀F' d e,K F'->St w0 M S0 N F' d e->Q .normal d e) :
  ∀(fuel:Nat)(listed:Array Bool)(F:Nat->AV)(a:Act)(w:World),BZ P TE N ops ds K fuel listed F->St w0 M S0 N F a w->wpAny P .any ops Q fuel listed a w
 | 0,_,F,a,w,c,f=>⟨c.1,g F a w c.2 f⟩
 | fuel+1,_,F,a,w,c,f=>⟨λj=>g F a w (c.1 j) f,λi k=>Eg b (c.2 i k) f λF' d e l h=>pV b g fuel _ F' d e l h⟩
def bL(ts:List Nat)(F F1:Nat->AV):Prop:=∀t e,(F1 t).uses e=true->e∈ts\/∃a,(F a).uses e=true
theorem bL.refl(ts:List Nat)(F:Nat->AV):bL ts F F:=λt _ h=>.inr ⟨t,h⟩
theorem bL.trans{ts:List Nat}{F F1 a:Nat->AV}(h1:bL ts F F1)(b:bL ts F1 a):bL ts F a:=λt e h=>by
 rcases b t e h with h|⟨c,h⟩
 ·exact .inl h
 exact h1 c e h
theorem bL.clean{ts:List Nat}{F1:Nat->AV}{d:Nat}(h:bL ts F F1)(b:d∉ts)(c:∀t,(F t).uses d=false):∀t,(F1 t).uses d=false:=λt=>by
 cases a:(F1 t).uses d with
 | false=>rfl
 | true=>
  rcases h t d a with h|⟨e,h⟩
  all_goals grind
theorem bL.put{ts:List Nat}{dj:Nat}{av:AV}(h:∀e,av.uses e=true->e∈ts\/∃b,(F b).uses e=true):bL ts F (put F dj av):=λt e a=>by
 by_cases c:t=dj
 ·grind [oe]
 rw[gX _ _ c]at a;exact .inr ⟨t,(Mw a).1⟩
theorem JT{t e:Nat}{v:AV}(h:(r9 t v).uses e=true):v.uses e=true:=by
 cases v with
 | c3 a b d f=>simp only[r9]at h;cases c:Nat.beq a t<;>rw[c]at h<;>first|exact h|cases h
 | ref a b d=>cases d<;>simp only[r9]at h<;>first|exact h|(cases c:Nat.beq a t<;>rw[c]at h<;>first|exact h|cases h)
 | _=>exact h
theorem bL.updH{ts:List Nat}{t:Nat}{k:Kd}{cs:List C} : bL ts F (updH F t k cs):=λs e a=>by
 unfold Ab.updH at a;cases b:Nat.beq s t with
 | true=>rw[b]at a;cases a
 | false=>grind [JT]
theorem Kl{t e:Nat}{v:AV}(h:(LX t v).uses e=true):v.uses e=true:=by
 cases v with
 | c3 a b d f=>simp only[LX]at h;cases c:Nat.beq a t<;>rw[c]at h<;>first|exact h|cases h
 | ref a b d=>simp only[LX]at h;cases c:Nat.beq a t<;>rw[c]at h<;>first|exact h|cases h
 | _=>exact h
theorem bL.kill{ts:List Nat}{t:Nat} : bL ts F (kill F t):=λs e a=>by
 unfold Ab.kill at a;cases b:Nat.beq s t with
 | true=>rw[b]at a;cases a
 | false=>grind [Kl]
theorem bX{d t:Nat}{av:AV}(h:t≠d):eff none d av F t=F t:=by grind [eff]
theorem lb{d:Nat}{a:Option Nat}{av:AV} : eff a d av F d=av:=by grind [eff]
theorem L8{d:Nat} : eff none d (F d) F=F:=by grind [lb,bX]
theorem kv{d:Nat}{av:AV}{ts:List Nat}(a:d∉ts)(b:∀t,(F t).uses d=false):gk (eff none d av F) F ts:=λt c=>by grind [bX]
theorem NZ{d dj:Nat}{v av:AV}(a:dj≠d):put (eff none d v F) dj av=eff none d (kl dj v) (put F dj av):=by grind [oe,bX,gX,lb]
theorem ml{d t:Nat}{b:Kd}{v:AV}{a:List C}(c:t≠d):updH (eff none d v F) t b a=eff none d (r9 t v) (updH F t b a):=by grind [lb,Nat.beq_eq,bX,updH]
theorem wn{d t:Nat}{b:Kd}{a:List C}(c:t≠d):updH F t b a d=r9 t (F d):=by grind [Nat.beq_eq,updH]
theorem Gf{d t:Nat}{b:Kd}{v:AV}{a:List C}(c:t≠d):updN (eff none d v F) t b a=eff none d (LV t v) (updN F t b a):=by grind [lb,Nat.beq_eq,bX,updN]
theorem Bx{d t:Nat}{b:Kd}{a:List C}(c:t≠d):updN F t b a d=LV t (F d):=by grind [Nat.beq_eq,updN]
theorem JP{t e:Nat}{v:AV}(h:(LV t v).uses e=true):v.uses e=true:=by
 cases v with
 | c3 b c a f=>
  cases a with
  | nil=>exact h
  | cons s a=>simp only[LV]at h;cases d:Nat.beq b t<;>rw[d]at h<;>first|exact h|cases h
 | ref b c a=>
  cases a with
  | nil=>exact h
  | cons s a=>simp only[LV]at h;cases d:Nat.beq b t<;>rw[d]at h<;>first|exact h|cases h
 | _=>exact h
theorem bL.updN{ts:List Nat}{t:Nat}{k:Kd}{cs:List C} : bL ts F (updN F t k cs):=λs e a=>by
 unfold Ab.updN at a;cases b:Nat.beq s t with
 | true=>rw[b]at a;cases a
 | false=>grind [JP]
def Fq(d:Nat)(ts:List Nat)(v:AV)(F:Nat->AV)(K:(Nat->AV)->Prop)(F1:Nat->AV):Prop:=∃a,(v=F d->a=F1 d)/\K (eff none d a F1)/\bL ts F F1
def Q0(d:Nat)(ts:List Nat)(v:AV)(F:Nat->AV)(K:(Nat->AV)->Option Nat->List C->Prop)(F1:Nat->AV)(ag:Option Nat)(cs:List C):Prop:=∃a,(v=F d->a=F1 d)/\K (eff none d a F1) ag cs/\bL ts F F1
def Fq.trans{d:Nat}{ts:List Nat}{v v1:AV}{F1 a:Nat->AV}{K:(Nat->AV)->Prop}(h1:v=F d->v1=F1 d)(b:bL ts F F1)(h:Fq d ts v1 F1 K a):Fq d ts v F K a:=by
 obtain⟨c,f,g,i⟩:=h;exact⟨c,λe=>f (h1 e),g,b.trans i⟩
theorem f9{d dj:Nat}{ts:List Nat}{v av:AV}{K:(Nat->AV)->Prop}(h:bA N (eff none d v F) dj av K)(a:dj≠d)(b:∀e,av.uses e=true->e∈ts\/∃c,(F c).uses e=true):bA N F dj av (Fq d ts v F K):=by
 unfold bA at h |-;cases f:(N.free dj&&!av.uses dj) with
 | false=>grind
 | true=>
  rw[f]at h;simp only[cond_true]at h |-;rw[NZ a]at h;exact⟨kl dj v,λe=>by grind [gX],h,bL.put b⟩
def gz{ts:List Nat}{k:Kd}{cs:List C} : ∀e,(AV.F k cs).uses e=true->e∈ts\/∃a,(F a).uses e=true:=λe h=>by cases h
theorem A7{p:(Nat->AV)->(AV->Prop)->Prop}{d dj:Nat}{v:AV}{ts0 ts:List Nat}{K:(Nat->AV)->Prop}(h:ng p (eff none d v F) ts0 λav=>bA N (eff none d v F) dj av K)(a:dj≠d)(j:∀t,t∈ts0->t∈ts)(k:d∉ts)(b:∀t,(F t).uses d=false) :
  p F λav=>bA N F dj av (Fq d ts v F K):=by
 obtain⟨av,c,f,g⟩:=h;refine g F (kv ψ b) _ (f9 c a λe i=>?_);rcases f e i with h|⟨t,l,h⟩
 all_goals grind [bX]
theorem mi{d:Nat}{ts:List Nat}{v:AV}{y:Operand}{K:(Nat->AV)->Option Nat->List C->Prop}(h:fB (eff none d v F) y K)(n:d∉tm y)(o:∀t,(F t).uses d=false):fB F y (Q0 d ts v F K):=by
 have fin:∀{t:Nat}{k:Kd}{b:List C}{a:Option Nat}{xs:List C},t≠d->K (updH (eff none d v F) t k b) a xs->Q0 d ts v F K (updH F t k b) a xs:=fun {t k b a xs} c h=>by
  rw[ml c]at h;exact⟨_,λe=>by rw[wn c,e],h,bL.updH⟩
 have x6:∀{t:Nat}{k:Kd}{b:List C}{a:Option Nat}{xs:List C},t≠d->K (updN (eff none d v F) t k b) a xs->Q0 d ts v F K (updN F t k b) a xs:=fun {t k b a xs} c h=>by
  rw[Gf c]at h;exact⟨_,λe=>by rw[Bx c,e],h,bL.updN⟩
 cases y with
 | tmp t=>
  have c:t≠d:=λe=>n (by simp[tm,e])
  simp only[fB]at h |-;rw[bX c]at h;cases g:F t with
  | F p q=>
   grind
  | c3 i u l a=>
   rw[g]at h;have w:i≠d:=λe=>by have:=o t;rw[g,e]at this;simp[AV.uses]at this
   cases l with
   | cons s l=>
    simp only at h |-;rw[bX w]at h;cases f:F i with
    | F p q=>
     rw[f]at h;obtain⟨r,j,A,B,D,E⟩:=Lq.out h;exact .mk_ ψ
    | _=>grind
   | nil=>
    grind [bX]
  | _=>grind
 | _=>exact h.elim
theorem MT{d:Nat}{ts:List Nat}{v:AV}{y:Operand}{K:(Nat->AV)->Option Nat->List C->Prop}(h:tF (eff none d v F) y K)(b:d∉tm y)(c:∀t,(F t).uses d=false):tF F y (Q0 d ts v F K):=by
 obtain⟨i,xs,a,f⟩:=cj h;refine f F (kv b c) _ ?_;cases g:aW xs with
 | true=>rw[g]at a;exact⟨v,λe=>e,a,bL.refl _ _⟩
 | false=>grind [mi]
def QR(d:Nat)(ts:List Nat)(v:AV)(F:Nat->AV)(K:(Nat->AV)->List C->Prop)(F1:Nat->AV)(cs:List C):Prop:=∃a,(v=F d->a=F1 d)/\K (eff none d a F1) cs/\bL ts F F1
theorem xn{d:Nat}{ts:List Nat}{c:Nat->Option (Nat × Nat)}(a:d∉ts):∀{parts:List (Nat × Operand)}{cs:List C}{K:(Nat->AV)->List C->Prop}{F:Nat->AV}{v:AV},fillW c parts cs K (eff none d v F)->(∀p,p∈parts->d∉tm p.2)->(∀t,(F t).uses d=false)->
  fillW c parts cs (QR d ts v F K) F
 | [],cs,K,F,v,h,_,b=>⟨v,λe=>e,h,bL.refl _ _⟩
 | p::rest,cs,K,F,v,h,r,b=>by
  simp only[fillW]at h |-;split at h
  case h_2=>exact h.elim
  rename_i q u;refine sF (MT (ts:=ts) h ψ b) λw y xs h=>?_
  obtain⟨A,g,h,f⟩:=h;cases i:(Nat.beq xs.length q.2&&Nat.ble (q.1+q.2) cs.length) with
  | false=>grind
  | true=>
   rw[i]at h;simp only[cond_true,cZ]at h |-;refine iH (xn a h ψ (f.clean a b)) λB cs2 j=>?_
   obtain⟨k,l,n,o⟩:=j;exact⟨k,λe=>l (g e),n,f.trans o⟩
theorem HP{d dj T:Nat}{ts:List Nat}{v:AV}{parts:List (Nat × Operand)}{K:(Nat->AV)->Prop}(h:jJ TE N (eff none d v F) dj T parts K)(a:dj≠d)(b:d∉ts)(c:∀p,p∈parts->d∉tm p.2)(e:∀t,(F t).uses d=false) :
  jJ TE N F dj T parts (Fq d ts v F K):=by
 unfold jJ at h |-;split at h
 case h_2=>exact h.elim
 rename_i size bytes zero flds k;cases f:zX TE flds with
 | false=>grind
 | true=>
  rw[f]at h;refine iH (xn b h c e) λl n h=>?_
  obtain⟨o,g,h,i⟩:=h;exact aZ (f9 (ts:=ts) h a gz) λq j=>Fq.trans g i j
theorem FJ{d dj T n:Nat}{ts:List Nat}{v:AV}{parts:List (Nat × Operand)}{K:(Nat->AV)->Prop}(h:fp TE N (eff none d v F) dj T n parts K)(a:dj≠d)(c:d∉ts)(f:∀p,p∈parts->d∉tm p.2)(g:∀t,(F t).uses d=false) :
  fp TE N F dj T n parts (Fq d ts v F K):=by
 unfold fp at h |-;obtain⟨e,i,h,b⟩:=fC h;refine b _ ?_;cases j:Nat.ble (n*i.size) 16777216 with
 | false=>grind
 | true=>
  rw[j]at h;simp only[cond_true]at h |-;cases n with
  | zero=>
   cases parts with
   | nil=>exact f9 h a gz
   | cons=>exact h.elim
  | succ n=>
   simp only[cZ]at h |-;refine iH (xn c h f g) λq r h=>?_
   obtain⟨u,k,h,l⟩:=h;rw[ow]at h |-;exact aZ (f9 (ts:=ts) h a gz) λw o=>Fq.trans k l o
theorem J3{d dj t:Nat}{ts:List Nat}{v:AV}{K:(Nat->AV)->Prop}(h:iv N (eff none d v F) dj (.tmp t) K)(a:dj≠d)(c:d∉ts)(l:t∈ts)(g:∀t,(F t).uses d=false):iv N F dj (.tmp t) (Fq d ts v F K):=by
 have b:t≠d:=ψ
 have std:bp (eff none d v F) (.tmp t) (λf=>bA N (eff none d v F) dj f K)->bp F (.tmp t) (λf=>bA N F dj f (Fq d ts v F K)):=λh=>
  A7 (p:=λF K=>bp F (.tmp t) K) (jh h) a (λn o=>by grind [tm]) c g
 simp only[iv]at h |-;rw[bX b]at h;split at h
 ·rename_i i xs q
  cases j:aW xs with
  | true=>grind [f9]
  | false=>
   rw[j]at h;simp only[cond_false]at h |-;rw[ml b]at h;exact aZ (f9 (ts:=ts) h a gz) λr k=>Fq.trans (F1:=updH F t (.tup i) _) (λe=>by grind [wn]) bL.updH k
 all_goals exact std h
theorem PC{d dj T:Nat}{ts:List Nat}{v:AV}{x b:Operand}{K:(Nat->AV)->Prop}(h:Dj TE N (eff none d v F) dj T x b K)(c:dj≠d)(f:d∉tm x)(g:d∉tm b)(j:∀t,(F t).uses d=false):Dj TE N F dj T x b (Fq d ts v F K):=by
 unfold Dj at h |-;obtain⟨e,A,h,a⟩:=fC h;refine a _ ?_;obtain⟨n,k,i⟩:=iY h;refine i F (kv g j) _ ?_;refine d9 (mi (ts:=ts) k f j) λB C D h=>?_
 obtain⟨E,l,h,o⟩:=h;split at h
 case h_2=>exact h.elim
 obtain⟨m,y,p,q,r,u,w,h⟩:=h.out;exact .mk_ ⟨m,y,p,q,r,u,w,_,rfl,aZ (f9 (ts:=ts) h c gz) λG i=>Fq.trans l o i⟩
theorem Ps{d dj T:Nat}{ts:List Nat}{v:AV}{x b:Operand}{K:(Nat->AV)->Prop}(h:DY TE N (eff none d v F) dj T x b K)(c:dj≠d)(f:d∉tm x)(g:d∉tm b)(j:∀t,(F t).uses d=false):DY TE N F dj T x b (Fq d ts v F K):=by
 unfold DY at h |-;obtain⟨e,A,h,a⟩:=fC h;refine a _ ?_;obtain⟨n,k,i⟩:=iY h;refine i F (kv g j) _ ?_;refine d9 (mi (ts:=ts) k f j) λB C D h=>?_
 obtain⟨E,l,h,o⟩:=h;split at h
 case h_2=>exact h.elim
 obtain⟨m,y,p,q,r,u,w,h⟩:=h.out;exact .mk_ ⟨m,y,p,q,r,u,w,_,rfl,aZ (f9 (ts:=ts) h c gz) λG i=>Fq.trans l o i⟩
theorem GZ{d dj:Nat}{ts:List Nat}{v:AV}{x:Operand}{K:(Nat->AV)->Prop}(h:jM N (eff none d v F) dj x K)(a:dj≠d)(j:d∉ts)(k:∀t,t∈tm x->t∈ts)(o:∀t,(F t).uses d=false):jM N F dj x (Fq d ts v F K):=by
 have l:∀y,(∀t,t∈tm y->t∈ts)->bp (eff none d v F) y (λn=>bA N (eff none d v F) dj n K)->bp F y (λn=>bA N F dj n (Fq d ts v F K)):=λy q h=>A7 (p:=λF K=>bp F y K) (jh h) a q j o
 have A:∀y,(∀t,t∈tm y->t∈ts)->fB (eff none d v F) y (λb e i=>bA N b dj (.F (kC e) i) K)->fB F y (λb e i=>bA N b dj (.F (kC e) i) (Fq d ts v F K)):=λy q h=>
  d9 (mi (ts:=ts) h ψ o) λb e i h=>by
   obtain⟨B,r,h,u⟩:=h;exact aZ (f9 (ts:=ts) h a gz) λC w=>Fq.trans r u w
 cases x with
 | tmp t=>
  grind [bX,tm,jM]
 | const c=>exact l (.const c) k h
 | global g=>exact l (.global g) k h
 | func f=>exact l (.func f) k h
theorem Ax{d t:Nat}{v:AV}(a:t≠d):kill (eff none d v F) t=eff none d (LX t v) (kill F t):=by grind [lb,kw,bX,oS]
theorem Pq{d dj:Nat}{ts:List Nat}{v:AV}{x:Operand}{K:(Nat->AV)->Prop}(h:AX N (eff none d v F) dj x K)(a:dj≠d)(c:d∉ts)(j:∀t,t∈tm x->t∈ts)(l:∀t,(F t).uses d=false):AX N F dj x (Fq d ts v F K):=by
 have f:DX N (eff none d v F) dj x=DX N F dj x:=by
  cases x with
  | tmp t=>
   grind [bX,tm,DX]
  | _=>rfl
 unfold AX at h |-;cases b:KR N dj x with
 | true=>
  rw[b]at h;simp only[cond_true]at h |-;exact f9 (ts:=ts) h a gz
 | false=>
 rw[b]at h;simp only[cond_false]at h |-;unfold Gy at h |-;rw[f]at h;cases i:DX N F dj x with
 | none=>grind [GZ]
 | some p=>
  rw[i]at h;simp only at h |-;obtain⟨rfl,n⟩:=yv i;have g:p.1≠d:=λe=>c (e ▸ j p.1 (by simp[tm]))
  rw[Ax g]at h;exact aZ (f9 (ts:=ts) h a gz) λo k=>Fq.trans (F1:=kill F p.1) (λe=>by grind [kw]) bL.kill k
theorem FX{d:Nat}{ts:List Nat}{v:AV}{x:Operand}{cs:List C}{K:(Nat->AV)->Prop}(h:pD (eff none d v F) x cs K)(l:d∉tm x)(n:∀t,(F t).uses d=false):pD F x cs (Fq d ts v F K):=by
 have fin:∀{t:Nat}{k:Kd}{cs:List C},t≠d->K (updH (eff none d v F) t k cs)->Fq d ts v F K (updH F t k cs):=fun {t k cs} a h=>by
  rw[ml a]at h;exact⟨_,λe=>by rw[wn a,e],h,bL.updH⟩
 have x6:∀{t:Nat}{k:Kd}{cs:List C},t≠d->K (updN (eff none d v F) t k cs)->Fq d ts v F K (updN F t k cs):=fun {t k cs} a h=>by
  rw[Gf a]at h;exact⟨_,λe=>by rw[Bx a,e],h,bL.updN⟩
 have finP:∀{t:Nat}{k:Kd}{cs:List C},t≠d->K (M1 (eff none d v F) t k cs)->Fq d ts v F K (M1 F t k cs):=fun {t k cs} a h=>by
  cases k with
  | box=>exact fin a h
  | _=>exact x6 a h
 cases x with
 | tmp t=>
  have a:t≠d:=λe=>l (by simp[tm,e])
  simp only[pD]at h |-;rw[bX a]at h;cases c:F t with
  | F k o=>
   grind [cZ]
  | ref f p g=>
   rw[c]at h;have i:f≠d:=λe=>by have:=n t;rw[c,e]at this;simp[AV.uses]at this
   cases g with
   | cons s g=>
    simp only at h |-;rw[bX i]at h;cases b:F f with
    | F k o=>
     rw[b]at h;obtain⟨r,j,q,u,w,y⟩:=Pu.out h;exact Pu.mk q u w rfl (finP i y)
    | _=>grind
   | nil=>
    grind [bX,cZ]
  | _=>grind
 | _=>exact h.elim
theorem JF{d T:Nat}{ts:List Nat}{v:AV}{x y:Operand}{K:(Nat->AV)->Prop}(h:lB TE (eff none d v F) T x y K)(b:d∉ts)(n:d∉tm x)(j:d∉tm y)(c:∀t,(F t).uses d=false):lB TE F T x y (Fq d ts v F K):=by
 unfold lB at h |-;split at h
 ·rename_i i r
  obtain⟨u,k,a,e⟩:=cj h;refine e F (kv j c) _ ?_;cases o:Nat.beq k.length i.size with
  | false=>grind
  | true=>
   rw[o]at a;simp only[cond_true]at a |-;cases p:aW k with
   | true=>grind [FX]
   | false=>
    rw[p]at a;simp only[cond_false]at a |-;refine d9 (mi (ts:=ts) a j c) λw q f h=>?_
    obtain⟨A,a,h,l⟩:=h;cases g:Nat.beq f.length i.size with
    | false=>grind
    | true=>rw[g]at h;exact y9 (FX (ts:=ts) h n (l.clean b c)) λB e=>Fq.trans a l e
 exact h.elim
def Pt{d:Nat}{v:AV}{y:Operand}(a:d∉tm y):lY (eff none d v F) y=lY F y:=by
 cases y with
 | tmp t=>exact bX λe=>a (by simp[tm,e])
 | _=>rfl
theorem P7{d:Nat}{ts:List Nat}{v:AV}{y:Operand}{K:Bool->(Nat->AV)->List (List C)->Prop}(h:zY (eff none d v F) y K)(b:d∉tm y)(c:∀t,(F t).uses d=false):zY F y λe F1 rows=>∃v1,(v=F d->v1=F1 d)/\K e (eff none d v1 F1) rows/\bL ts F F1:=by
 have a:=Pt (F:=F) (v:=v) b;unfold zY at h |-;rw[a]at h;split at h
 ·refine d9 (mi (ts:=ts) h b c) λF1 f g h=>?_
  obtain⟨v1,i,h,j⟩:=h
  grind
 grind [cj,kv,bL.refl]
theorem Nf{d:Nat}{ts:List Nat}{v:AV}{y:Operand}{K:(Nat->AV)->List (List C)->Prop}(h:zp (eff none d v F) y K)(b:d∉tm y)(c:∀t,(F t).uses d=false):zp F y λF1 rows=>∃v1,(v=F d->v1=F1 d)/\K (eff none d v1 F1) rows/\bL ts F F1:=by
 obtain⟨e,xs,a,f⟩:=cj h;refine f F (kv b c) _ ?_;split at a
 ·grind [bL.refl]
 ·refine d9 (mi (ts:=ts) a b c) λF1 e g h=>?_
  obtain⟨v1,a,h,i⟩:=h
  grind
 exact a.elim
theorem Mo{d dj T:Nat}{ts:List Nat}{v:AV}{x y:Operand}{K:(Nat->AV)->Prop}(h:yq TE N (eff none d v F) dj T x y K)(b:dj≠d)(c:d∉ts)(j:d∉tm x)(k:d∉tm y)(f:∀t,(F t).uses d=false):yq TE N F dj T x y (Fq d ts v F K):=by
 obtain⟨e,B,h,a⟩:=fC h;refine a _ (BW (P7 (ts:=ts) h k f) λC D E h=>?_);obtain⟨G,l,h,g⟩:=h;refine ze (Nf (ts:=ts) h j (g.clean c f)) λH i h=>?_
 obtain⟨J,n,h,o⟩:=h;obtain⟨p,q,r,u,w,h⟩:=Ap.out h;refine CN p q r u w rfl (aZ (f9 (ts:=ts) h b gz) λL A=>?_);exact Fq.trans l g (Fq.trans n o A)
theorem Lj{f:Oper}{d:Nat}{v:AV}{K:(Nat->AV)->Prop}(E:f.guard=none)(g:NG f.op=true)(k:f.dst≠some d)(A:d∉f.looksAt ops)(B:∀t,(F t).uses d=false)(h:iy P TE N ops f K (eff none d v F)) :
  iy P TE N ops f (Fq d (f.looksAt ops) v F K) F:=by
 unfold iy eN at h |-;rw[E]at h |-;simp only at h |-;have j:∀t,t∈di f.op->t∈f.looksAt ops:=λt l=>gG f t l
 have pur:∀b,b≠d->cS P TE (eff none d v F) f.op (λq=>bA N (eff none d v F) b q K)->cS P TE F f.op λq=>bA N F b q (Fq d (f.looksAt ops) v F K):=λb k h=>
  A7 (p:=λF K=>cS P TE F f.op K) (jr h) k j A B
 have dne:∀b,f.dst=some b->b≠d:=ψ
 have tmI:∀x,x∈f.op.operands.toList->∀t,t∈tm x->t∈f.looksAt ops:=λx G t l=>j t (List.mem_flatMap.2 ⟨x,G,l⟩)
 cases e:f.op with
 | store T x y=>
  rw[e]at h tmI;simp only[xM]at h |-;cases a:f.dst with
  | some b=>rw[a]at h;simp only[ir]at h;exact h.elim
  | none=>
   grind [JF,Go.Op.operands]
 | move x=>
  rw[e]at h tmI;cases a:f.dst with
  | none=>rw[a]at h;exact h.elim
  | some b=>
   rw[a]at h;cases x with
   | tmp t=>
    simp only[xM,ir]at h |-;exact J3 h (dne b a) A (tmI (.tmp t) (by simp[Op.operands]) t (by simp[tm])) B
   | _=>rw[e]at g;cases g
 | assign x=>
  rw[e]at h tmI
  grind [Pq,xM,ir,Go.Op.operands]
 | build T H=>
  rw[e]at h tmI
  grind [HP,xM,ir,Go.Op.operands]
 | buildSlice T n H=>
  rw[e]at h tmI
  grind [FJ,xM,ir,Go.Op.operands]
 | extract x i=>rw[e]at h pur;cases a:f.dst with|none=>rw[a]at h;exact h.elim|some b=>rw[a]at h;exact pur b (dne b a) h
 | load T x=>rw[e]at h pur;cases a:f.dst with|none=>rw[a]at h;exact h.elim|some b=>rw[a]at h;exact pur b (dne b a) h
 | fieldAddr T x i=>rw[e]at h pur;cases a:f.dst with|none=>rw[a]at h;exact h.elim|some b=>rw[a]at h;exact pur b (dne b a) h
 | field T x i=>rw[e]at h pur;cases a:f.dst with|none=>rw[a]at h;exact h.elim|some b=>rw[a]at h;exact pur b (dne b a) h
 | binOp o T x y L=>rw[e]at h pur;cases a:f.dst with|none=>rw[a]at h;exact h.elim|some b=>rw[a]at h;exact pur b (dne b a) h
 | unOp o T x=>rw[e]at h pur;cases a:f.dst with|none=>rw[a]at h;exact h.elim|some b=>rw[a]at h;exact pur b (dne b a) h
 | call c=>
  rw[e]at g h tmI;cases J:pk c with
  | none=>grind [NG]
  | some p=>
   have r:=vd J;subst r;cases a:f.dst with
   | none=>rw[a]at h;exact h.elim
   | some b=>
    grind [Mo,xM,ir,Go.Op.operands,Go.Call.operands]
 | slice T x C u D=>
  rw[e]at g h tmI pur;cases C with
  | some C=>
   cases u with
   | some _=>cases g
   | none=>
    cases D with
    | some _=>cases g
    | none=>
     cases a:f.dst with
     | none=>rw[a]at h;exact h.elim
     | some b=>
      rw[a]at h;simp only[xM,ir]at h |-;cases w:PS N b with
      | false=>simp_all
      | true=>
       grind [Ps,Go.Op.operands]
  | none=>
   cases u with
   | none=>cases g
   | some u=>
    cases D with
    | some _=>cases g
    | none=>
     cases a:f.dst with
     | none=>rw[a]at h;exact h.elim
     | some b=>
      rw[a]at h;simp only[xM,ir]at h |-;cases w:PS N b with
      | false=>simp_all
      | true=>
       grind [PC,Go.Op.operands]
 | _=>rw[e]at g;cases g
theorem Pc{a:Oper}{d:Nat}{K:(Nat->AV)->Prop}(c:a.guard=none)(f:NG a.op=true)(b:a.dst≠some d)(g:d∉a.looksAt ops)(i:∀t,(F t).uses d=false)(h:iy P TE N ops a K F) :
  iy P TE N ops a (λF1=>K F1/\bL (a.looksAt ops) F F1) F:=by
 refine jt (Lj (d:=d) (v:=F d) c f b g i (by rw[L8];exact h)) λF1 j=>?_
 obtain⟨k,e,l,u⟩:=j
 grind [L8]
theorem bL.setH{ts:List Nat}{t:Nat}{k:Kd}{cs:List C} : bL ts F (setH F t (.F k cs)):=λs e a=>by
 unfold Ab.setH at a;cases b:Nat.beq s t with
 | true=>rw[b]at a;cases a
 | false=>grind
theorem G6{ts:List Nat}{d:Nat}{k:Kd}{rcs:List C}{K:(Nat->AV)->Prop}(h:bA N F d (.F k rcs) K):bA N F d (.F k rcs) λF1=>K F1/\bL ts F F1:=by
 unfold bA at h |-;cases a:(N.free d&&!(AV.F k rcs).uses d) with
 | false=>grind
 | true=>rw[a]at h;exact⟨h,bL.put λe b=>by cases b⟩
theorem ta{ts:List Nat}{t off n:Nat}{st:cq}{K:(Nat->AV)->List C->Prop}(h:lendAt F t off st n K):lendAt F t off st n λF1 cs=>K F1 cs/\bL ts F F1:=by
 unfold lendAt at h |-;split at h
 all_goals grind [cZ,bL.updH]
def ky{ts:List Nat} : ∀{xs:List (Operand × Nat)}{K:(Nat->AV)->List (MA × qo)->Prop}{F:Nat->AV},lendP xs K F->lendP xs (λF1 l=>K F1 l/\bL ts F F1) F
 | [],K,F,h=>⟨h,bL.refl _ _⟩
 | (x,0)::xs,K,F,h=>ky (xs:=xs) h
 | (x,1)::xs,K,F,h=>by
  simp only[lendP]at h |-;split at h
  case h_2=>exact h.elim
  split at h
  ·exact dZ (ta (ts:=ts) h) λF1 c h=>cg (ky (ts:=ts) h.1) λb l a=>⟨a.1,h.2.trans a.2⟩
  ·exact dZ (ta (ts:=ts) h) λF1 c h=>cg (ky (ts:=ts) h.1) λb l a=>⟨a.1,h.2.trans a.2⟩
  ·exact dZ (ta (ts:=ts) h) λF1 c h=>cg (ky (ts:=ts) h.1) λb l a=>⟨a.1,h.2.trans a.2⟩
  exact h.elim
 | (x,n+2)::xs,K,F,h=>by
  simp only[lendP]at h |-;split at h
  case h_2=>exact h.elim
  split at h
  ·split at h
   ·exact cg (ky (ts:=ts) h) λb l a=>⟨a.1,bL.kill.trans a.2⟩
   exact h.elim
  ·exact cg (ky (ts:=ts) h) λb l a=>⟨a.1,bL.kill.trans a.2⟩
  exact h.elim
theorem kz{ts:List Nat}{K:(Nat->AV)->Prop} : ∀{l:List (MA × qo)}{B:List MA}{F:Nat->AV},gj l B K F->gj l B (λF1=>K F1/\bL ts F F1) F
 | [],[],F,h=>⟨h,bL.refl _ _⟩
 | [],_::_,F,h=>h.elim
 | (m,.no)::l,[],F,h=>h.elim
 | (m,.at_ t off st)::l,[],F,h=>h.elim
 | (m,.box t)::l,[],F,h=>h.elim
 | (m,.no)::l,.val _ _::B,F,h=>kz (l:=l) (B:=B) h
 | (m,.no)::l,.mut _ _::B,F,h=>kz (l:=l) (B:=B) h
 | (m,.no)::l,.ptr _::B,F,h=>kz (l:=l) (B:=B) h
 | (m,.at_ t off st)::l,.val _ _::B,F,h=>h.elim
 | (m,.at_ t off st)::l,.ptr _::B,F,h=>h.elim
 | (m,.box t)::l,.val _ _::B,F,h=>h.elim
 | (m,.box t)::l,.mut _ _::B,F,h=>h.elim
 | (m,.at_ t off st)::l,.mut ag out::B,F,h=>by
  simp only[gj]at h |-;split at h
  case h_2=>exact h.elim
  split at h
  ·rename_i k c _ _
   cases d:Nat.ble (off+out.length) c.length with
   | false=>grind
   | true=>
    rw[d]at h;simp only[cond_true,cZ]at h |-;exact dc (λb a=>⟨a.1,bL.updH.trans a.2⟩) (kz (ts:=ts) h)
  obtain⟨r,j,e,f,g,i⟩:=Pu.out h;exact Pu.mk e f g rfl (dc (λb a=>⟨a.1,bL.updH.trans a.2⟩) (kz (ts:=ts) i))
 | (m,.box t)::l,.ptr out::B,F,h=>by
  simp only[gj]at h |-;split at h
  ·exact dc (λb a=>⟨a.1,bL.setH.trans a.2⟩) (kz (ts:=ts) h)
  exact h.elim
theorem L1{ts:List Nat}{d:Option Nat}{f:Nat}{args:List Operand}{modes:List Nat}{K:(Nat->AV)->Prop}(h:kA P N F d f args modes K):kA P N F d f args modes λF1=>K F1/\bL ts F F1:=by
 unfold kA at h |-;refine cg (ky (ts:=ts) h) λn l h=>?_
 obtain⟨h,c⟩:=h;cases e:(tH l&&Nat.beq args.length modes.length) with
 | false=>grind
 | true=>
  rw[e]at h;refine iK h λb A h=>?_
  obtain⟨o,B,k,rcs,g,a,i⟩:=cy.out h;refine CJ g a (dc (λF'' h=>?_) (kz (ts:=ts) i));obtain⟨h,j⟩:=h;cases d with
  | none=>grind [bL.trans]
  | some d=>exact aZ (G6 (ts:=ts) h) λp a=>⟨a.1,(c.trans j).trans a.2⟩
theorem MW{ts:List Nat}{d:Option Nat}{t:Nat}{cs:List C}{c a e b:Nat}{K:(Nat->AV)->Prop}{k:Kd}{rcs:List C}{B:List MA}(h:xk N F d t cs c a e b K k rcs B):xk N F d t cs c a e b (λF1=>K F1/\bL ts F F1) k rcs B:=by
 unfold xk at h |-;split at h
 case h_2=>exact h.elim
 rename_i g i;cases j:(Nat.beq g.length a&&Nat.beq i.length b) with
 | false=>grind
 | true=>
  rw[j]at h;simp only[cond_true,cZ]at h |-;cases d with
  | none=>exact⟨h,bL.kill.trans bL.setH⟩
  | some d=>exact aZ (G6 (ts:=ts) h) λl f=>⟨f.1,(bL.kill.trans bL.setH).trans f.2⟩
theorem LM{ts:List Nat}{d:Option Nat}{f:Nat}{args:List Operand}{a b:Nat}{K:(Nat->AV)->Prop}(h:jx P N F d f args a b K):jx P N F d f args a b λF1=>K F1/\bL ts F F1:=by
 unfold jx at h |-;split at h
 case h_2=>exact h.elim
 refine jS h λt e h=>jS h λg c h=>?_
 split at h
 case h_2=>exact h.elim
 rename_i i p;cases j:(Nat.beq g t&&Nat.ble (e+a) c&&Nat.ble (c+b) i.length) with
 | false=>grind
 | true=>
  rw[j]at h;simp only[cond_true,cZ]at h |-;obtain⟨q,B,k,rcs,l,n,o⟩:=cy.out h;exact CJ l n (MW o)
def Ka{ts:List Nat}{d:Option Nat}{f:Nat}{args:List Operand}{modes:List Nat}{K:(Nat->AV)->Prop}(h:jz P N F d f args modes K):jz P N F d f args modes λF1=>K F1/\bL ts F F1:=by
 unfold jz at h |-;split
 ·rename_i p a;rw[a]at h;exact LM h
 rename_i a;rw[a]at h;exact L1 h
theorem PO{ts:List Nat}{dj:Option Nat}{s:Nat}{a:Nat->AV}(u:bL ts F a):bL ts F (rv1 F dj s a):=by
 unfold rv1;split
 case h_2=>exact u
 rename_i t c f;cases g:(dne dj s&&dne dj t) with
 | false=>exact u
 | true=>
  simp only[cond_true];split
  case h_2=>exact u
  split
  case h_2=>exact u
  intro q e b;by_cases d:q=s
  ·grind [oR]
  rw[en _ _ d]at b;exact u q e b
theorem E4{ts:List Nat}{dj:Option Nat} : ∀{l:List Nat}{a:Nat->AV},bL ts F a->bL ts F (rvE F dj l a)
 | [],_,u=>u
 | _::l,_,u=>E4 (l:=l) (PO u)
theorem Nu{a:Oper}{K:(Nat->AV)->Prop}(k:a.guard=none)(i:nS a.op=true)(h:iy P TE N ops a K F):iy P TE N ops a (λF1=>K F1/\bL (a.looksAt ops) F F1) F:=by
 have pur:∀d,a.dst=some d->cS P TE F a.op (λg=>bA N F d g K)->cS P TE F a.op λg=>bA N F d g λF1=>K F1/\bL (a.looksAt ops) F F1:=λd l h=>by
  have n:fI P TE N ops a K F:=by grind [fI,eN]
  obtain⟨y,g,j,o⟩:=v9 n;have b:=j.dst;rw[l]at b;simp only[W0]at b;subst b;have A:=j.at_ F (CW _ _) (λF1=>K F1/\bL (a.looksAt ops) F F1) ⟨o,bL.put λe q=>(j.from_ e q).imp id ψ⟩
  grind [fI,eN]
 unfold iy eN at h |-;rw[k]at h |-;simp only at h |-;cases f:a.op with
 | call c=>
  rw[f]at h i;have r:pk c=none:=by grind [nS,pk]
  have pl:j8 P TE N a K F->j8 P TE N a (λF1=>K F1/\bL (a.looksAt ops) F F1) F:=λh=>by grind [j8,ir]
  cases t:xM N F (.call c) with
  | some p=>
   rw[t]at h;simp only at h |-;have lt:r8 P N F a.dst p.1 p.2.1 p.2.2 K->r8 P N F a.dst p.1 p.2.1 p.2.2 λF1=>K F1/\bL (a.looksAt ops) F F1:=λh=>ql (Ka (ts:=a.looksAt ops) h) λF1 ⟨h,u⟩=>by grind [mh,E4]
   cases w:La N (.call c) with
   | false=>grind
   | true=>
    rw[w]at h;rcases h with h|h
    ·exact .pl (pl h)
    exact .lt (lt h)
  | none=>
   grind [j8]
 | _=>rw[f]at i;cases i
theorem MM{a:Oper}{d:Nat}{K:(Nat->AV)->Prop}(c:a.guard=none)(e:(NG a.op || nS a.op)=true)(b:a.dst≠some d)(f:d∉a.looksAt ops)(g:∀t,(F t).uses d=false)(h:iy P TE N ops a K F) :
  iy P TE N ops a (λF1=>K F1/\bL (a.looksAt ops) F F1) F:=by grind [Pc,Nu]
def Gq(d:Nat)(ts:List Nat)(F:Nat->AV)(K:(Nat->AV)->Prop)(F1:Nat->AV):Prop:=∃a,K (eff none d a F1)/\bL ts F F1
def Gq.trans{d:Nat}{ts:List Nat}{F1 a:Nat->AV}{K:(Nat->AV)->Prop}(b:bL ts F F1)(h:Gq d ts F1 K a):Gq d ts F K a:=by
 obtain⟨c,e,f⟩:=h;exact⟨c,e,b.trans f⟩
theorem AP{d t:Nat}{v av:AV}(a:t≠d):setH (eff none d v F) t av=eff none d v (setH F t av):=by grind [lb,en,bX,setH]
theorem sM{ts:List Nat}{d t off n:Nat}{v:AV}{st:cq}{K:(Nat->AV)->List C->Prop}(h:lendAt (eff none d v F) t off st n K)(a:t≠d):lendAt F t off st n λF1 cs=>∃v1,K (eff none d v1 F1) cs/\bL ts F F1:=by
 unfold lendAt at h |-;rw[bX a]at h;split at h
 case h_2=>exact h.elim
 split at h
 ·grind [cZ,ml,bL.updH]
 obtain⟨r,j,b,c,e,f⟩:=Lq.out h;refine .mk_ ?_
 grind [ml,bL.updH]
theorem lN{ts:List Nat}{d:Nat}(a:d∉ts):∀{xs:List (Operand × Nat)}{K:(Nat->AV)->List (MA × qo)->Prop}{F:Nat->AV}{v:AV},lendP xs K (eff none d v F)->(∀x,x∈xs->d∉tm x.1)->(∀t,(F t).uses d=false)->
  lendP xs (λF1 l=>(∃v1,K (eff none d v1 F1) l/\bL ts F F1)/\∀q,q∈l->d∉q.2.slot) F
 | [],K,F,v,h,_,_=>⟨⟨v,h,bL.refl _ _⟩,ψ⟩
 | (x,0)::xs,K,F,v,h,w,c=>by
  simp only[lendP]at h |-;refine cg (lN a h ψ c) λF1 l h=>⟨h.1,λq b=>?_⟩
  rcases List.mem_cons.1 b with rfl|b
  ·exact λu=>by cases u
  exact h.2 q b
 | (x,1)::xs,K,F,v,h,w,c=>by
  simp only[lendP]at h |-;split at h
  case h_2=>exact h.elim
  rename_i s;have j:s≠d:=λe=>w _ R1 (by simp[tm,e])
  rw[bX j]at h;have y:∀{t:Nat}{F1:Nat->AV}{l:List (MA × qo)}{m:MA}{f:Nat}{A:cq}{K2:(Nat->AV)->List (MA × qo)->Prop},t≠d->((∃v1,K2 (eff none d v1 F1) ((m,.at_ t f A)::l)/\bL ts F F1)/\∀q,q∈l->d∉q.2.slot)->(∃v1,K2 (eff none d v1 F1) ((m,.at_ t f A)::l)/\bL ts F F1)/\∀q,q∈(m,qo.at_ t f A)::l->d∉q.2.slot:=λg h=>⟨h.1,λq b=>by
    rcases List.mem_cons.1 b with rfl|b
    · exact λu=>g (C1.1 u).symm
    exact h.2 q b⟩
  split at h
  ·exact dZ (sM (ts:=ts) h j) λF1 k h=>by
    obtain⟨v1,h,i⟩:=h;exact cg (lN a h ψ (i.clean a c)) λB l h=>by
     obtain⟨⟨o,h,p⟩,r⟩:=h;exact y (K2:=K) j ⟨⟨o,h,i.trans p⟩,r⟩
  ·exact dZ (sM (ts:=ts) h j) λF1 k h=>by
    obtain⟨v1,h,i⟩:=h;exact cg (lN a h ψ (i.clean a c)) λB l h=>by
     obtain⟨⟨o,h,p⟩,r⟩:=h;exact y (K2:=K) j ⟨⟨o,h,i.trans p⟩,r⟩
  ·rename_i t f A G D
   have g:t≠d:=λe=>by have:=c s;rw[D,e]at this;simp[AV.uses]at this
   exact dZ (sM (ts:=ts) h g) λF1 k h=>by
    obtain⟨v1,h,i⟩:=h;exact cg (lN a h ψ (i.clean a c)) λB l h=>by
     obtain⟨⟨o,h,p⟩,r⟩:=h;exact y (K2:=K) g ⟨⟨o,h,i.trans p⟩,r⟩
  exact h.elim
 | (x,n+2)::xs,K,F,v,h,w,c=>by
  simp only[lendP]at h |-;split at h
  case h_2=>exact h.elim
  rename_i s;have j:s≠d:=λe=>w _ R1 (by simp[tm,e])
  rw[bX j]at h;have y:∀{t:Nat}{k:List C},t≠d->lendP xs (λE l=>K E ((.ptr k,.box t)::l)) (kill (eff none d v F) t)->lendP xs (λF1 l=>(∃v1,K (eff none d v1 F1) ((.ptr k,.box t)::l)/\bL ts F F1)/\∀q,q∈(MA.ptr k,qo.box t)::l->d∉q.2.slot) (kill F t):=fun {t k} g h=>by
   rw[Ax g]at h;refine cg (lN a h ψ ((bL.kill (ts:=ts)).clean a c)) λB l h=>?_
   obtain⟨⟨o,h,p⟩,r⟩:=h;refine⟨⟨o,h,bL.kill.trans p⟩,λq b=>?_⟩;rcases List.mem_cons.1 b with rfl|b
   ·exact λu=>g (C1.1 u).symm
   exact r q b
  split at h
  ·rename_i t D
   have g:t≠d:=λe=>by have:=c s;rw[D,e]at this;simp[AV.uses]at this
   rw[bX g]at h;split at h
   all_goals simp_all
  all_goals simp_all
theorem qZ{d:Nat}{v:AV}(a:∀t,(F t).uses d=false):∀{l:List (MA × qo)}{xs:List Operand}{K:Bool->List MA->Prop},valsP (eff none d v F) l xs K->(∀x,x∈xs->d∉tm x)->valsP F l xs K
 | [],[],K,h,_=>h
 | (m,.no)::l,x::xs,K,h,b=>by
  obtain⟨f,g,c,e⟩:=cj h;exact e F (kv ψ a) _ (qZ a c ψ)
 | (m,.at_ t off st)::l,x::xs,K,h,b=>qZ (l:=l) (xs:=xs) a h ψ
 | (m,.box t)::l,x::xs,K,h,b=>qZ (l:=l) (xs:=xs) a h ψ
 | [],_::_,K,h,_=>h.elim
 | (m,.no)::l,[],K,h,_=>h.elim
 | (m,.at_ t off st)::l,[],K,h,_=>h.elim
 | (m,.box t)::l,[],K,h,_=>h.elim
theorem k7{ts:List Nat}{d:Nat}{K:(Nat->AV)->Prop} : ∀{l:List (MA × qo)}{B:List MA}{F:Nat->AV}{v:AV},gj l B K (eff none d v F)->(∀q,q∈l->d∉q.2.slot)->gj l B (Gq d ts F K) F
 | [],[],F,v,h,_=>⟨v,h,bL.refl _ _⟩
 | [],_::_,F,v,h,_=>h.elim
 | (m,.no)::l,[],F,v,h,_=>h.elim
 | (m,.at_ t off st)::l,[],F,v,h,_=>h.elim
 | (m,.box t)::l,[],F,v,h,_=>h.elim
 | (m,.no)::l,.val _ _::B,F,v,h,b=>k7 (l:=l) (B:=B) h ψ
 | (m,.no)::l,.mut _ _::B,F,v,h,b=>k7 (l:=l) (B:=B) h ψ
 | (m,.no)::l,.ptr _::B,F,v,h,b=>k7 (l:=l) (B:=B) h ψ
 | (m,.at_ t off st)::l,.val _ _::B,F,v,h,_=>h.elim
 | (m,.at_ t off st)::l,.ptr _::B,F,v,h,_=>h.elim
 | (m,.box t)::l,.val _ _::B,F,v,h,_=>h.elim
 | (m,.box t)::l,.mut _ _::B,F,v,h,_=>h.elim
 | (m,.at_ t off st)::l,.mut ag out::B,F,v,h,b=>by
  have c:t≠d:=λe=>b _ R1 (by simp[qo.slot,e])
  have a:∀q,q∈l->d∉q.2.slot:=ψ
  simp only[gj]at h |-;rw[bX c]at h;split at h
  case h_2=>exact h.elim
  split at h
  ·rename_i k n _ _
   cases o:Nat.ble (off+out.length) n.length with
   | false=>grind
   | true=>
    rw[o]at h;simp only[cond_true,cZ]at h |-;rw[ml c]at h;exact dc (λg f=>Gq.trans bL.updH f) (k7 (ts:=ts) h a)
  obtain⟨r,j,p,u,w,i⟩:=Pu.out h;rw[ml c]at i;exact Pu.mk p u w rfl (dc (λg f=>Gq.trans bL.updH f) (k7 (ts:=ts) i a))
 | (m,.box t)::l,.ptr out::B,F,v,h,b=>by
  have c:t≠d:=λe=>b _ R1 (by simp[qo.slot,e])
  have a:∀q,q∈l->d∉q.2.slot:=ψ
  simp only[gj]at h |-;rw[bX c]at h;split at h
  ·rw[AP c]at h
   exact dc (λg f=>Gq.trans bL.setH f) (k7 (ts:=ts) h a)
  exact h.elim
theorem KW{ts:List Nat}{d:Nat}{dj:Option Nat}{v:AV}{f:Nat}{args:List Operand}{modes:List Nat}{K:(Nat->AV)->Prop}(h:kA P N (eff none d v F) dj f args modes K)(n:dj≠some d)(a:d∉ts)(g:∀x,x∈args->d∉tm x)(i:∀t,(F t).uses d=false) :
  kA P N F dj f args modes (Gq d ts F K):=by
 unfold kA at h |-;refine cg (lN a h (λx o=>g _ (List.of_mem_zip o).1) i) λE l h=>?_
 obtain⟨⟨G,h,c⟩,p⟩:=h;cases q:(tH l&&Nat.beq args.length modes.length) with
 | false=>grind
 | true=>
  rw[q]at h;refine iK (qZ (c.clean a i) h g) λb A h=>?_
  obtain⟨H,B,k,rcs,r,e,u⟩:=cy.out h;refine CJ r e (dc (λF'' h=>?_) (k7 (ts:=ts) u p));obtain⟨w,h,j⟩:=h;cases dj with
  | none=>exact⟨w,h,c.trans j⟩
  | some dj=>
   refine aZ (f9 (ts:=ts) h ψ gz) λJ e=>?_
   obtain⟨y,-,C,D⟩:=e;exact⟨y,C,(c.trans j).trans D⟩
theorem Ni{ts:List Nat}{d:Nat}{dj:Option Nat}{v:AV}{t:Nat}{cs:List C}{c a e b:Nat}{K:(Nat->AV)->Prop}{k:Kd}{rcs:List C}{B:List MA}(f:t≠d)(g:dj≠some d)(h:xk N (eff none d v F) dj t cs c a e b K k rcs B):xk N F dj t cs c a e b (Gq d ts F K) k rcs B:=by
 unfold xk at h |-;split at h
 case h_2=>exact h.elim
 rename_i i j;cases l:(Nat.beq i.length a&&Nat.beq j.length b) with
 | false=>grind
 | true=>
  rw[l]at h;simp only[cond_true,cZ]at h |-;rw[Ax f,AP f]at h;cases dj with
  | none=>exact⟨_,h,bL.kill.trans bL.setH⟩
  | some dj=>
   refine aZ (f9 (ts:=ts) h ψ gz) λr n=>?_
   obtain⟨o,-,p,q⟩:=n;exact⟨o,p,(bL.kill.trans bL.setH).trans q⟩
theorem Ge{d:Nat}{v:AV}{x:Operand}{K:Nat->Nat->Prop}(b:d∉tm x)(c:∀t,(F t).uses d=false)(h:ye (eff none d v F) x K):ye F x λt o=>t≠d/\K t o:=by
 obtain⟨s,t,f,rfl,a,i⟩:=qJ h;have g:s≠d:=λe=>b (by simp[tm,e])
 rw[bX g]at a;have j:t≠d:=λe=>by have:=c s;rw[a,e]at this;simp[AV.uses]at this
 grind [ye]
theorem J7{ts:List Nat}{d:Nat}{dj:Option Nat}{v:AV}{f:Nat}{args:List Operand}{a b:Nat}{K:(Nat->AV)->Prop}(h:jx P N (eff none d v F) dj f args a b K)(g:dj≠some d)(c:∀x,x∈args->d∉tm x)(e:∀t,(F t).uses d=false) :
  jx P N F dj f args a b (Gq d ts F K):=by
 unfold jx at h |-;split at h
 case h_2=>exact h.elim
 refine jS (Ge (c _ (by simp)) e h) λt j h=>?_
 obtain⟨i,h⟩:=h;refine jS (Ge (c _ (by simp)) e h) λk l h=>?_
 replace h:=h.2;rw[bX i]at h;split at h
 all_goals grind [cZ,cy.out,CJ,Ni]
theorem L2{ts:List Nat}{d:Nat}{dj:Option Nat}{v:AV}{f:Nat}{args:List Operand}{modes:List Nat}{K:(Nat->AV)->Prop}(h:jz P N (eff none d v F) dj f args modes K)(a:dj≠some d)(b:d∉ts)(c:∀x,x∈args->d∉tm x)(e:∀t,(F t).uses d=false) :
  jz P N F dj f args modes (Gq d ts F K):=by grind [J7,KW,jz]
theorem Nl{dj:Option Nat}{s q:Nat}{F1:Nat->AV}(c:q≠s):rv1 F dj s F1 q=F1 q:=by
 unfold rv1;cases F s with
 | ref t a b=>
  cases b with
  | cons=>rfl
  | nil=>
   simp only;cases(dne dj s&&dne dj t) with
   | false=>rfl
   | true=>
    simp only[cond_true];cases F1 t with
    | F k d=>
     cases k with
     | box=>
      simp only;cases F1 s with
      | dead=>grind [en]
      | _=>rfl
     | _=>rfl
    | _=>rfl
 | _=>rfl
theorem Pk{d:Nat}{dj:Option Nat}{v v1:AV}{s:Nat}{F1:Nat->AV}(c:∀t,(F t).uses d=false):∃a,rv1 (eff none d v F) dj s (eff none d v1 F1)=eff none d a (rv1 F dj s F1):=by
 by_cases b:s=d
 ·subst b
  have f:∃a,rv1 (eff none s v F) dj s (eff none s v1 F1)=eff none s a F1:=by
   unfold rv1;rw[lb];have set:∀x:AV,setH (eff none s v1 F1) s x=eff none s x F1:=λx=>by grind [oR,lb,en,bX]
   grind
  obtain⟨a,g⟩:=f;refine⟨a,g.trans ?_⟩
  grind [lb,bX,Nl]
 refine⟨v1,?_⟩;unfold rv1;rw[bX b];cases h:F s with
 | ref t i j=>
  cases j with
  | cons=>rfl
  | nil=>
   have k:t≠d:=λe=>by have:=c s;rw[h,e]at this;simp[AV.uses]at this
   grind [bX,AP]
 | _=>rfl
def J1{d:Nat}{dj:Option Nat}{v:AV}(a:∀t,(F t).uses d=false):∀{l:List Nat}{v1:AV}{F1:Nat->AV},∃b,rvE (eff none d v F) dj l (eff none d v1 F1)=eff none d b (rvE F dj l F1)
 | [],v1,_=>⟨v1,rfl⟩
 | s::l,v1,F1=>by
  simp only[rvE];obtain⟨b,e⟩:=Pk (dj:=dj) (v:=v) (v1:=v1) (s:=s) (F1:=F1) a;rw[e];exact J1 a
theorem Mp{a:Oper}{d:Nat}{v:AV}{K:(Nat->AV)->Prop}(B:a.guard=none)(k:nS a.op=true)(g:a.dst≠some d)(w:d∉a.looksAt ops)(n:∀t,(F t).uses d=false)(h:iy P TE N ops a K (eff none d v F)) :
  iy P TE N ops a (Gq d (a.looksAt ops) F K) F:=by
 have f:∀t,t∈di a.op->t∈a.looksAt ops:=λt o=>gG a t o
 have tmI:∀x,x∈a.op.operands.toList->∀t,t∈tm x->t∈a.looksAt ops:=λx y t o=>f t (List.mem_flatMap.2 ⟨x,y,o⟩)
 have pur:∀dj,dj≠d->cS P TE (eff none d v F) a.op (λj=>bA N (eff none d v F) dj j K)->cS P TE F a.op λj=>bA N F dj j (Fq d (a.looksAt ops) v F K):=λdj g h=>
  A7 (p:=λF K=>cS P TE F a.op K) (jr h) g f w n
 unfold iy eN at h |-;rw[B]at h |-;simp only at h |-;cases b:a.op with
 | call c=>
  rw[b]at h k tmI;have q:pk c=none:=by grind [nS,pk]
  have r:xM N (eff none d v F) (.call c)=xM N F (.call c):=by grind [nS,xM]
  rw[r]at h;have pl:j8 P TE N a K (eff none d v F)->j8 P TE N a (Gq d (a.looksAt ops) F K) F:=λh=>by
   unfold j8 at h |-;rw[b]at h |-;cases C:a.dst with
   | none=>grind
   | some dj=>
    rw[C]at h;simp only[ir,q]at h |-;have A:=pur dj ψ;rw[b]at A;obtain⟨j,D,-,E⟩:=jr (A h);exact E F (CW _ _) _ (aZ D λQ G=>by
      obtain⟨v1,-,H,u⟩:=G;exact⟨v1,H,u⟩)
  cases J:xM N F (.call c) with
  | some p=>
   rw[J]at h;simp only at h |-;have i:∀x,x∈p.2.1->d∉tm x:=λx y L=>by grind [nS,xM,Go.Op.operands,Go.Call.operands]
   have lt:r8 P N (eff none d v F) a.dst p.1 p.2.1 p.2.2 K->r8 P N F a.dst p.1 p.2.1 p.2.2 (Gq d (a.looksAt ops) F K):=λh=>ql (L2 (ts:=a.looksAt ops) h g w i n) λF1 h=>by
    obtain⟨v1,h,u⟩:=h;rw[mh]at h |-;obtain⟨M,e⟩:=J1 (dj:=a.dst) (v:=v) (l:=Q5 N.mo) (v1:=v1) (F1:=F1) n;rw[e]at h;exact⟨M,h,E4 u⟩
   cases O:La N (.call c) with
   | false=>grind
   | true=>
    rw[O]at h;rcases h with h|h
    ·exact .pl (pl h)
    exact .lt (lt h)
  | none=>
   grind [j8]
 | _=>rw[b]at k;cases k
theorem Nk{a:Oper}{d:Nat}{v:AV}{K:(Nat->AV)->Prop}(e:a.guard=none)(b:(NG a.op || nS a.op)=true)(c:a.dst≠some d)(f:d∉a.looksAt ops)(g:∀t,(F t).uses d=false)(h:iy P TE N ops a K (eff none d v F)) :
  iy P TE N ops a (Gq d (a.looksAt ops) F K) F:=by
 rw[U5]at b;rcases b with b|b
 ·refine jt (Lj e b c f g h) λl i=>?_
  obtain⟨j,-,k,u⟩:=i;exact⟨j,k,u⟩
 grind [Mp]
structure lw(ops:Array Oper)(ds:List Nat)(F:Nat->AV)(listed:Array Bool):Prop where
 dst:∀(j:Nat)(o:Oper)(d:Nat),oZ ds o=true->ops[j]? = some o->listed.getD j true=false->o.dst=some d->∀t,(F t).uses d=false
 mv:∀(j:Nat)(o:Oper)(T:Option Nat)(s:Nat),oZ ds o=true->ops[j]? = some o->listed.getD j true=false->o.guard=none->mN o.op=some (T,s)->iD ops o s=true->∀t,(F t).uses s=false
theorem lw.put{j d:Nat}{o:Option Nat}{listed:Array Bool}{av:AV}(h:lw ops ds F listed)(p:∀b a g,oZ ds a=true->b≠j->ops[b]? = some a->listed.getD b true=false->a.dst=some g->av.uses g=false)(q:∀b a T s,oZ ds a=true->b≠j->ops[b]? = some a->listed.getD b true=false->a.guard=none->mN a.op=some (T,s)->iD ops a s=true->av.uses s=false) :
  lw ops ds (eff o d av F) (listed.setIfInBounds j true):=by
 refine⟨λb a g i c e k t=>?_,λb a T s i c e r l n t=>?_⟩
 ·have f:=gQ e
  rw[getD_set_ne true (Ne.symm f)]at e;exact js ψ (h.dst b a g i c e k t)
 have f:=gQ e;rw[getD_set_ne true (Ne.symm f)]at e;exact js ψ (h.mv b a T s i c e r l n t)
theorem wb{o:Oper}(h:Qo o=true):o.guard=none:=by grind [Qo]
theorem LC{ts:List Nat}{d:Nat}(h:(!ts.any (Nat.beq d))=true):d∉ts:=λa=>by grind [Nat.beq_refl]
theorem LE{a b:Oper}{d:Nat}{c:Bool}(h:PY ops a b c=true)(f:b.dst=some d):a.guard=none/\(NG a.op || nS a.op)=true/\a.dst≠some d/\d∉a.looksAt ops/\b.guard=none/\d∉b.looksAt ops/\(c=true\/∀T s,mN b.op=some (T,s)->iD ops b s=false):=by
 unfold PY at h;rw[f]at h;simp only[I0]at h;obtain⟨⟨⟨⟨⟨⟨g,i⟩,n⟩,j⟩,k⟩,l⟩,o⟩:=h;refine⟨wb g,i,λe=>?_,LC j,wb k,LC l,?_⟩
 ·simp_all
 grind
def JV{j i:Nat}(h:ur ops j i=true):nl ops j i:=rd j _ (λ_ a=>.one (wT a)) i h
theorem Gu{o:Oper}(h:oZ ds o=true):∃d,o.dst=some d/\ds.any (Nat.beq d)=true:=by grind [oZ]
structure NP(ops:Array Oper)(ds:List Nat)(nm:Nat->Bool):Prop where
 back:∀(j:Nat)(oj:Oper),ops[j]? = some oj->∀e∈oj.after,Region.binds .any e=true->e.on<j
 apart:∀(i j:Nat)(oi oj:Oper),oZ ds oi=true->oZ ds oj=true->i≠j->ops[i]? = some oi->ops[j]? = some oj->cN oj i=true\/cN oi j=true\/oi.apart ops oj=true
 look:∀(i j:Nat)(oi oj:Oper)(d:Nat),oZ ds oi=true->i≠j->ops[i]? = some oi->ops[j]? = some oj->oi.dst=some d->d∈oj.looksAt ops->cN oj i=true
 differ:∀(i j:Nat)(oi oj:Oper)(d:Nat),oZ ds oi=true->oZ ds oj=true->i≠j->ops[i]? = some oi->ops[j]? = some oj->oi.dst=some d->oj.dst≠some d
 nf:∀(i j:Nat)(oi oj:Oper),oZ ds oi=true->oZ ds oj=false->i≠j->ops[i]? = some oi->ops[j]? = some oj->ur ops j i=true\/ur ops i j=true\/PY ops oj oi (nm i)=true
 mvs:∀(j:Nat)(oj:Oper)(T:Option Nat)(s:Nat),oZ ds oj=true->ops[j]? = some oj->mN oj.op=some (T,s)->iD ops oj s=true->ds.any (Nat.beq s)=true
theorem nY{listed:Array Bool}{j i:Nat}{d:Oper}(a:NP ops ds nm)(b:DC ops listed)(c:ops[j]? = some d)(f:∀e∈d.after,Region.binds .any e=true->listed.getD e.on false=true)(g:ur ops j i=true):listed.getD i false=true:=
 mV b a.back (JV g) (C3.1 c).1 λk h=>by grind [bn,ce]
theorem unl{listed:Array Bool}{k:Nat}(h1:listed.getD k true=false)(a:listed.getD k false=true):False:=ψ
theorem gk.trans{F1 a:Nat->AV}{ts:List Nat}(h1:gk F F1 ts)(c:gk F1 a ts):gk F a ts:=λt b=>by
 obtain⟨d,e⟩:=h1 t b;obtain⟨f,g⟩:=c t b
 grind
theorem lw.us{j:Nat}{g:Oper}{F1:Nat->AV}{listed:Array Bool}(n:NP ops ds nm)(h:lw ops ds F listed)(o:ops[j]? = some g)(r:∀e∈g.after,Region.binds .any e=true->listed.getD e.on false=true)(u:bL (g.looksAt ops) F F1):lw ops ds F1 (listed.setIfInBounds j true):=by
 refine⟨λi k t l b c d=>u.clean (λf=>?_) (h.dst i k t l b ?_ d),λi k T s l b c w p q=>u.clean (λf=>?_) (h.mv i k T s l b ?_ w p q)⟩
 ·have a:=gQ c
  rw[getD_set_ne true (Ne.symm a)]at c;have:=n.look i j k g t l a b o d f
  grind [ce]
 ·have a:=gQ c
  rwa [getD_set_ne true (Ne.symm a)]at c
 ·grind [gQ,fw,cM]
 have a:=gQ c
 rwa [getD_set_ne true (Ne.symm a)]at c
theorem Pe{p d:Nat}{v:AV}{F1:Nat->AV}{b:Oper}(a:ops[p]? = some b)(j:d∉b.looksAt ops)(k:∀t,(F1 t).uses d=false)(e:b.dst≠some d)(h:PH P TE ops p (eff none d v F1)):PH P TE ops p F1:=by
 obtain⟨f,g,i,c⟩:=h;rw[bn a]at g i c;refine⟨f,by grind [bn],?_,?_⟩
 ·grind [bn,uE,kv]
 rw[bn a];obtain⟨l,n,-,o⟩:=jr c
 grind [bX,kv,gG]
theorem EQ(W:NP ops ds nm){i d:Nat}{b:Oper}{K:(Nat->AV)->Prop}(D:ops[i]? = some b)(w:oZ ds b=true) :
  ∀(fuel:Nat)(listed:Array Bool)(F:Nat->AV)(l:Option Nat)(av:AV),i∈Region.ready .any ops listed->lw ops ds F listed->DC ops listed->Yl P TE N ops b F l d av->(nm i=true->l=none)->BZ P TE N ops ds K fuel (listed.setIfInBounds i true) (eff l d av F)->BZ P TE N ops ds K (fuel+1) listed F:=by
 have self:∀(listed:Array Bool)(F:Nat->AV)(l:Option Nat)(av:AV),i∈Region.ready .any ops listed->lw ops ds F listed->Yl P TE N ops b F l d av->∀X:(Nat->AV)->Prop,X (eff l d av F)->kh P TE N ops b X F:=λlisted F l av hr a c X hK=>by
  have f:=(mem_ready.1 hr).1;refine c.at_ F (CW _ _) (a.dst i b d w D f c.dst) (λs hs=>?_) X hK;obtain⟨B,⟨T,h2⟩,h3⟩:=c.mvl s hs;exact a.mv i b T s w D f B h2 h3
 intro fuel
 induction fuel with
 | zero=>
  intro listed F l av hr a E c hnm H;refine⟨ψ,λj hj=>?_⟩;by_cases n:j=i
  ·grind [tD]
  have:=ready_mono hj n;rw[H.1]at this;cases this
 | succ fuel ih=>
  intro listed F l av hr a E c hnm H;refine⟨ψ,λj hj=>?_⟩;by_cases n:j=i
  ·grind [tD]
  have B:=H.2 j (ready_mono hj n);obtain⟨R,g,q,hall⟩:=mem_ready.1 hj;obtain⟨f,oi',C,halli⟩:=mem_ready.1 hr;rw[D]at C;simp only[W0]at C;subst C;have noedge:∀k ok,ops[k]? = some ok->listed.getD k true=false->cN g k=false:=λk ok hk hkun=>by grind [ce]
  have noedge':∀k ok,ops[k]? = some ok->listed.getD k true=false->cN b k=false:=λk ok hk hkun=>by grind [ce]
  have cd:∀t,(F t).uses d=false:=a.dst i b d w D f c.dst
  unfold tD at B |-;rw[q]at B |-;simp only at B |-;by_cases G:oZ ds g=true
  case neg=>
   rw[C9 G]at B |-;have hji1:ur ops j i=false:=by grind [nY]
   have hij1:ur ops i j=false:=by grind [nY]
   have hfb:PY ops g b (nm i)=true:=by grind [NP.nf]
   obtain⟨J,r,A,g4,g5,g6,g7⟩:=LE hfb c.dst;have hmv:l=none:=by
    cases l with
    | none=>rfl
    | some s=>
     obtain⟨-,⟨T,q1⟩,q2⟩:=c.mvl s rfl
     grind
   subst hmv;refine jt (Nk J r A g4 cd B) λF1 hF1=>?_
   obtain⟨v,⟨S,hrun⟩,u⟩:=hF1;have cd1:∀t,(F1 t).uses d=false:=u.clean g4 cd
   have hisz:i<listed.size:=ψ
   have hrd:PH P TE ops i (eff none d v F1):=S i (by simp[hisz]) (by grind [bn]) hji1;refine⟨λp hp1 L hp3=>?_,ih (listed.setIfInBounds j true) F1 none v (ready_mono hr (Ne.symm n)) (a.us W q hall u) (E.put hj) ?_ (λ_=>rfl) (by grind [Array.setIfInBounds_comm])⟩
   ·have hpi:p≠i:=ψ
    have hpl:p<ops.size:=by
     rcases Nat.lt_or_ge p ops.size with h|h
     ·exact h
     rw[show dh ops p=default by simp[dh,X5,Array.getElem?_eq_none h]]at L;cases L
    have h0:ops[p]? = some ops[p]:=ψ
    have U:=L;rw[bn h0]at U;refine Pe h0 (λhlk=>?_) cd1 (W.differ i p b _ d w U (Ne.symm hpi) D h0 c.dst) (S p (getD_set_true hp1) L hp3);have:=W.look i p b _ d w (Ne.symm hpi) D h0 c.dst hlk;exact unl f (E p _ h0 hp1 i this)
   obtain⟨dp,q1,q2,q3⟩:=hrd;rw[bn D]at q1 q2 q3;have hdp:dp=d:=by grind [Yl.dst]
   subst hdp;rw[lb]at q3;obtain⟨M,e1,e2,e3⟩:=jr q3;subst e1;have agr1:gk (eff none dp M F1) F1 (b.looksAt ops):=kv g6 cd1;have fromv:d5 F1 (b.looksAt ops) M:=λe he=>by
    rcases e2 e he with h|⟨t,Y,h⟩
    all_goals grind [gG,bX]
   have Z:M.uses dp=false:=by
    cases hu:M.uses dp with
    | false=>rfl
    | true=>
     rcases fromv dp hu with h|⟨t,_,h⟩
     all_goals grind
   refine⟨c.dst,c.lt,Z,fromv,ψ,λF' hA O _ X hK=>?_⟩;have agr2:=agr1.trans hA;unfold kh;rw[uE agr2,q2];simp only;unfold fI eN
   grind [gk.mono,gG,Yl.lt,AZ,bA]
  rw[CB G]at B |-;have hap:b.apart ops g=true:=by grind [NP.apart]
  obtain⟨ap1,ap2,ap3⟩:=Oper.apart_spec hap;have hdl:d∉g.looksAt ops:=ap1 d c.dst;have cdj':∀o,g.dst=some o->∀t,(F t).uses o=false:=λo hdj=>a.dst j g o G q R hdj
  have cmv:∀s,l=some s->(∀t,(F t).uses s=false)/\s∉g.looksAt ops/\s∈b.looksAt ops:=λs hs=>by
   obtain⟨J,⟨T,r⟩,A⟩:=c.mvl s hs;exact⟨a.mv i b T s w D f J r A,λhl=>n ((fw A).2 i j b g D q (cM r) hl).symm,cM r⟩
  have cmvj:∀T s,g.guard=none->mN g.op=some (T,s)->iD ops g s=true->(∀t,(F t).uses s=false)/\s∉b.looksAt ops/\s∈g.looksAt ops:=λT s J r A=>
   ⟨a.mv j g T s G q R J r A,λhl=>n ((fw A).2 i j b g D q hl (cM r)).symm,cM r⟩
  have avno:∀e,e∉b.looksAt ops->(∀t,(F t).uses e=false)->av.uses e=false:=λe B h2=>by
   cases hu:av.uses e with
   | false=>rfl
   | true=>
    rcases c.from_ e hu with h|⟨t,_,h⟩
    all_goals grind
  obtain⟨mvj,o,avj,y,hKj⟩:=oE B (λo hdj t=>js ψ (cdj' o hdj t)) (λT s J r A t=>by grind [js]);have hdne:d≠o:=λe=>ap2 d c.dst (by rw[y.dst,e])
  have hdjl:o∉b.looksAt ops:=ap3 o y.dst;have cdj:∀t,(F t).uses o=false:=cdj' o y.dst
  have cmj:∀s,mvj=some s->(∀t,(F t).uses s=false)/\s∉b.looksAt ops/\s∈g.looksAt ops:=λs hs=>by
   obtain⟨J,⟨T,r⟩,A⟩:=y.mvl s hs
   grind
  have lookj:∀t,t∈g.looksAt ops->eff l d av F t=F t:=λt Y=>by grind [eff]
  have looki:∀t,t∈b.looksAt ops->eff mvj o avj F t=F t:=λt Y=>by grind [eff]
  have avjno:∀e,e∉g.looksAt ops->(∀t,(F t).uses e=false)->avj.uses e=false:=λe B h2=>by
   cases hu:avj.uses e with
   | false=>rfl
   | true=>
    rcases y.from_ e hu with h|⟨t,Y,h⟩
    all_goals grind
  have agrj:gk (eff l d av F) F (g.looksAt ops):=λt Y=>by grind [eff]
  refine y.at_ F agrj cdj ψ _ (ih (listed.setIfInBounds j true) (eff mvj o avj F) l av (ready_mono hr (Ne.symm n)) (a.put (λj' o' d' hm' V Q hl' O=>?_) (λj' o' T s hm' V Q hl' J r A=>?_)) (E.put hj) ?_ hnm ?_)
  ·refine avjno d' (λh=>?_) (a.dst j' o' d' hm' Q hl' O)
   grind [NP.look]
  ·exact avjno s (λh=>V ((fw A).2 j' j o' g Q q (cM r) h)) (a.mv j' o' T s hm' Q hl' J r A)
  ·refine⟨c.dst,c.lt,c.self,λe he=>?_,c.mvl,λF' hA O hs' X hK=>c.at_ F' (λt Y=>?_) O hs' X hK⟩
   ·rcases c.from_ e he with h|⟨t,Y,h⟩
    all_goals grind
   obtain⟨a1,a2⟩:=hA t Y
   grind [eff]
  rw[Array.setIfInBounds_comm _ _ n];have:eff l d av (eff mvj o avj F)=eff mvj o avj (eff l d av F):=by grind [eff]
  grind
theorem yZ:∀{b:List Nat}{X:Prop}{F:Nat->AV},KF P TE ops b X F->X/\∀p,p∈b->PH P TE ops p F
 | [],X,F,h=>⟨h,ψ⟩
 | p::l,X,F,h=>by
  simp only[KF]at h;unfold Qm at h;cases c:(dh ops p).dst with
  | none=>grind
  | some d=>
   rw[c]at h;simp only at h;cases f:Gw F (dh ops p) with
   | some q=>grind
   | none=>
    rw[f]at h;simp only at h;obtain⟨g,i,-,-⟩:=jr h;obtain⟨e,k,j⟩:=(show g=F d/\X/\∀p,p∈l->PH P TE ops p F from⟨i.out.1,yZ i.out.2⟩)
    refine⟨k,λn a=>?_⟩;rcases List.mem_cons.1 a with rfl|a
    ·exact⟨d,c,f,fU h λg h=>h.out.1⟩
    grind
theorem sC{l:List (Nat × List Nat)}{i:Nat} : wF l i=true↔∃p,p∈l/\p.1=i:=by grind [V1,Nat.beq_refl,wF]
theorem oO{k:Nat × List Nat}{l:List (Nat × List Nat)}{i:Nat} : wF (k::l) i=(Nat.beq k.1 i || wF l i):=rfl
theorem zZ(b:NP ops ds nm){K:(Nat->AV)->Prop} : ∀(l:List (Nat × List Nat))(listed:Array Bool)(F:Nat->AV),Ee ops ds l=true->listed.size=ops.size->(∀j,j<ops.size->listed.getD j true = !wF l j)->lw ops ds F listed->DC ops listed->
  H3 P TE N ops ds nm l K F->BZ P TE N ops ds K l.length listed F
 | [],listed,F,_,hs,E,_,_,c=>by
  refine⟨?_,c⟩;apply List.eq_nil_iff_forall_not_mem.2;intro j R;obtain⟨S,o,ho,-⟩:=mem_ready.1 R;have G:=(C3.1 ho).1;rw[E j G]at S;cases S
 | k::l,listed,F,A,hs,E,a,H,c=>by
  simp only[Ee,I0]at A;obtain⟨⟨⟨⟨q1,q2⟩,q3⟩,Z⟩,q5⟩:=A;have hk:k.1<ops.size:=by simp_all
  have r:ops[k.1]? = some ops[k.1]:=ψ
  have hrf:∀i,i<ops.size->listed.getD i true=true->listed.getD i false=true:=ψ
  have hready:k.1∈Region.ready .any ops listed:=mem_ready.2 ⟨by grind [oO,Nat.beq_refl],_,r,λe he hb=>by
    have G:=b.back k.1 _ r e he hb
    grind [bn,oO]⟩
  have B:∀j,j<ops.size->(listed.setIfInBounds k.1 true).getD j true = !wF l j:=λj R=>by
   by_cases w:j=k.1
   ·simp_all
   rw[getD_set_ne true (Ne.symm w),E j R,oO,show Nat.beq k.1 j=false by rw[<-X4,Nat.beq_eq];exact Ne.symm w];rfl
  show BZ P TE N ops ds K (l.length+1) listed F;simp only[H3]at c;rw[bn r]at c Z;have U:listed.getD k.1 true=false:=(mem_ready.1 hready).1;cases f:oZ ds ops[k.1] with
  | true=>
   rw[f]at c;simp only[cond_true]at c;obtain⟨mv,d,av,hy,c,hnm⟩:=Hg c (λd hd=>a.dst k.1 _ d f r U hd) (λT s g1 g2 g3=>a.mv k.1 _ T s f r U g1 g2 g3);have C:∀e∈ops[k.1].after,Region.binds .any e=true->listed.getD e.on false=true:=by grind [Go.mem_ready]
   refine EQ b r f l.length listed F mv av hready a H hy hnm (zZ b l _ _ q5 (by simpa using hs) B (a.put (λO Q V g D n hl'' J=>?_) (λO Q T s g D n hl'' g1 g2 g3=>?_)) (H.put hready) c)
   ·cases hu:av.uses V with
    | false=>rfl
    | true=>
     rcases hy.from_ V hu with h|⟨t,_,h⟩
     ·have:=b.look O k.1 Q _ V g D n r J h
      grind [ce]
     rw[a.dst O Q V g n hl'' J t]at h;cases h
   cases hu:av.uses s with
   | false=>rfl
   | true=>
    rcases hy.from_ s hu with h|⟨t,_,h⟩
    ·grind [fw,cM]
    rw[a.mv O Q T s g n hl'' g1 g2 g3 t]at h;cases h
  | false=>
   rw[f]at c Z;simp only[cond_false]at c;simp only[Bool.false_or,I0]at Z;obtain⟨⟨r1,r2⟩,r3⟩:=Z;refine⟨ψ,λj R=>?_⟩;obtain⟨hjun,oj,y,C⟩:=mem_ready.1 R;have hjlt:=(C3.1 y).1;have w:j=k.1:=by grind [sC,nY]
   subst w;rw[r]at y;simp only[W0]at y;subst y;unfold tD;rw[r];simp only[f,C9 (show ¬false=true by decide)];have post:∀u,KF P TE ops k.2 (H3 P TE N ops ds nm l K u) u->lw ops ds u (listed.setIfInBounds k.1 true)->(∀p,listed.getD p false=true->oZ ds (dh ops p)=true->ur ops k.1 p=false->PH P TE ops p u)/\BZ P TE N ops ds K l.length (listed.setIfInBounds k.1 true) u:=λu L W=>by
    obtain⟨X,hrd⟩:=yZ L;refine⟨λp hp1 hp2 hp3=>hrd p ?_,zZ b l _ _ q5 (by simpa using hs) B W (H.put hready) X⟩;have hpl:p<ops.size:=ψ
    grind [fN,oO,V1]
   cases hlater:l.any (λj=>oZ ds (dh ops j.1)) with
   | false=>
    refine jt c λu L=>post u L ⟨λO Q V g n hl'' J=>?_,λO Q T s g n hl''=>?_⟩
    all_goals grind [sC,bn]
   | true=>
    rw[hlater]at r3;simp only[Bool.not_true,Bool.false_or,I0]at r3;obtain⟨x,hx1,q⟩:=R3.1 hlater;have Y:listed.getD x.1 true=false/\x.1<ops.size:=by
     have G:x.1<ops.size:=by
      rcases Nat.lt_or_ge x.1 ops.size with h|h
      ·exact h
      rw[show dh ops x.1=default by simp[dh,X5,Array.getElem?_eq_none h]]at q;cases q
     grind [sC]
    have M:ops[x.1]? = some ops[x.1]:=ψ
    rw[bn M]at q;obtain⟨d,hd,hdd⟩:=Gu q;have hxk:x.1≠k.1:=ψ
    refine jt (MM (d:=d) (wb r3.1) r3.2 (λe=>?_) (λhlk=>?_) (a.dst x.1 _ d q M Y.1 hd) c) λu S=>post u S.1 (a.us b r C S.2)
    ·grind [oZ]
    have:=b.look x.1 k.1 _ _ d q hxk M r hd hlk
    grind [ce]
theorem A5{sch:List (Nat × List Nat)}(h:zz ops ds sch=true):NP ops ds (Q1 sch)/\Ee ops ds sch=true/\sch.length=ops.size/\∀j,j<ops.size->wF sch j=true:=by
 unfold zz at h;simp only[I0]at h;obtain⟨⟨p,k⟩,l⟩:=h;have C:=λj (o:j<ops.size)=>fN p o
 have r:∀(i j:Nat)(c b:Oper),i≠j->ops[i]? = some c->ops[j]? = some b->zk ops ds (Q1 sch) i j=true:=λi j c b a f g=>by grind [fN,Nat.beq_eq]
 refine⟨⟨λj b o e t u=>?_,λi j c b n q a f g=>?_,λi j c b d n a f g w D=>?_,λi j c b d n q a f g w t=>?_,λi j c b n q a f g=>?_,λj b T s n o y A=>?_⟩,l,V1 k,λj o=>?_⟩
 ·grind [bn,Nat.blt_eq]
 ·grind [bn,zk]
 ·have:=r i j c b a f g
  unfold zk at this;rw[bn f,bn g,n]at this;have B:rV ops i j=true:=by grind [bn,Nat.beq_refl,rV]
  grind
 ·grind [bn,Nat.beq_refl,zk]
 all_goals grind [bn,zk]
theorem sV{l:List Nat}{j:Nat} : Ag l j=true↔j∈l:=by grind [V1,Nat.beq_refl,Ag]
def B1{p:Nat->Prop} : ∀{l:List Nat}{i:Nat},QG p i l->∀j,j∈i::l->p j
 | [],i,h,j,a=>by rw[C1.1 a];exact h
 | k::l,i,h,j,a=>by
  rcases List.mem_cons.1 a with rfl|a
  ·exact h.1
  exact B1 h.2 j a
theorem Bz{l:List Nat}{K:Prop}{p:Nat->Prop}(h:QD l K p):(l=[]->K)/\∀j∈l,p j:=by
 cases l with
 | nil=>exact⟨λ_=>h,ψ⟩
 | cons i l=>exact⟨ψ,B1 h⟩
theorem qr{listed:Array Bool}{done:List Nat}(h:listed.size=ops.size)(b:∀j,j<ops.size->listed.getD j true=Ag done j)(l:∀k∈done,k<ops.size){j:Nat} : j∈Region.ready .any ops listed↔j∈KC ops done:=by
 have c:∀i,listed.getD i false=Ag done i:=λi=>by grind [sV]
 rw[mem_ready];unfold KC;rw[Y3,List.mem_range,I0];constructor
 ·grind [bn]
 rintro⟨a,n,d⟩
 refine⟨ψ,ops[j],V5 a,λe f g=>?_⟩;have:=T3.1 d e (by rw[bn (V5 a)];simpa using f)
 grind
theorem NV{K:(Nat->AV)->Prop} : ∀(n:Nat)(done:List Nat)(listed:Array Bool)(F:Nat->AV),listed.size=ops.size->(∀j,j<ops.size->listed.getD j true=Ag done j)->(∀k∈done,k<ops.size)->PJ P TE N ops K n done F->BZ P TE N ops [] K n listed F
 | 0,done,listed,F,c,a,f,h=>by
  obtain⟨g,l⟩:=Bz h;have o:KC ops done=[]:=List.eq_nil_iff_forall_not_mem.2 λj b=>l j b
  exact⟨List.eq_nil_iff_forall_not_mem.2 λj b=>(by grind [qr]),g o⟩
 | n+1,done,listed,F,c,a,f,h=>by
  obtain⟨g,l⟩:=Bz h;refine⟨λo=>g (List.eq_nil_iff_forall_not_mem.2 λj b=>(by rw[<-qr c a f,o]at b;cases b)),λi t=>?_⟩;have d:=(qr c a f).1 t;have q:=l i d;have u:i<ops.size:=List.mem_range.1 (Y3.1 d).1;have r:ops[i]? = some ops[i]:=ψ
  unfold tD;rw[r];simp only;rw[bn r]at q;have w:oZ [] ops[i]=false:=by grind [oZ]
  rw[C9 (by rw[w];decide)];refine jt q λy A=>⟨λp _ B=>?_,NV n (i::done) _ y (by simpa using c) (λj b=>?_) (λk C=>?_) A⟩
  ·grind [oZ]
  ·by_cases e:j=i
   ·subst e
    rw[show Ag (j::done) j=true from sV.2 ψ];simp[c,b]
   rw[getD_set_ne true (Ne.symm e),a j b]
   grind [sV]
  grind
theorem uX(g:∀t i,TE t=some i->gg P t i)(y:P.follows .mixedOrders=true){id:Nat}{tb:List (Nat × Nat × List Nat)}(b:mj tb id ops=true){K:(Nat->AV)->Prop}{Q:Exit->Act->World->Prop}(c:DD P TE N tb id ops K F)(A:St w0 M S0 N F a w)(B:∀F' C D,K F'->St w0 M S0 N F' C D->Q .normal C D):(Code.region id ops true).wp P Q a w:=by
 unfold mj at b;unfold DD at c;cases q:vK tb id with
 | none=>grind
 | some p=>
  obtain⟨m,L⟩:=p;rw[q]at b c;simp only at b c;cases k:Nat.ble 65536 m with
  | true=>
   rw[k]at c;refine wp_region_any y ?_;have f:St w0 M S0 N F a {w with drawn:=w.drawn+1}:=by
    obtain⟨S,φ,h⟩:=A;exact⟨S,φ,h.more (w1:={w with drawn:=w.drawn+1}) (λ_ _ h=>h) ψ ⟨rfl,rfl,rfl,U2 _,λ_ _ _=>rfl,λ_ _ _ _=>rfl,λ_ _ _ _=>rfl⟩⟩
   refine pV g (ds:=[]) B ops.size (Array.replicate ops.size false) _ a _ ?_ f;exact NV ops.size [] _ F (by simp) (λj n=>by simp[n,Ag]) ψ c
  | false=>
  rw[k]at b c;simp only[cond_false]at b c;cases r:Nat.ble 256 m with
  | false=>
   grind [Ao]
  | true=>
   rw[r]at b c;simp only[cond_true,Gp]at b c;generalize L.take (m - 256)=ds at b c;generalize dec (L.drop (m - 256))=sch at b c;obtain⟨E,l,e,G⟩:=A5 b;refine wp_region_any y ?_;have f:St w0 M S0 N (Ab.clr ds F) a {w with drawn:=w.drawn+1}:=by
    have O:=A.clr ds;obtain⟨S,φ,h⟩:=O;exact⟨S,φ,h.more (w1:={w with drawn:=w.drawn+1}) (λ_ _ h=>h) ψ ⟨rfl,rfl,rfl,U2 _,λ_ _ _=>rfl,λ_ _ _ _=>rfl,λ_ _ _ _=>rfl⟩⟩
   refine pV g (ds:=ds) B ops.size (Array.replicate ops.size false) _ a _ ?_ f;have u:∀d,ds.any (Nat.beq d)=true->∀t,(Ab.clr ds F t).uses d=false:=λd R t=>by
    rw[zW];cases X:ds.any (λd=>(F t).uses d) with
    | true=>rfl
    | false=>
     simp_all
   rw[<-e];refine zZ E sch _ _ l (by simp[e]) (λj n=>by simp_all) ⟨λj o d H J _ R t=>?_,λj o T s H J _ _ U V t=>u s (E.mvs j o T s H J U V) t⟩ (λj Y n Z=>by
     have W:=(C3.1 n).1
     simp_all) c
   grind [Gu]
end
def jy:List (Option Nat)->Kd
 | [ag]=>kC ag
 | a=>.tup a
def qj:ResultVar->Nat
 | .tmp t=>t
 | .cell t _=>t
def Dk(tmps:Array Value):ResultVar->Sem Value
 | .tmp t=>pure (tmps.getD t undef)
 | .cell a t=>do loadVar t (<-asAddr (tmps.getD a undef))
def resOne(TE:Nat->Option TI)(F:Nat->AV)(r:ResultVar)(K:Option Nat->List C->Prop):Prop:=
 match r with
 | .tmp t=>(match F t with
   | .F .one cs=>K none cs
   | .F .agg cs=>K (some cs.length) cs
   | _=>False)
 | .cell t T=>match TE T with
  | some i=>bif i.agg || Nat.beq i.size 1 then(match F t with
    | .F .box cs=>bif Nat.beq cs.length i.size then K (pc i) cs else False
    | _=>False) else False
  | none=>False
def resA(TE:Nat->Option TI)(F:Nat->AV):List ResultVar->List Nat->(List (Option Nat)->List C->Prop)->Prop
 | [],_,K=>K [] []
 | r::rs,seen,K=>bif seen.any (Nat.beq (qj r)) then False else resOne TE F r λb c=>resA TE F rs (qj r::seen) λd a=>K (b::d) (c++a)
def QB:RA->AV
 | .val a cs=>.F (kC a) cs
 | .ptr cs=>.iref cs 0
 | .fn Ok=>.fv Ok
def uk:Nat->List RA->List (Nat × AV)
 | _,[]=>[]
 | i,A::As=>(i,QB A)::uk (i+1) As
inductive Jr:C->C->Prop
 |rfl_ (c:C):Jr c c
 |z_:Jr .z (.s .own [])
 |own_ (rows rows':List (List C)) (hl:rows.length=rows'.length) (hk:∀(i:Nat)(r r':List C),rows[i]? = some r->rows'[i]? = some r'->r.length=r'.length)
   (hr:∀(i j:Nat)(r r':List C)(c c':C),rows[i]? = some r->rows'[i]? = some r'->r[j]? = some c->r'[j]? = some c'->Jr c c'):Jr (.s .own rows) (.s .own rows')
def KD(cs a:List C):Prop:=cs.length=a.length/\∀(j:Nat)(c b:C),cs[j]? = some c->a[j]? = some b->Jr c b
def KD.nil:KD [] []:=⟨rfl,λj c a h=>by simp at h⟩
theorem KD.cons{c b:C}{cs a:List C}(h:Jr c b)(d:KD cs a):KD (c::cs) (b::a):=by
 refine⟨by simp[d.1],λj y e f g=>?_⟩;cases j with
 | zero=>grind
 | succ j=>exact d.2 j y e (by simpa using f) (by simpa using g)
def Jr.rep{n:Nat}{r k:List C}(h:KD r k):Jr (.s .own (List.replicate n r)) (.s .own (List.replicate n k)):=by
 refine .own_ _ _ (by simp) (λi a b d e=>?_) (λi j a b c p d e l o=>?_)
 ·have f:=List.mem_replicate.1 (U1 d)
  have g:=List.mem_replicate.1 (U1 e);rw[f.2,g.2];exact h.1
 have f:=List.mem_replicate.1 (U1 d);have g:=List.mem_replicate.1 (U1 e);rw[f.2]at l;rw[g.2]at o;exact h.2 j c p l o
theorem Mt{w:World}{S Y:ab}{c:C}{v:Value}(h:df w S Y c v):∀t,Jr c t->df w S Y t v:=by
 induction h with
 | z F a=>
  intro t l;cases l with
  | rfl_=>exact .z _ _
  | z_=>exact .nil _ _ _ trivial
 | nil F o a J=>
  intro t l;cases l with
  | rfl_=>exact .nil _ _ _ J
  | own_ d j L=>obtain rfl:j=[]:=T6 (by simpa using L.symm);exact .nil _ _ _ trivial
 | suf F o g D k n q d u f J K M e A O P l E U=>
  intro t G;cases G with
  | rfl_=>exact .suf _ o g D k n q d u f J K M e A O P l E
  | own_=>exact J.elim
 | own F o g k n q d u f J K M e B A O P l E U=>
  intro t G;cases G with
  | rfl_=>exact .own _ o g k n q d u f J K M e B A O P l E
  | own_ d j L Z V=>
   have W:∀(i:Nat)(X:List C),j[i]? = some X->∃r,d[i]? = some r:=ψ
   refine .own _ .own g k n q j u f trivial (L.symm.trans K) (λX hr'=>?_) e B A O P l ψ
   all_goals grind [List.mem_iff_getElem?]
 | v F x Q=>intro t l;cases l;exact .v _ _ Q
 | x F u Q=>intro t l;cases l;exact .x _ _ Q
 | U F g D k n q d u K M e hS E U=>intro t l;cases l;exact .U _ g D k n q d u K M e hS E
 | m F b p es y A R he T H=>intro t l;cases l;exact .m _ b p es y A R he T H
 | it F r b since c0 p seen y cur left A V R H E T L N=>intro t l;cases l;exact .it _ r b since c0 p seen y cur left A V R H E T L N
def WK(cs a:List C):Prop:=Kg cs a\/KD cs a
inductive jK(k k':Kd)(cs cs':List C):Prop
 |mk_ (h:k=k'/\WK cs cs')
def lS:∀(cs:List C),Kg cs cs
 | []=>trivial
 | c::cs=>by
  refine⟨?_,lS cs⟩;cases c with
  | s o a=>cases o<;>rfl
  | x=>trivial
  | _=>rfl
def jK.mk{k b:Kd}{cs a:List C}(h1:k=b)(c:cs=a):jK k b cs a:=by refine .mk_ ?_;exact⟨h1,.inl (c ▸ lS cs)⟩
def jK.wk{k b:Kd}{cs a:List C}(h1:k=b)(c:Kg cs a):jK k b cs a:=.mk_ ⟨h1,.inl c⟩
def jK.dk{k b:Kd}{cs a:List C}(h1:k=b)(c:KD cs a):jK k b cs a:=.mk_ ⟨h1,.inr c⟩
def jK.out{k b:Kd}{cs a:List C}(h:jK k b cs a):k=b/\WK cs a:=by obtain⟨h⟩:=h;exact h
theorem WK.len{cs a:List C}(h:WK cs a):cs.length=a.length:=h.elim (λh=>(qA h).1) (λh=>h.1)
theorem WK.row{w:World}{S Y:ab}{cs c:List C}{u:Nat->Value}(a:WK cs c)(h:cx w S Y cs u):cx w S Y c u:=by
 rcases a with a|a
 ·exact A2 a h
 obtain⟨f,k,l,n⟩:=h;refine⟨f,λj i b=>?_,λj b=>l j (by rw[a.1];exact b),λj o b e=>n j o (by rw[a.1];exact b) (by rw[a.1];exact e)⟩;have g:=(Z1.1 b).1;have d:cs[j]? = some (cs[j]'(by rw[a.1];exact g)):=ψ
 exact Mt (k j _ d) i (a.2 j _ i d b)
def MF(TE:Nat->Option TI)(c:List ResultVar)(k:Kd)(rcs:List C):Exit->(Nat->AV)->Prop:=λe F=>
 match e with
 | .normal=>resA TE F c [] λa b=>jK (jy a) k b rcs
 | .ret=>resA TE F c [] λa b=>jK (jy a) k b rcs
 | _=>False
def MH(F:Nat->AV)(t:Nat)(rcs:List C):Prop:=
 match F t with
 | .F .box cs=>jK .box .box cs rcs
 | .ref a 0 []=>(match F a with
   | .F .box cs=>jK .box .box cs rcs
   | _=>False)
 | _=>False
def Qb(t:Nat)(rcs:List C):Exit->(Nat->AV)->Prop:=λe F=>
 match e with
 | .normal=>MH F t rcs
 | .ret=>MH F t rcs
 | _=>False
section
variable{P:Program}{w0 w w1:World}{M S0 S:ab}{N:dU}{φ:Nat->ab}{F:Nat->AV}{a:Act}{TE:Nat->Option TI}
theorem aV.resOne(h:aV w0 M S0 N S φ F a w)(n:∀t i,TE t=some i->gg P t i){r:ResultVar}{K:Option Nat->List C->Prop}(b:resOne TE F r K) :
  ∃ag cs v,K ag cs/\bu w S (φ (qj r)) ag cs v/\(Dk a.tmps r).run P w=.ok v w:=by
 cases r with
 | tmp t=>
  have e:=h.slot t;simp only[Ab.resOne]at b;cases p:F t with
  | F k cs=>
   rw[p]at b e;obtain⟨E,Y,G,j,H,A,l⟩:=e;cases k with
   | one=>exact⟨none,cs,tvs a t,b,⟨A,_,rfl,l.mono (λ_ _ h=>h) j⟩,rfl⟩
   | agg=>
    obtain⟨arr,q,u⟩:=A;refine⟨some cs.length,cs,tvs a t,b,⟨rfl,cb w .agg (tvs a t),?_,l.mono (λ_ _ h=>h) j⟩,rfl⟩;rw[q];have:=mB arr;rw[u]at this;exact this
   | _=>exact b.elim
  | _=>grind
 | cell t T=>
  have e:=h.slot t;simp only[Ab.resOne]at b;split at b
  case h_2=>exact b.elim
  rename_i i J;have L:=n _ _ J;cases B:(i.agg || Nat.beq i.size 1) with
  | false=>grind
  | true=>
   rw[B]at b;simp only[cond_true]at b;cases p:F t with
   | F k cs=>
    rw[p]at b e;cases k with
    | box=>
     simp only at b;cases D:Nat.beq cs.length i.size with
     | false=>grind
     | true=>
      rw[D]at b;have O:=V1 D;obtain⟨E,Y,G,j,H,⟨g,o,q,Q⟩,l⟩:=e;have c:∀d,d<i.size->cel w g (o+d)=some (cb w .box (tvs a t) d):=λd R=>by grind [cb]
      have f:=wl (w:=w) L B c;refine⟨_,cs,_,b,⟨by grind [o9],_,rfl,l.mono (λ_ _ h=>h) j⟩,?_⟩;have y:a.tmps.getD t undef=.pointer (some ⟨g,o,none⟩):=q;simp only[Dk,y,asAddr];exact f
    | _=>exact b.elim
   | _=>grind
def EP{ag:Option Nat}{cs:List C}{v:Value}{Y:ab}(h:bu w S Y ag cs v):∃u,v.cells.toList=(List.range cs.length).map u/\cx w S Y cs u/\v=mkv ag u:=by
 obtain⟨a,u,rfl,b⟩:=h;refine⟨u,?_,b,rfl⟩;rw[oT (λe=>by subst e;exact b.one (by simp at a;omega)),a]
theorem Ex{d e:ab}{cs a:List C}{u g:Nat->Value}(h:cx w S d cs u)(h':cx w S e a g)(p:∀b o,d b o->¬e b o) :
  cx w S (λb o=>d b o\/e b o) (cs++a) (λj=>if j<cs.length then u j else g (j - cs.length)):=by
 obtain⟨f,q,r,t⟩:=h;obtain⟨i,k,l,n⟩:=h';refine⟨λj=>if j<cs.length then f j else i (j - cs.length),λj c y=>?_,ψ,ψ⟩
 all_goals grind
theorem aV.resA(h:aV w0 M S0 N S φ F a w)(f:∀t i,TE t=some i->gg P t i):∀{q:List ResultVar}{seen:List Nat}{K:List (Option Nat)->List C->Prop},resA TE F q seen K->
  ∃sh cs d u,K sh cs/\(q.mapM (Dk a.tmps)).run P w=.ok d w/\ww sh d/\sh.length=q.length/\wu sh=cs.length/\
   (d.flatMap λv=>v.cells.toList)=(List.range cs.length).map u/\(∀ag,sh=[ag]->∃v,d=[v]/\bu w S (λb o=>∃t,t∉seen/\φ t b o) ag cs v)/\cx w S (λb o=>∃t,t∉seen/\φ t b o) cs u
 | [],seen,K,c=>⟨[],[],[],λ_=>undef,c,rfl,trivial,rfl,rfl,rfl,ψ,cx.nil _ _ _ _⟩
 | r::q,seen,K,c=>by
  simp only[Ab.resA]at c;cases e:seen.any (Nat.beq (qj r)) with
  | true=>grind
  | false=>
   rw[e]at c;simp only[cond_false]at c;have O:qj r∉seen:=λZ=>by grind [Nat.beq_refl]
   obtain⟨ag,cs,v,c,y,H⟩:=h.resOne f c;obtain⟨sh,g,d,Q,R,A,B,D,T,hcells,-,k⟩:=aV.resA h f c;obtain⟨u,E,J,l⟩:=EP y;have U:∀b o,φ (qj r) b o->¬∃t,t∉qj r::seen/\φ t b o:=λb o V ⟨t,ht,G⟩=>h.dis _ _ ψ b o V G
   refine⟨ag::sh,cs++g,v::d,λj=>if j<cs.length then u j else Q (j - cs.length),R,?_,?_,by simp[D],?_,?_,?_,?_⟩
   ·simp_all
   ·obtain⟨W,-⟩:=y
    cases ag with
    | none=>
     refine⟨?_,B⟩;rw[l];have L:(u 0).oneCell'=true:=J.one (by simp at W;omega);show(u 0).cells = #[u 0];cases X:u 0<;>first|(rw[X]at L;cases L;done)|rfl
    | some n=>exact⟨⟨_,by rw[l];rfl,by simp⟩,B⟩
   ·rw[pN,X2,T,y.1]
   ·simp only[Y5,E,hcells,X2]
    apply List.ext_getElem?
    grind
   ·intro Y p
    simp only[List.cons.injEq]at p;obtain⟨rfl,rfl⟩:=p;cases d with
    | cons _ _=>exact B.elim
    | nil=>
     have:g=[]:=T6 (by simp_all);subst this;exact⟨v,rfl,by rw[List.append_nil];exact y.mono (λ_ _ h=>h) ψ⟩
   exact(Ex J k U).mono (λ_ _ h=>h) ψ
theorem sJ:∀{A:List RA}{b:List Value}(i:Nat),vk w S A b->∀t,(lay (uk i A) t=.dead)\/(∃a v,i<=t/\b[t - i]? = some v/\lay (uk i A) t=QB a/\mt w S a v)
 | [],_,i,_,t=>.inl rfl
 | a::A,[],i,h,t=>h.elim
 | a::A,v::b,i,h,t=>by
  simp only[uk,lay];cases c:Nat.beq t i with
  | true=>
   have:=V1 c;subst this;exact .inr ⟨a,v,U2 _,by simp,rfl,h.1⟩
  | false=>
   have d:t≠i:=λe=>by simp_all
   rcases sJ (i+1) h.2 t with f|⟨g,j,f,k,l⟩
   all_goals grind
theorem mt.slot{A:RA}{v:Value}(h:mt w S A v){tv:Nat->Value} : cu w S F tv NO (QB A) v:=by
 cases A with
 | val f a=>exact bu.slot h
 | ptr a=>obtain⟨g,b,u,c,d,e⟩:=h;exact⟨g,b,u,by rw[c,Nat.add_zero],d,e⟩
 | fn Ok=>exact h
def zA:∀{A:List RA}{a:List Value},vk w S A a->A.length=a.length
 | [],[],_=>rfl
 | _::_,_::_,h=>by simp[zA h.2]
 | [],_::_,h=>h.elim
 | _::_,[],h=>h.elim
theorem HL{D : Nat -> Array Oper -> ((Nat -> AV) -> Prop) -> (Nat -> AV) -> Prop}{f : Nat}{d : Func}{c : Code}{sh : Bool}{A : List RA}{k : Kd}{rcs : List C}(K : ∀t i, TE t = some i -> gg P t i)(hf : P.funcs[f]? = some d)(hn : (d.name == "runtime.NumGoroutine") = false)(p:d.body=some c){ck:Nat->Array Oper->Bool}(hD:vS P N ck D)(hc:f8 ck c=true)(hN:A.length+(d.ntmps - A.length)=N.n)(hkp:N.kp=[])(U:sh=true\/gn rcs)(hp:aw P TE N D c (MF TE d.results.toList k rcs) (lay (uk 0 A))):ao P f sh A k rcs:=by
 refine⟨⟨d,hf,hn,by rw[p];rfl⟩,λw S r hS hA=>?_⟩;have hlen:=zA hA;refine calls_of_wp hf p ?_;have V:St w NO S N (lay (uk 0 A)) {tmps:=r.toArray++Array.replicate (d.ntmps - r.toArray.size) undef,defers:=[]} w:=by
  refine⟨S,λ_=>NO,λt=>?_,λ_ _ _ _ _ h=>h.elim,λ_ _ _ h=>h.elim,λ_ _ _ h=>h.elim,λ_ _ h=>h,ψ,CV _ _,by simp;omega,rfl,ψ⟩;rcases sJ 0 hA t with y|⟨A0,v,-,B,G,h4⟩
  ·rw[y];trivial
  rw[G];have hv:tvs {tmps:=r.toArray++Array.replicate (d.ntmps - r.toArray.size) undef,defers:=[]} t=v:=by
   have hlt:=(Z1.1 B).1;simp only[tvs,X5]
   grind
  grind [mt.slot]
 refine i6 K hD c hc _ _ _ _ w hp V λe F' J g W Z=>?_
 obtain⟨S',φ',h⟩:=Z;have fin:resA TE F' d.results.toList [] (λsh L=>jK (jy sh) k L rcs)->J.defers=[]/\∃v,(results d J.tmps).run P g=.ok v g/\(∃v',Ending.returned v=.returned v'/\b8 NO w g/\∃X S1:ab,(∀b o,X b o->b<g.heap.size/\w.heap.size<=b)/\
     (∀b o,S1 b o->(sh=true/\S b o)\/(b<g.heap.size/\w.heap.size<=b))/\(∀b o,X b o->¬S1 b o)/\fe g NO k rcs.length v'/\cx g S1 X rcs (cb g k v')):=by
  intro hr;obtain⟨shs,L,a,u,M,hrun,q,hln,R,hcells,l,O⟩:=h.resA K hr;obtain⟨rfl,hwk⟩:=M.out;refine⟨h.defers,?_⟩;have H:(results d J.tmps).run P g=.ok (if h:a.toArray.size=1 then a.toArray[0] else .tuple a.toArray) g:=by
   have e:results d J.tmps=(do let r <-d.results.mapM (Dk J.tmps);pure (if h:r.size=1 then r[0] else .tuple r)):=by
    unfold results
    congr 1
   rw[e,<-Array.toArray_toList (xs:=d.results),List.mapM_toArray]
   simp_all
  refine⟨_,H,_,rfl,h.old,λb o=>∃t,φ' t b o,λb o=>(sh=true/\S' b o)\/(S' b o/\w.heap.size<=b),λb o ⟨t,p⟩=>⟨(h.ex t b o p).1,(h.ex t b o p).2.resolve_right (λh=>h)⟩,λb o p=>?_,λb o ⟨t,p⟩ hb'=>h.disS t b o p ψ,?_⟩
  ·rcases p with⟨y,B⟩|⟨y,B⟩
   ·rcases(h.sup b o B).2 with G|G|G
    ·grind
    ·exact .inr ⟨(h.sup b o B).1,G⟩
    exact G.elim
   exact .inr ⟨(h.sup b o y).1,B⟩
  have Q:fe g NO (jy shs) L.length (if h:a.toArray.size=1 then a.toArray[0] else .tuple a.toArray)/\cx g S' (λb o=>∃t,φ' t b o) L (cb g (jy shs) (if h:a.toArray.size=1 then a.toArray[0] else .tuple a.toArray)):=by
   have E:∀b o,(∃t,t∉([]:List Nat)/\φ' t b o)->∃t,φ' t b o:=ψ
   match shs,q,l,R with
   | [],q,_,R=>
    cases a with
    | cons _ _=>exact q.elim
    | nil=>
     have:L=[]:=ψ
     subst this;exact⟨⟨_,rfl,trivial,rfl⟩,cx.nil _ _ _ _⟩
   | [T],_,l,_=>
    obtain⟨v,rfl,hv⟩:=l T rfl;have:=(hv.mono (λ_ _ h=>h) E).slot (F:=F') (tv:=tvs J);obtain⟨X1,Y,y,B,G,h4,h5⟩:=this;refine⟨?_,h5.mono (λ_ _ h=>h) B⟩;cases T<;>exact h4
   | T::ag2::sh,q,_,R=>
    have hsz:¬a.toArray.size=1:=by
     match a,q with
     | [],q=>simp
     | [v],q=>cases T<;>cases ag2<;>exact q.2.elim
     | _::_::_,_=>simp
    rw[dif_neg hsz];refine⟨⟨_,rfl,q,R⟩,(O.mono (λ_ _ h=>h) E).congr λj hj=>?_⟩;simp only[cb,jy,lV,hcells];simp[List.getD,hj]
  replace Q:=CI Q.1 (hwk.row Q.2);refine⟨by grind [WK.len],?_⟩;rcases U with y|y
  ·exact Q.2.mono ψ (λ_ _ h=>h)
  exact(Q.2.fresh y).mono (λ_ _ h=>h.elim) (λ_ _ h=>h)
 cases e with
 | normal=>exact fin W
 | ret=>exact fin W
 | _=>exact W.elim
theorem Jb{D : Nat -> Array Oper -> ((Nat -> AV) -> Prop) -> (Nat -> AV) -> Prop}{f t : Nat}{j : Func}{c : Code}{A : List RA}{rcs : List C}(K : ∀t i, TE t = some i -> gg P t i)(hf : P.funcs[f]? = some j)(hn : (j.name == "runtime.NumGoroutine") = false)(a:j.body=some c){ck:Nat->Array Oper->Bool}(hD:vS P N ck D)(hc:f8 ck c=true)(hN:A.length+(j.ntmps - A.length)=N.n)(hkp:N.kp=[])(hr:j.results = #[.tmp t])(hp:aw P TE N D c (Qb t rcs) (lay (uk 0 A))):qp P f true A .box rcs:=by
 refine⟨⟨j,hf,hn,by rw[a];rfl⟩,λw S F hS hA=>?_⟩;have hlen:=zA hA;refine calls_of_wp hf a ?_;have L:St w NO S N (lay (uk 0 A)) {tmps:=F.toArray++Array.replicate (j.ntmps - F.toArray.size) undef,defers:=[]} w:=by
  refine⟨S,λ_=>NO,λt=>?_,λ_ _ _ _ _ h=>h.elim,λ_ _ _ h=>h.elim,λ_ _ _ h=>h.elim,λ_ _ h=>h,ψ,CV _ _,by simp;omega,rfl,ψ⟩;rcases sJ 0 hA t with G|⟨A0,v,-,H,J,h4⟩
  ·rw[G];trivial
  rw[J];have hv:tvs {tmps:=F.toArray++Array.replicate (j.ntmps - F.toArray.size) undef,defers:=[]} t=v:=by
   have hlt:=(Z1.1 H).1;simp only[tvs,X5]
   grind
  grind [mt.slot]
 refine i6 K hD c hc _ _ _ _ w hp L λe F' q k M O=>?_
 obtain⟨S',φ',h⟩:=O;have fin:MH F' t rcs->q.defers=[]/\∃v,(results j q.tmps).run P k=.ok v k/\(∃Q,Ending.returned v=.returned Q/\b8 NO w k/\∃X R:ab,(∀b o,X b o->b<k.heap.size/\w.heap.size<=b)/\
     (∀b o,R b o->(true=true/\S b o)\/(b<k.heap.size/\w.heap.size<=b))/\(∀b o,X b o->¬R b o)/\∃r Y:ab,(∀b o,r b o->X b o)/\(∀b o,Y b o->X b o)/\(∀b o,r b o->¬Y b o)/\fe k r .box rcs.length Q/\cx k R Y rcs (cb k .box Q)):=by
  intro l;have core:∃(d:Nat)(u:List C),tvs q t=tvs q d/\F' d=.F .box u/\jK .box .box u rcs:=by
   unfold MH at l;split at l
   ·grind
   ·rename_i d T
    split at l
    case h_2=>exact l.elim
    rename_i u y;refine⟨d,u,?_,y,l⟩;have B:=h.slot t;rw[T]at B;obtain⟨k0,cs0,r0,j0,g0,o0,U,-,e3,e4⟩:=B;have E:=h.slot d;rw[y]at E;rw[y]at U;simp only[AV.F.injEq]at U;obtain⟨rfl,rfl⟩:=U;obtain⟨r,Y,G,H,J,⟨g,o,hv,-⟩,h5⟩:=E
    grind [plc,nw]
   exact l.elim
  obtain⟨d,u,V,y,l⟩:=core;have W:=l.out.2;have E:=h.slot d;rw[y]at E;obtain⟨r,Y,G,H,J,h4,h5⟩:=E;refine⟨h.defers,tvs q d,?_,tvs q d,rfl,h.old,φ' d,λb o=>S' b o/\(S b o\/w.heap.size<=b),λb o a=>⟨(h.ex d b o a).1,(h.ex d b o a).2.resolve_right (λh=>h)⟩,λb o a=>?_,λb o a Z=>h.disS d b o a Z.1,r,Y,G,H,J,?_,?_⟩
  ·rw[<-V];simp[results,hr,tvs]
  ·rcases a.2 with p|p
   ·grind
   exact .inr ⟨(h.sup b o a.1).1,p⟩
  ·grind [WK.len]
  exact(W.row h5).mono (λb o a=>⟨a,by
    rcases(h.sup b o a).2 with p|p|p
    · exact .inl p
    · exact .inr p
    exact p.elim⟩) (λ_ _ h=>h)
 cases e with
 | normal=>exact fin M
 | ret=>exact fin M
 | _=>exact M.elim
end
def DF(P:Program)(TE:Nat->Option TI)(N:dU)(tb:List (Nat × Nat × List Nat))(id:Nat)(ops:Array Oper)(K:(Nat->AV)->Prop)(F:Nat->AV):Prop:=
 match vK tb (id+1048576) with
 | some (t,offs)=>qB t offs (DD P TE N tb id ops K) F
 | none=>DD P TE N tb id ops K F
def pP{P:Program}{TE:Nat->Option TI}(a:∀t i,TE t=some i->gg P t i)(e:P.follows .mixedOrders=true)(N:dU)(tb:List (Nat × Nat × List Nat)):vS P N (mj tb) (DF P TE N tb):=
 λ_ _ b _ _ _ _ _ _ _ _ c f g=>by
  unfold DF at c;split at c
  ·obtain⟨j,h,d⟩:=vm c f
   exact uX a e b h d g
  exact uX a e b c f g
def zI:C:=.v (.int .i64 0)
def FR:List (Nat × Nat × TI)->Nat->Option TI
 | [],_=>none
 | p::l,t=>bif Nat.beq t p.1 || Nat.beq t p.2.1 then some p.2.2 else FR l t
def P4(P:Program):List (Nat × Nat × TI)->Prop
 | []=>True
 | p::l=>(gg P p.1 p.2.2/\gg P p.2.1 p.2.2)/\P4 P l
def Bv{P:Program} : ∀{l:List (Nat × Nat × TI)},P4 P l->∀t i,FR l t=some i->gg P t i
 | [],_,t,i,h=>by cases h
 | p::l,b,t,i,h=>by
  simp only[FR]at h;cases a:(Nat.beq t p.1 || Nat.beq t p.2.1) with
  | true=>
   rw[a]at h;simp only[cond_true,W0]at h;subst h;simp only[U5]at a;rcases a with e|e
   ·rw[V1 e];exact b.1.1
   rw[V1 e];exact b.1.2
  | false=>rw[a]at h;exact Bv b.2 t i h
def Q9:TypeDesc->Prop
 | .struct _=>False
 | .array _ _=>False
 | _=>True
def QU:TypeDesc->Option (List (Nat × Nat))
 | .struct fs=>some (fs.toList.map (λf=>(f.offset,f.type)))
 | _=>none
section
variable{P:Program}{t e:Nat}{i:TI}
def QW{d:TypeDesc}(k:i.kind=.sc d:=by rfl)(h:P.underlying t=some d:=by kernel_rfl)(a:(P.info? t).map (λx=>(x.zero.map (·.cells.toList),x.size,x.bytes))=some (some (i.zero.map cval),i.size,i.bytes):=by kernel_rfl)(z:jD i.zero:=by repeat' first|exact trivial|refine CI rfl ?_)(n:Q9 d:=by trivial):gg P t i:=⟨a,z,by rw[k];refine⟨h,?_⟩;revert n;cases d<;>exact id⟩
def QV(k:i.kind=.sl e:=by rfl)(h:P.underlying t=some (.slice e):=by kernel_rfl)(a:(P.info? t).map (λx=>(x.zero.map (·.cells.toList),x.size,x.bytes))=some (some (i.zero.map cval),i.size,i.bytes):=by kernel_rfl)(z:jD i.zero:=by repeat' first|exact trivial|refine CI rfl ?_):gg P t i:=⟨a,z,by rw[k];exact h⟩
def QY{f:List (Nat × Nat)}(k:i.kind=.st f:=by rfl)(h:(P.underlying t).bind QU=some f:=by kernel_rfl)(a:(P.info? t).map (λx=>(x.zero.map (·.cells.toList),x.size,x.bytes))=some (some (i.zero.map cval),i.size,i.bytes):=by kernel_rfl)(z:jD i.zero:=by repeat' first|exact trivial|refine CI rfl ?_):gg P t i:=⟨a,z,by
  rw[k];obtain⟨d,b,c⟩:=Option.bind_eq_some_iff.1 h;cases d<;>cases c
  exact⟨_,b,rfl⟩⟩
def Rb{v:Value}(k:i.kind=.mp 3 e v:=by rfl)(h:P.underlying t=some (.map 3 e):=by kernel_rfl)(d:P.underlying 3=some (.int .i64):=by kernel_rfl)(a:(P.info? t).map (λx=>(x.zero.map (·.cells.toList),x.size,x.bytes))=some (some (i.zero.map cval),i.size,i.bytes):=by kernel_rfl)(z:jD i.zero:=by repeat' first|exact trivial|refine CI rfl ?_)(b:(P.info? e).bind (·.zero)=some v:=by kernel_rfl)(c:v.oneCell'=true:=by rfl):gg P t i:=⟨a,z,by rw[k];exact⟨h,d,b,c⟩⟩
end
def tab:List (Nat × Nat × TI):=[(3,2,⟨1,8,[zI],.sc (.int .i64)⟩),(4,4,⟨1,1,[.v (.bool false)],.sc .bool⟩),(5,6,⟨1,1,[.v (.int .u8 0)],.sc (.int .u8)⟩),(7,8,⟨4,24,[zI,zI,.v (.bool false),.v (.int .u8 0)],.st [(0,2),(1,3),(2,4),(3,6)]⟩),(9,10,⟨1,16,[.v (.string ⟨#[]⟩)],.sc .string⟩),(11,11,⟨1,16,[.v (.string ⟨#[]⟩)],.sc .string⟩),(12,225,⟨1,8,[.v (.int .u64 0)],.sc (.int .u64)⟩),(13,14,⟨2,24,[.v (.string ⟨#[]⟩),.v (.int .u64 0)],.st [(0,9),(1,12)]⟩),(21,327,⟨1,4,[.v (.int .i32 0)],.sc (.int .i32)⟩),(22,22,⟨1,24,[.z],.sl 5⟩),(24,24,⟨1,24,[.z],.sl 33⟩),(25,25,⟨1,24,[.z],.sl 4⟩),(26,27,⟨2,48,[.z,.z],.st [(0,24),(1,25)]⟩),(28,28,⟨1,24,[.z],.sl 114⟩),(29,30,⟨1,24,[.z],.st [(0,28)]⟩),(31,32,⟨3,72,[.z,.z,.z],.st [(0,27),(2,30)]⟩),(33,33,⟨1,24,[.z],.sl 3⟩),(34,35,⟨5,104,[.z,.z,.z,zI,.z],.st [(0,32),(3,3),(4,33)]⟩),(36,36,⟨1,24,[.z],.sl 150⟩),(37,37,⟨1,24,[.z],.sl 67⟩),(38,38,⟨1,24,[.z],.sl 76⟩),(39,39,⟨1,24,[.z],.sl 83⟩),(40,40,⟨1,24,[.z],.sl 86⟩),(41,41,⟨1,24,[.z],.sl 130⟩),(42,43,⟨2,48,[.z,.z],.st [(0,41),(1,24)]⟩),(44,44,⟨1,24,[.z],.sl 129⟩),(45,46,⟨2,32,[zI,.z],.st [(0,3),(1,44)]⟩),(47,48,⟨3,40,[zI,zI,.z],.st [(0,3),(1,3),(2,33)]⟩),(49,50,⟨5,56,[zI,zI,.z,zI,zI],.st [(0,48),(3,3),(4,3)]⟩),(51,52,⟨24,400,[.z,.z,.z,zI,.z,.z,.z,.z,.z,.z,.z,.z,zI,.z,zI,zI,zI,zI,.v (.bool false),zI,zI,.z,zI,zI],.st [(0,35),(5,36),(6,37),(7,38),(8,39),(9,40),(10,43),(12,46),(14,3),(15,3),(16,3),(17,3),(18,4),(19,50)]⟩),(53,53,⟨1,24,[.z],.sl 200⟩),(54,55,⟨2,32,[zI,.z],.st [(0,3),(1,53)]⟩),(56,57,⟨26,432,[.z,.z,.z,zI,.z,.z,.z,.z,.z,.z,.z,.z,zI,.z,zI,zI,zI,zI,.v (.bool false),zI,zI,.z,zI,zI,zI,.z],.st [(0,52),(24,55)]⟩),(59,59,⟨1,24,[.z],.sl 9⟩),(62,63,⟨8,64,[zI,zI,zI,zI,zI,zI,zI,zI],.st [(0,3),(1,3),(2,3),(3,3),(4,3),(5,3),(6,3),(7,3)]⟩),(66,67,⟨3,24,[zI,zI,zI],.st [(0,3),(1,3),(2,3)]⟩),(75,76,⟨3,24,[zI,zI,zI],.st [(0,3),(1,3),(2,3)]⟩),(82,83,⟨4,32,[zI,zI,zI,zI],.st [(0,3),(1,3),(2,3),(3,3)]⟩),(85,86,⟨1,24,[.z],.st [(0,24)]⟩),(89,90,⟨4,32,[zI,zI,zI,zI],.st [(0,3),(1,3),(2,3),(3,3)]⟩),(96,97,⟨5,56,[zI,zI,zI,zI,.z],.st [(0,3),(1,3),(2,3),(3,3),(4,33)]⟩),(99,99,⟨1,24,[.z],.sl 143⟩),(101,102,⟨3,40,[.z,zI,zI],.st [(0,22),(1,3),(2,3)]⟩),(113,114,⟨2,16,[zI,zI],.st [(0,3),(1,3)]⟩),(128,129,⟨3,24,[zI,zI,zI],.st [(0,3),(1,3),(2,3)]⟩),(130,130,⟨1,24,[.z],.sl 132⟩),(131,132,⟨2,16,[zI,zI],.st [(0,3),(1,3)]⟩),(142,143,⟨5,40,[zI,zI,zI,zI,zI],.st [(0,3),(1,3),(2,3),(3,3),(4,3)]⟩),(149,150,⟨2,16,[zI,zI],.st [(0,3),(1,3)]⟩),(152,152,⟨1,8,[.v (.map none)],.mp 3 4 (.bool false)⟩),(160,160,⟨1,8,[.v (.map none)],.mp 3 3 (.int .i64 0)⟩),(199,200,⟨2,32,[zI,.z],.st [(0,3),(1,33)]⟩),(211,211,⟨1,24,[.z],.sl 217⟩),(216,217,⟨2,16,[zI,zI],.st [(0,3),(1,3)]⟩),(232,304,⟨1,8,[.v (.int .u64 0)],.sc (.int .u64)⟩),(273,273,⟨1,8,[zI],.sc (.int .i64)⟩),(281,281,⟨1,4,[.v (.int .u32 0)],.sc (.int .u32)⟩),(321,322,⟨0,0,[],.st [(0,320)]⟩),(324,325,⟨1,1,[.v (.int .u8 0)],.sc (.int .u8)⟩),(328,328,⟨1,4,[.v (.int .i32 0)],.sc (.int .i32)⟩)]
set_option maxRecDepth 100000 in
def Py:P4 Tryz.prog tab:=by repeat' first|exact trivial|refine CI (CI ?_ ?_) ?_|exact QV|exact QY|exact QW|exact Rb
def TE:Nat->Option TI:=FR tab
def yX:∀t i,TE t=some i->gg Tryz.prog t i:=Bv Py
def Pp:C->Value->C
 | .s .own rows,v=>.s (.tag v) rows
 | .s .suf rows,v=>.s (.tagS v) rows
 | c,_=>c
def yd(u:Nat->Value):Nat->List C->List C
 | _,[]=>[]
 | j,c::cs=>Pp c (u j)::yd u (j+1) cs
def vQ(u:Nat->Nat->Value):Nat->List MA->List (Nat × AV)
 | _,[]=>[]
 | i,.val a cs::A=>(i,.F (kC a) cs)::vQ u (i+1) A
 | i,.mut a cs::A=>(i,.F (kC a) (yd (u i) 0 cs))::vQ u (i+1) A
 | i,.ptr cs::A=>(i,.F .box cs)::vQ u (i+1) A
def GI(p:Nat->Value):Nat->List MA->List (Nat × Value)
 | _,[]=>[]
 | i,.ptr _::A=>(i,p i)::GI p (i+1) A
 | i,_::A=>GI p (i+1) A
def Db:Nat->List MA->List (Nat × Nat)->List (Option Nat)
 | i,.val _ _::A,_::pl=>none::Db (i+1) A pl
 | i,.mut _ _::A,p::pl=>some p.1::Db (i+1) A pl
 | i,.ptr _::A,_::pl=>some i::Db (i+1) A pl
 | _,_,_=>[]
def EL:List (Option Nat)->Bool
 | []=>true
 | none::l=>EL l
 | some t::l=>l.all (λx=>match x with|some a=>!Nat.beq t a|none=>true)&&EL l
def sles:List (Option Nat)->List Nat
 | []=>[]
 | none::l=>sles l
 | some t::l=>t::sles l
def Q2(v:Value)(c y o:C):Prop:=
 match c with
 | .s .own _=>(match y with|.s (.tag v') rows=>v'=v/\o=.s .own rows|_=>False)
 | .s (.tag _) _=>False
 | .s .suf _=>(match y with|.s (.tagS v') rows=>v'=v/\o=.s .suf rows|_=>False)
 | .s (.tagS _) _=>False
 | .m _=>False
 | .it _ _=>False
 | c=>o=c
def NL(u:Nat->Value):Nat->List C->List C->List C->Prop
 | _,[],_,o=>o=[]
 | j,c::cs,y::xs,o::os=>Q2 (u j) c y o/\NL u (j+1) cs xs os
 | _,_,_,_=>False
def gR(u:Nat->Nat->Value)(F:Nat->AV):Nat->List MA->List (Nat × Nat)->List MA->Prop
 | _,[],_,[]=>True
 | i,.val _ _::A,_::pl,.val _ _::B=>gR u F (i+1) A pl B
 | i,.mut ag cs::A,p::pl,.mut a out::B=>(a=ag/\match F p.1 with|.F _ xs=>NL (u i) 0 cs (xs.drop p.2) out|_=>False)/\gR u F (i+1) A pl B
 | i,.ptr _::A,_::pl,.ptr out::B=>(match F i with|.F .box xs=>xs=out|_=>False)/\gR u F (i+1) A pl B
 | _,_,_,_=>False
inductive aO(k k':Kd)(cs cs':List C)(Q:Prop):Prop
 |mk_ (h:k=k'/\cs=cs'/\Q)
theorem aO.mk{k b:Kd}{cs a:List C}{Q:Prop}(h1:k=b)(c:cs=a)(d:Q):aO k b cs a Q:=by refine .mk_ ?_;grind
def CF:type_of% @aO.mk:=@aO.mk
def aO.out{k b:Kd}{cs a:List C}{Q:Prop}(h:aO k b cs a Q):k=b/\cs=a/\Q:=by obtain⟨h⟩:=h;exact h
def PB(TE:Nat->Option TI)(d:List ResultVar)(k:Kd)(rcs:List C)(u:Nat->Nat->Value)(A B:List MA)(a:List (Nat × Nat)):Exit->(Nat->AV)->Prop:=λe F=>
 match e with
 | .normal=>resA TE F d (sles (Db 0 A a)) λb c=>aO (jy b) k c rcs (gR u F 0 A a B)
 | .ret=>resA TE F d (sles (Db 0 A a)) λb c=>aO (jy b) k c rcs (gR u F 0 A a B)
 | _=>False
section
variable{P:Program}{w0 w w1:World}{M S0 S:ab}{N:dU}{φ:Nat->ab}{F:Nat->AV}{a:Act}{TE:Nat->Option TI}
theorem df.tag{Y:ab}{c:C}{v:Value}(h:df w S Y c v):df w S Y (Pp c v) v:=by
 cases h with
 | nil _ o a l=>cases o with
  | own=>exact .nil _ _ _ rfl
  | suf=>exact .nil _ _ _ rfl
  | _=>exact .nil _ _ _ l
 | own _ o g k n i d u f l B D e A q F G H t=>cases o with
  | own=>exact .own _ _ g k n i d u f rfl B D e A q F G H t
  | U=>exact l.elim
  | tag z=>exact .own _ _ g k n i d u f l B D e A q F G H t
  | suf=>exact l.elim
  | tagS z=>exact l.elim
 | suf _ o g y k n i d u f l B D e q F G H t=>cases o with
  | suf=>exact .suf _ _ g y k n i d u f rfl B D e q F G H t
  | tagS z=>exact .suf _ _ g y k n i d u f l B D e q F G H t
  | own=>exact l.elim
  | U=>exact l.elim
  | tag z=>exact l.elim
 | v _ x K=>exact .v _ _ K
 | x _ u K=>exact .x _ _ K
 | z _ a=>exact .z _ _
 | U _ g y k n i d u B D e N t=>exact .U _ g y k n i d u B D e N t
 | m _ b j O p q L P M E=>exact .m _ b j O p q L P M E
 | it _ r b since Q j seen p cur left q R L E t M T J=>exact .it _ r b since Q j seen p cur left q R L E t M T J
def df.untag{Y:ab}{z v:Value}{rows:List (List C)}(h:df w S Y (.s (.tag z) rows) v):v=z/\df w S Y (.s .own rows) v:=by
 cases h with
 | nil _ o a b=>exact⟨Eq.symm b,.nil _ _ _ trivial⟩
 | own _ o g k n c rows u f b i j d e l p q r t=>exact⟨Eq.symm b,.own _ _ g k n c rows u f trivial i j d e l p q r t⟩
 | suf _ o g y k n c rows u f b=>exact b.elim
def df.untagS{Y:ab}{z v:Value}{rows:List (List C)}(h:df w S Y (.s (.tagS z) rows) v):v=z/\df w S Y (.s .suf rows) v:=by
 cases h with
 | nil _ o a b=>exact⟨Eq.symm b,.nil _ _ _ trivial⟩
 | own _ o g k n c rows u f b=>exact b.elim
 | suf _ o g e k n c rows u f b i j d l p q r t=>exact⟨Eq.symm b,.suf _ _ g e k n c rows u f trivial i j d l p q r t⟩
theorem nH(u:Nat->Value):∀(j:Nat)(cs:List C),(yd u j cs).length=cs.length
 | _,[]=>rfl
 | j,c::cs=>by simp[yd,nH u (j+1) cs]
theorem DZ(u:Nat->Value):∀(a:Nat)(cs:List C)(j:Nat),(yd u a cs)[j]? = (cs[j]?).map λc=>Pp c (u (a+j))
 | _,[],j=>by simp[yd]
 | a,c::cs,0=>by simp[yd]
 | a,c::cs,j+1=>by simp only[yd,List.getElem?_cons_succ];rw[DZ u (a+1) cs j,show a+1+j=a+(j+1) by omega]
theorem cx.tag{Y:ab}{cs:List C}{u:Nat->Value}(h:cx w S Y cs u):cx w S Y (yd u 0 cs) u:=by
 obtain⟨f,i,b,d⟩:=h;refine⟨f,λj c a=>?_,λj a=>b j (by grind [nH]),λj e a g=>d j e (by grind [nH]) (by grind [nH])⟩
 grind [DZ,df.tag]
def celF(v:Value)(j:Nat):Value:=v.cells.toList.getD j undef
def bu.celF{Y:ab}{ag:Option Nat}{cs:List C}{v:Value}(h:bu w S Y ag cs v):cs.length=ag.getD 1/\v=mkv ag (celF v)/\cx w S Y cs (celF v):=by
 obtain⟨b,u,c,d⟩:=h;have g:=oT (ag:=ag) (u:=u) (λe=>by subst e;exact d.one (by simp at b;omega));have f:∀j,j<ag.getD 1->Ab.celF v j=u j:=λj a=>by
  unfold Ab.celF;rw[c,g];simp[List.getD,a]
 exact⟨b,c.trans (iP λj a=>(f j a).symm),d.congr λj a=>f j ω⟩
def NJ(u:Nat->Nat->Value)(i:Nat):MA->AV
 | .val a cs=>.F (kC a) cs
 | .mut a cs=>.F (kC a) (yd (u i) 0 cs)
 | .ptr cs=>.F .box cs
theorem y2{u:Nat->Nat->Value} : ∀{A:List MA}{a:List Value}{V:Nat->ab}(i:Nat),LY w S V A a->∀t,(lay (vQ u i A) t=.dead)\/(∃m v,i<=t/\a[t - i]? = some v/\A[t - i]? = some m/\lay (vQ u i A) t=NJ u t m/\pe w S (V (t - i)) m v)
 | [],_,_,i,_,t=>.inl rfl
 | m::A,[],_,i,h,t=>h.elim
 | m::A,v::a,V,i,h,t=>by
  have c:lay (vQ u i (m::A)) t=bif Nat.beq t i then NJ u i m else lay (vQ u (i+1) A) t:=by cases m<;>rfl
  rw[c];cases d:Nat.beq t i with
  | true=>
   have:=V1 d;subst this;exact .inr ⟨m,v,U2 _,by simp,by simp,rfl,by rw[Nat.sub_self];exact h.1⟩
  | false=>
   have f:t≠i:=λe=>by simp_all
   rcases y2 (i+1) h.2 t with b|⟨g,j,b,k,l,n,o⟩
   ·exact .inl b
   grind
def FO:∀{A:List MA}{a:List Value}{V:Nat->ab},LY w S V A a->A.length=a.length
 | [],[],_,_=>rfl
 | _::_,_::_,_,h=>by simp[FO h.2]
 | [],_::_,_,h=>h.elim
 | _::_,[],_,h=>h.elim
theorem G5{p:Nat->Value} : ∀{A:List MA}{i:Nat}{q:Nat × Value},q∈GI p i A->i<=q.1/\q.1<i+A.length/\q.2=p q.1
 | [],_,_,h=>by simp[GI]at h
 | m::A,i,q,h=>by
  have a:q∈GI p (i+1) A->i<=q.1/\q.1<i+(m::A).length/\q.2=p q.1:=λh=>by
   obtain⟨b,c,d⟩:=G5 h
   grind
  cases m with
  | ptr e=>
   rcases List.mem_cons.1 h with rfl|h
   all_goals grind
  | val=>exact a h
  | «mut»=>exact a h
theorem GL{p:Nat->Value} : ∀{A:List MA}{i n:Nat}{cs:List C},A[n]? = some (.ptr cs)->(i+n,p (i+n))∈GI p i A
 | [],_,n,_,h=>by simp at h
 | m::A,i,0,cs,h=>by grind [GI]
 | m::A,i,n+1,cs,h=>by
  have a:=GL (p:=p) (i:=i+1) (show A[n]? = some (.ptr cs) by simpa using h);rw[show i+1+n=i+(n+1) by omega]at a;cases m with
  | ptr cs=>exact W4 _ a
  | val=>exact a
  | «mut»=>exact a
def PK(φ:Nat->ab):Option (Option Nat)->ab
 | some (some t)=>φ t
 | _=>NO
theorem AH{u:Nat->Value} : ∀{a:Nat}{cs xs os:List C},NL u a cs xs os->cs.length=os.length/\∀(j:Nat)(c o:C),cs[j]? = some c->os[j]? = some o->∃y,(dn c=true->xs[j]? = some y)/\Q2 (u (a+j)) c y o
 | _,[],xs,os,h=>by grind [NL]
 | _,_::_,[],_,h=>by grind [NL]
 | _,_::_,_::_,[],h=>by grind [NL]
 | a,b::cs,d::xs,e::os,h=>by
  simp only[NL]at h;obtain⟨f,g⟩:=AH h.2
  grind
theorem KL{S' Y t:ab}{u E:Nat->Value}{cs xs os:List C}{off:Nat}(i:bh S w w1)(n:∀b o,S b o->S' b o)(h:cx w S Y cs u)(h':cx w1 S' t xs E)(F:NL u 0 cs (xs.drop off) os):cx w1 S' t os u:=by
 obtain⟨f,G,Q,R⟩:=h;obtain⟨A,p,H,J⟩:=h';obtain⟨T,K⟩:=AH F;refine⟨λj b o=>off+j<xs.length/\A (off+j) b o,λj c B=>?_,ψ,ψ⟩;have L:=(Z1.1 B).1;have k:cs[j]? = some cs[j]:=ψ
 obtain⟨y,d,a⟩:=K j _ c k B;rw[C6]at a;have g:=G j _ k;generalize cs[j]=q at k a g d;have keep:dn q=false->c=q->df w1 S' (λb o=>off+j<xs.length/\A (off+j) b o) c (u j):=λM e=>by
  subst e;exact((g.bare (F':=NO) M).keep i (λ_ _ h=>h.elim)).mono n (λ_ _ h=>h.elim)
 cases q with
 | v U=>exact keep rfl a
 | x=>exact keep rfl a
 | z=>exact keep rfl a
 | m V=>exact a.elim
 | it=>exact a.elim
 | s o D=>
  cases o with
  | U=>exact keep rfl a
  | tag z=>exact a.elim
  | tagS z=>exact a.elim
  | suf=>
   have d:=d rfl;rw[List.getElem?_drop]at d;have r:=(Z1.1 d).1;simp only[Q2]at a;split at a
   case h_2=>exact a.elim
   rename_i N l;obtain⟨rfl,rfl⟩:=a;obtain⟨O,P⟩:=(p _ _ d).untagS
   simp_all
  | own=>
   have d:=d rfl;rw[List.getElem?_drop]at d;have r:=(Z1.1 d).1;simp only[Q2]at a;split at a
   case h_2=>exact a.elim
   rename_i N l;obtain⟨rfl,rfl⟩:=a;obtain⟨O,P⟩:=(p _ _ d).untag
   simp_all
theorem aV.backs{D:World}{S':ab}{u:Nat->Nat->Value}(h:aV w0 M S0 N S' φ F a D)(d:bh S w D)(g:∀b o,S b o->S' b o):∀{A:List MA}{l:List (Nat × Nat)}{B:List MA}{e:List Value}{V:Nat->ab}{i:Nat},LY w S V A e->
  (∀j v,e[j]? = some v->u (i+j)=celF v)->(∀j v cs,e[j]? = some v->A[j]? = some (.ptr cs)->tvs a (i+j)=v)->gR u F i A l B->Bb D S' (λn=>PK φ (Db i A l)[n]?) B e
 | [],l,B,e,V,i,q,t,y,c=>by
  cases e with
  | cons _ _=>exact q.elim
  | nil=>cases B with
   | nil=>trivial
   | cons _ _=>grind [gR]
 | m::A,[],B,e,V,i,q,t,y,c=>by grind [gR]
 | m::A,p::l,[],e,V,i,q,t,y,c=>by grind [gR]
 | m::A,p::l,E::B,[],V,i,q,t,y,c=>q.elim
 | m::A,p::l,E::B,v::e,V,i,q,t,y,c=>by
  have next:gR u F (i+1) A l B->Bb D S' (λn=>PK φ (Db (i+1) A l)[n]?) B e:=λc=>
   aV.backs h d g q.2 (λj v U=>by rw[show i+1+j=i+(j+1) by omega];simp_all)
    (λj v cs U Z=>by rw[show i+1+j=i+(j+1) by omega];simp_all) c
  cases m with
  | val W cs=>
   cases E with
   | val C X=>simp only[gR]at c;exact⟨trivial,next c⟩
   | ptr=>grind [gR]
   | «mut»=>grind [gR]
  | «mut» W cs=>
   cases E with
   | val=>grind [gR]
   | ptr=>grind [gR]
   | «mut» C out=>
    simp only[gR]at c;obtain⟨⟨rfl,f⟩,H⟩:=c;refine⟨?_,next H⟩;have G:=bu.celF (show bu w S (V 0) C cs v from q.1);have J:u i=celF v:=t 0 v (by simp);have r:=h.slot p.1;cases K:F p.1 with
    | F k xs=>
     rw[K]at f r;simp only at f;rw[J]at f;obtain⟨P,Y,Q,L,R,T,O⟩:=r;refine⟨by grind [AH],celF v,G.2.1,?_⟩;exact(KL d g G.2.2 O f).mono (λ_ _ h=>h) (λb o c=>by simpa[Db,PK] using L b o c)
    | _=>grind
  | ptr cs=>
   cases E with
   | val=>grind [gR]
   | «mut»=>grind [gR]
   | ptr out=>
    simp only[gR]at c;refine⟨?_,next c.2⟩;have G:tvs a i=v:=y 0 v cs (by simp) (by simp);have r:=h.slot i;cases K:F i with
    | F k xs=>
     cases k with
     | box=>
      rw[K]at c r;have:=c.1;simp only at this;subst this;rw[G]at r;obtain⟨P,Y,Q,L,R,T,O⟩:=r;exact⟨P,Y,λb o c=>by simpa[Db,PK] using Q b o c,λb o c=>by simpa[Db,PK] using L b o c,R,T,O⟩
     | _=>grind
    | _=>grind
theorem se:∀{l:List (Option Nat)},EL l=true->∀(i a t c:Nat),i≠a->l[i]? = some (some t)->l[a]? = some (some c)->t≠c
 | [],_,i,a,t,c,_,h,_=>by simp at h
 | none::l,b,i,a,t,c,f,h,d=>by
  cases i with
  | zero=>simp at h
  | succ i=>cases a with
   | zero=>simp at d
   | succ a=>exact se (l:=l) b i a t c ω (by simpa using h) (by simpa using d)
 | some g::l,b,i,a,t,c,f,h,d=>by
  simp only[EL,I0]at b;have k:∀(n s:Nat),l[n]? = some (some s)->g≠s:=λn s j e=>by
   have:=T3.1 b.1 _ (U1 j)
   simp_all
  cases i with
  | zero=>
   grind
  | succ i=>cases a with
   | zero=>grind
   | succ a=>exact se b.2 i a t c ω (by simpa using h) (by simpa using d)
theorem vO:∀{l:List (Option Nat)}{i t:Nat},l[i]? = some (some t)->t∈sles l
 | [],i,t,h=>by simp at h
 | none::l,i,t,h=>by
  cases i with
  | zero=>simp at h
  | succ i=>exact vO (l:=l) (i:=i) (by simpa using h)
 | some a::l,i,t,h=>by
  cases i with
  | zero=>grind [sles]
  | succ i=>exact W4 _ (vO (l:=l) (i:=i) (by simpa using h))
theorem wQ{φ:Nat->ab}{x:Option (Option Nat)}{b o:Nat}(h:PK φ x b o):∃t,x=some (some t)/\φ t b o:=by
 match x,h with
 | some (some t),h=>exact⟨t,rfl,h⟩
 | some none,h=>exact h.elim
 | none,h=>exact h.elim
theorem Hf{f : Nat}{y : Func}{c : Code}{sh : Bool}{A B : List MA}{k : Kd}{rcs : List C}{mo : List (Nat × List Nat)}{n : Nat}(O : List (Nat × Nat))(hTE : ∀t i, TE t = some i -> gg P t i)(hf : P.funcs[f]? = some y)(hn : (y.name == "runtime.NumGoroutine") = false)(d:y.body=some c){ck:Nat->Array Oper->Bool}{D:dU->Nat->Array Oper->((Nat->AV)->Prop)->(Nat->AV)->Prop}(hD:∀N,vS P N ck (D N))(hc:f8 ck c=true)(hN:A.length+(y.ntmps - A.length)=n)(hok:EL (Db 0 A O)=true)(hsh:sh=true\/gn rcs)(hp:∀(u:Nat->Nat->Value)(p:Nat->Value),aw P TE ⟨n,GI p 0 A,mo⟩ (D ⟨n,GI p 0 A,mo⟩) c (PB TE y.results.toList k rcs u A B O) (lay (vQ u 0 A))):aP P f sh A B k rcs:=by
 refine⟨⟨y,hf,hn,by rw[d];rfl⟩,λw S V E hS hV hVd hA=>?_⟩;have hlen:=FO hA;refine calls_of_wp hf d ?_
 let u:Nat->Nat->Value:=λi=>celF (E.getD i undef)
 let p:Nat->Value:=λi=>E.getD i undef
 have htv:∀t v,E[t]? = some v->tvs {tmps:=E.toArray++Array.replicate (y.ntmps - E.toArray.size) undef,defers:=[]} t=v:=λt v r=>by
  have Q:=(Z1.1 r).1;simp only[tvs,X5]
  grind
 have hst:St w (λb o=>∃i,V i b o) S ⟨n,GI p 0 A,mo⟩ (lay (vQ u 0 A)) {tmps:=E.toArray++Array.replicate (y.ntmps - E.toArray.size) undef,defers:=[]} w:=by
  refine⟨S,V,λt=>?_,hVd,ψ,ψ,λ_ _ h=>h,ψ,CV _ _,by simp;omega,rfl,⟨λq hq=>?_,hS.2⟩⟩
  ·rcases y2 (u:=u) 0 hA t with J|⟨m,v,-,r,h2',K,U⟩
   ·rw[J];trivial
   rw[K];rw[Nat.sub_zero]at r U;rw[htv t v r];have hu:u t=celF v:=ψ
   cases m with
   | val M G=>exact(bu.mono (show bu w S NO M G v from U) (λ_ _ h=>h) (λ_ _ h=>h.elim)).slot
   | «mut» M G=>
    obtain⟨e1,e2,e3⟩:=bu.celF (show bu w S (V t) M G v from U);refine bu.slot ⟨by grind [nH],celF v,e2,?_⟩
    grind [cx.tag]
   | ptr G=>exact U
  obtain⟨-,J,r⟩:=G5 hq
  grind
 refine i6 hTE (hD _) c hc _ _ _ _ w (hp u p) hst λe F' W l he hs'=>?_
 obtain⟨S',φ',h⟩:=hs';have fin:resA TE F' y.results.toList (sles (Db 0 A O)) (λsh G=>aO (jy sh) k G rcs (gR u F' 0 A O B))->W.defers=[]/\∃v,(results y W.tmps).run P l=.ok v l/\(∃v',Ending.returned v=.returned v'/\b8 (λb o=>∃i,V i b o) w l/\∃(X:ab)(Z:Nat->ab)(S1:ab),
     (∀b o,X b o->(∃i,V i b o)\/(b<l.heap.size/\w.heap.size<=b))/\(∀i b o,Z i b o->(∃i,V i b o)\/(b<l.heap.size/\w.heap.size<=b))/\
     (∀b o,S1 b o->(sh=true/\S b o)\/(∃i,V i b o)\/(b<l.heap.size/\w.heap.size<=b))/\
     (∀i i',i≠i'->∀b o,Z i b o->¬Z i' b o)/\(∀i b o,X b o->¬Z i b o)/\(∀b o,X b o->¬S1 b o)/\(∀i b o,Z i b o->¬S1 b o)/\
     fe l NO k rcs.length v'/\cx l S1 X rcs (cb l k v')/\Bb l (λb o=>S b o\/S1 b o) Z B E):=by
  intro hr;obtain⟨shs,G,a,u',hfin,hrun,L,hln,hL,hcells,H,hrow⟩:=h.resA hTE hr;obtain⟨rfl,rfl,R⟩:=hfin.out;refine⟨h.defers,?_⟩;have T:(results y W.tmps).run P l=.ok (if h:a.toArray.size=1 then a.toArray[0] else .tuple a.toArray) l:=by
   have e:results y W.tmps=(do let E <-y.results.mapM (Dk W.tmps);pure (if h:E.size=1 then E[0] else .tuple E)):=by
    unfold results
    congr 1
   rw[e,<-Array.toArray_toList (xs:=y.results),List.mapM_toArray]
   simp_all
  have hex:∀t b o,φ' t b o->(∃i,V i b o)\/(b<l.heap.size/\w.heap.size<=b):=λt b o d=>(h.ex t b o d).2.elim (λh'=>.inr ⟨(h.ex t b o d).1,h'⟩) .inl
  have hsameS:bh S w l:=λb o d=>by
   have Q:=hS.1 b o d;exact⟨h.old.cel b o Q ψ,h.old.fro b o Q ψ⟩
  have hm:=h.backs (u:=u) hsameS h.sub hA ψ (λj v G hj hc=>by
    have:=h.par.1 _ (GL (p:=p) (i:=0) hc)
    grind) R
  refine⟨_,T,_,rfl,h.old,λb o=>∃t,t∉sles (Db 0 A O)/\φ' t b o,λi=>PK φ' (Db 0 A O)[i]?,λb o=>(sh=true/\S' b o)\/(S' b o/\((∃i,V i b o)\/w.heap.size<=b)),ψ,λi b o d=>?_,λb o d=>?_,λi i' hne b o d g=>?_,λi b o ⟨t,ht,d⟩ g=>?_,λb o ⟨t,_,d⟩ g=>h.disS t b o d ψ,λi b o d g=>?_,?_⟩
  ·grind [wQ]
  ·rcases d with⟨J,r⟩|⟨J,r⟩
   ·rcases(h.sup b o r).2 with K|K|K
    ·grind
    ·exact .inr (.inr ⟨(h.sup b o r).1,K⟩)
    grind
   rcases r with r|r
   ·grind
   exact .inr (.inr ⟨(h.sup b o J).1,r⟩)
  ·obtain⟨t,e1,d⟩:=wQ d
   obtain⟨t',e2,g⟩:=wQ g;exact h.dis t t' (se hok i i' t t' hne e1 e2) b o d g
  ·obtain⟨t',e2,g⟩:=wQ g
   exact h.dis t t' (λe=>ht (by grind [vO])) b o d g
  ·obtain⟨t,-,d⟩:=wQ d
   exact h.disS t b o d ψ
  have hk:fe l NO (jy shs) G.length (if h:a.toArray.size=1 then a.toArray[0] else .tuple a.toArray)/\cx l S' (λb o=>∃t,t∉sles (Db 0 A O)/\φ' t b o) G (cb l (jy shs) (if h:a.toArray.size=1 then a.toArray[0] else .tuple a.toArray)):=by
   match shs,L,H,hL with
   | [],L,_,hL=>
    cases a with
    | cons _ _=>exact L.elim
    | nil=>
     have:G=[]:=ψ
     subst this;exact⟨⟨_,rfl,trivial,rfl⟩,cx.nil _ _ _ _⟩
   | [M],_,H,_=>
    obtain⟨v,rfl,hv⟩:=H M rfl;have:=hv.slot (F:=F') (tv:=tvs W);obtain⟨X1,Y,J,r,K,U,h5⟩:=this;refine⟨?_,h5.mono (λ_ _ h=>h) r⟩;cases M<;>exact U
   | M::ag2::sh,L,_,hL=>
    have hsz:¬a.toArray.size=1:=by
     match a,L with
     | [],L=>simp
     | [v],L=>cases M<;>cases ag2<;>exact L.2.elim
     | _::_::_,_=>simp
    rw[dif_neg hsz];refine⟨⟨_,rfl,L,hL⟩,hrow.congr λj hj=>?_⟩;simp only[cb,jy,lV,hcells];simp[List.getD,hj]
  refine⟨hk.1,?_,hm.mono λb o d=>?_⟩
  ·rcases hsh with J|J
   ·exact hk.2.mono ψ (λ_ _ h=>h)
   exact(hk.2.fresh J).mono (λ_ _ h=>h.elim) (λ_ _ h=>h)
  rcases(h.sup b o d).2 with K|K|K
  all_goals grind
 cases e with
 | normal=>exact fin he
 | ret=>exact fin he
 | _=>exact he.elim
end
abbrev I(z:Int):C:=.v (.int .i64 z)
abbrev B(b:Bool):C:=.v (.bool b)
def rI(_:du)(z:Int):List C:=[I z]
def rB(_:du)(b:Bool):List C:=[B b]
def pn(z:Int):gn (rI .own z):=⟨trivial,trivial⟩
def Di(b:Bool):gn (rB .own b):=⟨trivial,trivial⟩
def jF(z:Int):Prop:=-9223372036854775808<=z/\z<=9223372036854775807
def QL(_:Bool):Prop:=True
def pQ : Tryz.prog.follows .mixedOrders=true:=by kernel_rfl
def Qx{n f : Nat}{mo : List (Nat × List Nat)}{a : Func}{c : Code}{sh : Bool}{A : List RA}{k : Kd}{rcs : List C}(d : Tryz.prog.funcs[f]? = some a)(e : (a.name == "runtime.NumGoroutine") = false)(g : a.body = some c){tb : List (Nat × Nat × List Nat)}(h : f8 (mj tb) c = true)(i:A.length+(a.ntmps - A.length)=n)(b:sh=true\/gn rcs)(j:aw Tryz.prog TE ⟨n,[],mo⟩ (DF Tryz.prog TE ⟨n,[],mo⟩ tb) c (MF TE a.results.toList k rcs) (lay (uk 0 A))):ao Tryz.prog f sh A k rcs:=
 HL yX d e g (pP yX pQ ⟨n,[],mo⟩ tb) h i rfl b j
def Qe{n f : Nat}{mo : List (Nat × List Nat)}{a : Func}{c : Code}{sh : Bool}{A B : List MA}{k : Kd}{rcs : List C}(b : List (Nat × Nat))(g : Tryz.prog.funcs[f]? = some a)(h : (a.name == "runtime.NumGoroutine") = false)(i : a.body = some c){tb : List (Nat × Nat × List Nat)}(j : f8 (mj tb) c = true)(l:A.length+(a.ntmps - A.length)=n)(d:EL (Db 0 A b)=true)(e:sh=true\/gn rcs)(o:∀(u:Nat->Nat->Value)(p:Nat->Value),aw Tryz.prog TE ⟨n,GI p 0 A,mo⟩ (DF Tryz.prog TE ⟨n,GI p 0 A,mo⟩ tb) c (PB TE a.results.toList k rcs u A B b) (lay (vQ u 0 A))):aP Tryz.prog f sh A B k rcs:=
 Hf b yX g h i (λN=>pP yX pQ N tb) j l d e o
def Qd{n f t : Nat}{mo : List (Nat × List Nat)}{a : Func}{c : Code}{A : List RA}{rcs : List C}(b : Tryz.prog.funcs[f]? = some a)(d : (a.name == "runtime.NumGoroutine") = false)(e : a.body = some c){tb : List (Nat × Nat × List Nat)}(g : f8 (mj tb) c = true)(h:A.length+(a.ntmps - A.length)=n)(i:a.results = #[.tmp t])(j:aw Tryz.prog TE ⟨n,[],mo⟩ (DF Tryz.prog TE ⟨n,[],mo⟩ tb) c (Qb t rcs) (lay (uk 0 A))):qp Tryz.prog f true A .box rcs:=
 Jb yX b d e (pP yX pQ ⟨n,[],mo⟩ tb) g h rfl i j
theorem ed{x:Int}(h1 : -9223372036854775808<=x)(a:x<=9223372036854775807):IntKind.i64.wrap x=x:=IntWalk.i64_in x ω
def K9:RA->RA->Prop
 | .val ag cs,.val ag' cs'=>ag=ag'/\cs=cs'
 | .ptr cs,.ptr cs'=>cs=cs'
 | A,a=>A=a
theorem K9.eq{A a:RA}(h:K9 A a):A=a:=by
 unfold K9 at h
 grind
def zo:List RA->List RA->Prop
 | [],[]=>True
 | A::As,B::Bs=>K9 A B/\zo As Bs
 | _,_=>False
theorem zo.eq:∀{A a:List RA},zo A a->A=a
 | [],[],_=>rfl
 | A::As,B::Bs,h=>by rw[K9.eq h.1,zo.eq h.2]
 | [],_::_,h=>h.elim
 | _::_,[],h=>h.elim
theorem Cl.eq{P:Program}{f:Nat}{b:Bool}{A a:List RA}{K:AV->Prop}{k:Kd}{rcs:List C}(h:ao P f false a k rcs)(c:zo A a)(d:K (.F k rcs)):Cl P f b A K:=by grind [zo.eq,C7]
def CH:type_of% @Cl.eq:=@Cl.eq
def yb{n b:Nat}(h:n<=1048576)(a:b<=1000):n*b<=140737488355328:=R4 (Nat.mul_le_mul h a) (by decide)
theorem Bf.NB{a b:Bool}{X Y:Prop}(h1:a≠b->X)(c:a=b->Y):Bf (a != b) X Y:=by grind [Bf.P]
theorem Rw.one{a:List C}{off i k j:Nat}{K:List C->Nat->Prop}{o:du}{rows:List (List C)}{r:List C}(h1:a[off]? = some (.s o rows))(c:rows[i]? = some r)(d:r.length=k)(b:K r j):Rw a off [(i,k,j)] K:=
 Rw.mk (r:=r) (j:=j) (by grind [bY]) b
def CG:type_of% @Rw.one:=@Rw.one
section
variable{α:Type}{A B:List α}
end
def aa{α β:Type}{f:α->β}{l:List α}{k:Nat}{x:α}(h:l[k]? = some x):(l.map f)[k]? = some (f x):=by simp[h]
end Go.Proofs.YtifeilefdakapaaGreatDoor.Ab
