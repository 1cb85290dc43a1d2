/- A slot-only operation looks at its operands alone (the rest), and: a region that draws its order may be run in the text's. No condition. -/
import Derived.Test.YtfdfgipemcbekaaGreatDoorKTb
import Derived.Orders
import Derived.Test.YtfdfgipemcbekaaGreatDoorKTa
import Derived.KernelRfl
import Derived.Test.YtfdfgipemcbekaaGreatDoorProg
set_option linter.unusedVariables false
set_option linter.defProp false
set_option linter.unusedSimpArgs false
set_option linter.constructorNameAsVariable false
namespace Go.Proofs.YtfdfgipemcbekaaGreatDoor.Ab
open Go.RowKit
section
variable{F:Nat->AV}{K:AV->Prop}{TE:Nat->Option TI}{P:Program}
theorem QV{g:BinOp}{x y:Value}{K e:Value->Prop}(h:Gv g x y K)(n:∀v,K v->e v):Gv g x y e:=by
 cases x<;>cases y<;>try exact h.elim
 rename_i k a o b;have c:∀{X Y:Prop},(bif iY k o then X else False)->(X->Y)->(bif iY k o then Y else False):=ψ
 have d:∀{k:IntKind}{x:Int},Wr k x (λz=>K (.int k z))->Wr k x (λz=>e (.int k z)):=λh=>by
  obtain⟨z,i,j⟩:=h.out;exact CR i (n _ j)
 have q:∀{k:IntKind}{x:Int},Ev x (λz=>K (.int k z))->Ev x (λz=>e (.int k z)):=λh=>by
  obtain⟨z,i,j⟩:=h.out;exact CY i (n _ j)
 have f:∀{p X Y:Prop},Cd p X->(X->Y)->Cd p Y:=λh l=>CT h.out.1 (l h.out.2)
 cases g<;>simp only[Gv]at h |-
 case add=>exact c h d
 case sub=>exact c h d
 case mul=>exact c h d
 case quo=>exact c h λh=>f h d
 case rem=>exact c h λh=>f h q
 case and=>exact c h d
 case or=>exact c h d
 case xor=>exact c h d
 case andNot=>exact c h d
 case shl=>exact f h d
 case shr=>exact f h q
 all_goals grind
theorem Rs{f:BinOp}{x y:Value}{K:Value->Prop}(h:Gv f x y K):∃v,K v/\Gv f x y (· = v):=by
 cases x<;>cases y<;>try exact h.elim
 rename_i k a g b;have e:∀{X:Prop},(bif iY k g then X else False)->X/\∀Y:Prop,Y->(bif iY k g then Y else False):=ψ
 cases f<;>simp only[Gv]at h |-
 case add=>obtain⟨h,b⟩:=e h;obtain⟨z,c,d⟩:=h.out;exact⟨_,d,b _ (CR c rfl)⟩
 case sub=>obtain⟨h,b⟩:=e h;obtain⟨z,c,d⟩:=h.out;exact⟨_,d,b _ (CR c rfl)⟩
 case mul=>obtain⟨h,b⟩:=e h;obtain⟨z,c,d⟩:=h.out;exact⟨_,d,b _ (CR c rfl)⟩
 case quo=>obtain⟨h,b⟩:=e h;obtain⟨z,c,d⟩:=h.out.2.out;exact⟨_,d,b _ (CT h.out.1 (CR c rfl))⟩
 case rem=>obtain⟨h,b⟩:=e h;obtain⟨z,c,d⟩:=h.out.2.out;exact⟨_,d,b _ (CT h.out.1 (CY c rfl))⟩
 case and=>obtain⟨h,b⟩:=e h;obtain⟨z,c,d⟩:=h.out;exact⟨_,d,b _ (CR c rfl)⟩
 case or=>obtain⟨h,b⟩:=e h;obtain⟨z,c,d⟩:=h.out;exact⟨_,d,b _ (CR c rfl)⟩
 case xor=>obtain⟨h,b⟩:=e h;obtain⟨z,c,d⟩:=h.out;exact⟨_,d,b _ (CR c rfl)⟩
 case andNot=>obtain⟨h,b⟩:=e h;obtain⟨z,c,d⟩:=h.out;exact⟨_,d,b _ (CR c rfl)⟩
 case shl=>obtain⟨z,c,d⟩:=h.out.2.out;exact⟨_,d,CT h.out.1 (CR c rfl)⟩
 case shr=>obtain⟨z,c,d⟩:=h.out.2.out;exact⟨_,d,CT h.out.1 (CY c rfl)⟩
 all_goals grind
variable{T:Nat}
theorem Rf{b:BinOp}{x y:Value}{K:Value->Prop}(h:HY TE b T x y K):∃v,K v/\∀a:Value->Prop,a v->HY TE b T x y a:=by
 unfold HY at h;split at h
 ·grind [HY]
 ·cases b<;>simp only at h<;>try exact h.elim
  case add=>obtain⟨d,e⟩:=h.out;obtain⟨z,f,g⟩:=e.out;exact⟨_,g,λa c=>CT d (Es.mk f c)⟩
  all_goals exact⟨_,h,λa c=>c⟩
 grind [Rs,QV,HY]
def TS{a:UnOp}{x:Value}{K b:Value->Prop}(h:VS a x K)(c:∀v,K v->b v):VS a x b:=by
 unfold VS at h |-;split at h
 ·exact c _ h
 ·obtain⟨z,d,e⟩:=Wr.out h;exact CR d (c _ e)
 exact h.elim
def Vf{a:UnOp}{x:Value}{K:Value->Prop}(h:VS a x K):∃v,K v/\VS a x (· = v):=by
 unfold VS at h;split at h
 ·exact⟨_,h,rfl⟩
 ·obtain⟨z,b,c⟩:=Wr.out h;exact⟨_,c,CR b rfl⟩
 exact h.elim
variable{x y:Operand}
theorem Ui{c:Operand}(h:Ni F c x y K):pM (λF K=>Ni F c x y K) F (tm c++tm x++tm y) K:=by
 obtain⟨z,f,p⟩:=iI h;cases z with
 | bool b=>
  cases b with
  | true=>
   obtain⟨g,i,j,k⟩:=kO (Bf.out f);refine⟨g,i,λd l=>(j d l).imp ψ ψ,λa e n o=>p a (e.mono (by simp +contextual)) _ (Bf.in_ (k a (e.mono (by simp +contextual)) n o))⟩
  | false=>
   obtain⟨g,i,j,k⟩:=kO (Bf.out f);refine⟨g,i,λd l=>(j d l).imp ψ ψ,λa e n o=>p a (e.mono (by simp +contextual)) _ (Bf.in_ (k a (e.mono (by simp +contextual)) n o))⟩
 | _=>exact f.elim
theorem Vl(h:Vn F x K):pM (λF K=>Vn F x K) F (tm x) K:=by
 obtain⟨i,c,a,d⟩:=cD h;cases b:br c with
 | false=>grind
 | true=>rw[b]at a;exact⟨_,a,CZ _ _ _ _,λe f j g=>d e f _ (by rw[b];exact g)⟩
theorem HV{i:Nat}(h:kP F x i K):pM (λF K=>kP F x i K) F (tm x) K:=by
 cases x with
 | tmp t=>
  have b:t∈tm (.tmp t):=by simp[tm]
  simp only[kP]at h;cases c:F t with
  | Y k l=>
   rw[c]at h;cases k with
   | tup n=>
    simp only at h;cases e:FT n i with
    | none=>grind
    | some p=>
     rw[e]at h;simp only at h;cases a:br (bP l p.1 (p.2.getD 1)) with
     | true=>rw[a]at h;exact⟨_,h,CZ _ _ _ _,λo f q g=>by simp only[kP,(f t b).1,c,e,a,cond_true];exact g⟩
     | false=>rw[a]at h;exact⟨_,h,λd j=>.inl (by simp[AV.uses]at j;subst j;exact b),λo f q g=>by simp only[kP,(f t b).1,c,e,a,cond_false];exact g⟩
   | _=>exact h.elim
  | _=>grind
 | _=>exact h.elim
theorem VG(h:ML TE F T x K):pM (λF K=>ML TE F T x K) F (tm x) K:=by
 unfold ML at h;unfold pM ML;split at h
 ·obtain⟨g,i,a,e⟩:=cD h
  match g,i,a with
  | none,[.s o rows],a=>exact⟨_,Ln.out a,CZ _ _ _ _,λb c f d=>e b c _ (CV rfl d)⟩
  | none,[.z],a=>exact⟨_,a,CZ _ _ _ _,ψ⟩
  | none,[.hd n],a=>exact⟨_,Ln.out a,CZ _ _ _ _,λb c f d=>e b c _ (CV rfl d)⟩
 ·obtain⟨z,a,e⟩:=iI h
  cases z with
  | string s=>exact⟨_,Ln.out a,CZ _ _ _ _,λb c f d=>e b c _ (CV rfl d)⟩
  | _=>exact a.elim
 exact h.elim
theorem UD(h:LQ TE F T x K):pM (λF K=>LQ TE F T x K) F (tm x) K:=by
 unfold LQ at h;unfold pM LQ;split at h
 all_goals grind [cD,Nn.out,CZ]
theorem Vw{d:BinOp}(h:Mv P F d T x y K):pM (λF K=>Mv P F d T x y K) F (tm x++tm y) K:=by
 unfold Mv at h;unfold pM Mv;obtain⟨g,q,i,j⟩:=cD h;obtain⟨ag2,ds,a,b⟩:=cD i
 match g,ag2,a with
 | some n,some m,c=>
  obtain⟨t,k,u⟩:=rC c;obtain⟨w,l,A⟩:=rC k;obtain⟨r,B,o⟩:=l.out;exact⟨_,o,CZ _ _ _ _,λe f C p=>j e (f.mono ψ) _ (b e (f.mono ψ) _ (by grind [R0,X4.mk]))⟩
variable{F':Nat->AV}
theorem Fe(a:iL F F' (tm x)):isAgg F' x=isAgg F x:=by
 cases x with
 | tmp t=>unfold isAgg;simp only;rw[(a t (by simp[tm])).1]
 | _=>rfl
def tms(xs:List Operand):List Nat:=xs.flatMap tm
variable{k:Bool->RA->Prop}
theorem Us(h:argV F x k):∃b A,k b A/\∀F':Nat->AV,iL F F' (tm x)->∀c:Bool->RA->Prop,c b A->argV F' x c:=by
 have key:∀F':Nat->AV,iL F F' (tm x)->oN F' x=oN F x:=λF' l=>l.ev
 have n:∀i,oN F x=i->jj F i (DT k)->(∀F' c,oN F' x=i->(argV F' x c=jj F' i (DT c)))->∃b A,k b A/\∀F':Nat->AV,iL F F' (tm x)->∀c:Bool->RA->Prop,c b A->argV F' x c:=λi a y B=>by grind [cD,DT]
 have d:=h;unfold argV at d;cases a:oN F x with
 | Y p o=>
  rw[a]at d;cases p with
  | box=>grind [argV]
  | one=>exact n _ a d λF' c e=>by unfold argV;rw[e];rfl
  | agg=>exact n _ a d λF' c e=>by unfold argV;rw[e];rfl
  | tup C=>exact d.elim
 | c5 t j q D=>grind [argV]
 | ref t j q=>
  rw[a]at d;simp only at d;split at d
  ·rename_i o u
   refine⟨false,_,d,λF' l c w=>?_⟩;unfold argV;rw[key F' l,a];have:F' t=.Y .box o:=by
    cases x with
    | tmp s=>exact(l s (by simp[tm])).2 t (by show AV.uses t (F s)=true;rw[show F s=_ from a];simp[AV.uses]) _ _ u
    | const v=>simp only[oN]at a;have:=nj v t;rw[a]at this;simp[AV.uses]at this
    | global g=>cases a
    | func f=>cases a
   grind
  exact d.elim
 | iref r j=>
  grind [argV]
 | fv Ok=>grind [argV]
 | fn f caps=>grind
 | dead=>grind
theorem qQ:∀{cs:List Nat}{k:List RA->Prop},o9 F cs k->∃D,k D/\∀F':Nat->AV,(∀t,t∈cs->∀a xs,F t=.Y a xs->F' t=.Y a xs)->∀b:List RA->Prop,b D->o9 F' cs b
 | [],k,h=>⟨[],h,λ_ _ _ h=>h⟩
 | c::cs,k,h=>by
  simp only[o9]at h;split at h
  ·rename_i xs d
   obtain⟨D,e,f⟩:=qQ h
   grind [o9]
  ·rename_i xs d
   obtain⟨D,e,f⟩:=qQ h
   grind [o9]
  ·rename_i xs d
   obtain⟨D,e,f⟩:=qQ h
   grind [o9]
  exact h.elim
variable{ts:List Nat}
theorem NV{t:Nat}{f:FuncId}{caps:List Nat}(b:iL F F' ts)(d:t∈ts)(e:F t=.fn f caps):∀c,c∈caps->∀a xs,F c=.Y a xs->F' c=.Y a xs:=λc g a xs h=>
 (b t d).2 c (by grind [Nat.beq_refl,AV.uses]) a xs h
theorem Tt(h:argA P F x k):∃b A,k b A/\∀F':Nat->AV,iL F F' (tm x)->∀d:Bool->RA->Prop,d b A->argA P F' x d:=by
 have e:=h;unfold argA at e;split at e
 ·rename_i f caps a
  obtain⟨D,l,n⟩:=qQ e;obtain⟨Q,o,p,q⟩:=l;refine⟨false,_,q,λF' j d i=>?_⟩;unfold argA;rw[j.ev,a];refine n F' ?_ _ ⟨Q,o,p,i⟩;cases x with
  | tmp s=>exact NV j (t:=s) (by simp[tm]) a
  | const v=>
   intro c r;simp only[oN]at a;have:=nj v c
   grind [Nat.beq_refl,AV.uses]
  | global g=>cases a
  | func f=>cases a;grind
 grind [Us,iL.ev,argA]
theorem zD:∀{xs:List Operand}{k:Bool->List RA->Prop},EZ P F xs k->∃b A,k b A/\∀F':Nat->AV,iL F F' (tms xs)->∀c:Bool->List RA->Prop,c b A->EZ P F' xs c
 | [],k,h=>⟨true,[],h,λ_ _ _ h=>h⟩
 | x::xs,k,h=>by
  obtain⟨l,A,d,g⟩:=Tt h;obtain⟨b,As,d,e⟩:=zD d;have i:∀{F':Nat->AV},iL F F' (tms (x::xs))->iL F F' (tm x):=λa=>a.mono (by grind [tms])
  have j:∀{F':Nat->AV},iL F F' (tms (x::xs))->iL F F' (tms xs):=λa=>a.mono (λt n=>by grind [tms])
  exact⟨_,_,d,λF' a c f=>g F' (i a) _ (e F' (j a) _ f)⟩
theorem EB:∀{xs:List Operand}{k:List (Option Nat × List C)->Prop},argsV F xs k->∃L,k L/\∀F':Nat->AV,iL F F' (tms xs)->∀b:List (Option Nat × List C)->Prop,b L->argsV F' xs b
 | [],k,h=>⟨[],h,λ_ _ _ h=>h⟩
 | x::xs,k,h=>by
  obtain⟨j,l,c,f⟩:=cD h;obtain⟨L,c,d⟩:=EB c;have g:∀{F':Nat->AV},iL F F' (tms (x::xs))->iL F F' (tm x):=λa=>a.mono (by grind [tms])
  have i:∀{F':Nat->AV},iL F F' (tms (x::xs))->iL F F' (tms xs):=λa=>a.mono (λt n=>by grind [tms])
  exact⟨_,c,λF' a b e=>f F' (g a) _ (d F' (i a) _ e)⟩
variable{xs:List Operand}
theorem Uy{f:Nat}(h:P3 P F f xs K):pM (λF K=>P3 P F f xs K) F (tms xs) K:=by
 obtain⟨b,A,a,c⟩:=zD h;obtain⟨i,k,rcs,j,l,d⟩:=a.out;exact⟨_,d,CZ _ _ _ _,λe g n o=>c e g _ (.mk_ ψ)⟩
theorem PU{t:Nat}(h:oc P F t xs K):pM (λF K=>oc P F t xs K) F (t::tms xs) K:=by
 have d:=h;unfold oc at d;split at d
 ·rename_i f caps g
  obtain⟨b,A,e,i⟩:=zD d;obtain⟨D,e,j⟩:=qQ e;obtain⟨r,k,rcs,o,p,l⟩:=e.out;refine⟨_,l,CZ _ _ _ _,λa c n q=>?_⟩;show oc P a t xs n;unfold oc;rw[(c t ψ).1,g];exact i a (c.mono ψ) _ (j a (NV c ψ g) _ (.mk_ ψ))
 ·rename_i Ok g
  obtain⟨L,e,i⟩:=EB d;obtain⟨Q,k,rcs,o,p,l⟩:=e;refine⟨_,l,CZ _ _ _ _,λa c n q=>?_⟩;show oc P a t xs n;unfold oc;rw[(c t ψ).1,g];exact i a (c.mono ψ) _ ⟨Q,k,rcs,o,p,q⟩
 exact d.elim
theorem gV{k:Nat->TI->Prop}(h:L9 TE T k):∃e a,k e a/\∀b:Nat->TI->Prop,b e a->L9 TE T b:=by
 unfold L9 at h
 grind [L9]
def kM{k:Int->Prop}(h:Dd F x k):∃n,k n/\∀F':Nat->AV,iL F F' (tm x)->∀a:Int->Prop,a n->Dd F' x a:=by
 obtain⟨z,b,c⟩:=iI h;cases z with
 | int f n=>exact⟨n,b,λF' d a e=>c F' d _ e⟩
 | _=>exact b.elim
def otm(x:Option Operand):List Nat:=x.toList.flatMap tm
theorem yM{x:Option Operand}{k:Option Int->Prop}(h:M1 F x k):∃n,k n/\∀F':Nat->AV,iL F F' (otm x)->∀a:Option Int->Prop,a n->M1 F' x a:=by
 cases x with
 | none=>exact⟨none,h,λ_ _ _ b=>b⟩
 | some x=>
  obtain⟨n,c,d⟩:=kM h;exact⟨some n,c,λF' e a b=>d F' (e.mono (by grind [otm])) _ b⟩
theorem wJ{c:Nat->Option (Nat × Nat)} : ∀{parts:List (Nat × Operand)}{cs:List C}{k:List C->Prop},fillP F c parts cs k->∃a,k a/\∀F':Nat->AV,iL F F' (tms (parts.map (·.2)))->∀d:List C->Prop,d a->fillP F' c parts cs d
 | [],cs,k,h=>⟨cs,h,λ_ _ _ h=>h⟩
 | p::rest,cs,k,h=>by
  simp only[fillP]at h;split at h
  case h_2=>exact h.elim
  rename_i q i;obtain⟨j,xs,b,l⟩:=cD h;cases e:(br xs&&Nat.beq xs.length q.2&&Nat.ble (q.1+q.2) cs.length) with
  | false=>grind
  | true=>
   rw[e]at b;simp only[cond_true,d9]at b;obtain⟨a,f,g⟩:=wJ b
   grind [iL.mono,d9,fillP,tms]
variable{parts:List (Nat × Operand)}
theorem PI(h:wt TE F T parts K):pM (λF K=>wt TE F T parts K) F (tms (parts.map (·.2))) K:=by grind [wJ,CZ,wt,pM]
theorem MH{n:Nat}(h:yV TE F T n parts K):pM (λF K=>yV TE F T n parts K) F (tms (parts.map (·.2))) K:=by
 obtain⟨e,g,a,c⟩:=gV h;cases d:Nat.ble (n*g.size) 16777216 with
 | false=>grind
 | true=>
  rw[d]at a;simp only[cond_true]at a;split at a
  ·exact⟨_,a,CZ _ _ _ _,λi j k f=>c _ (by rw[d];exact f)⟩
  ·rw[d9]at a
   obtain⟨l,b,o⟩:=wJ a;rw[rr]at b;exact⟨_,b,CZ _ _ _ _,λi j k f=>c _ (by grind [d9,rr])⟩
  exact a.elim
theorem TO(h:NK TE F T x y K):pM (λF K=>NK TE F T x y K) F (tm x++tm y) K:=by
 obtain⟨e,r,a,g⟩:=gV h;obtain⟨j,k,a,i⟩:=cD a
 match j,k,a with
 | none,[.z],a=>
  obtain⟨ag2,cs2,a,b⟩:=cD a
  match ag2,cs2,a with
  | none,[.s o rows],a=>
   obtain⟨l,n,p,a⟩:=a.out;exact⟨_,a,CZ _ _ _ _,λc d q f=>g _ (i c (d.mono (by simp +contextual)) _ (b c (d.mono (by simp +contextual)) _ (Fl.mk l n p f)))⟩
  | none,[.z],a=>
   exact⟨_,a,CZ _ _ _ _,λc d q f=>g _ (i c (d.mono (by simp +contextual)) _ (b c (d.mono (by simp +contextual)) _ f))⟩
def Tj(h:Px TE F T x y K):pM (λF K=>Px TE F T x y K) F (tm x++tm y) K:=by
 obtain⟨e,r,a,g⟩:=gV h;obtain⟨l,a,i⟩:=kM a;obtain⟨c,a,b⟩:=kM a;obtain⟨n,j,k,o,p,a⟩:=a.out;exact⟨_,a,CZ _ _ _ _,λd f t q=>g _ (i d (f.mono (by simp +contextual)) _ (b d (f.mono (by simp +contextual)) _ (Mk.mk n j k o p rfl q)))⟩
def RC{ok:Bool}(h:AZ TE F T x y ok K):pM (λF K=>AZ TE F T x y ok K) F (tm x++tm y) K:=by
 unfold AZ at h;split at h
 case h_2=>exact h.elim
 rename_i i;cases ok with
 | true=>exact h.elim
 | false=>
  simp only[cond_false]at h;obtain⟨j,k,b,c⟩:=cD h
  match j,k,b,c with
  | none,[.m es],b,c=>
   obtain⟨v,d,a⟩:=iI b
   match v,d,a with
   | .int .i64 z,d,a=>
    refine⟨_,d.out,CZ _ _ _ _,λf g l e=>?_⟩;simp only[AZ,i,cond_false];exact c f (g.mono (by simp +contextual)) _ (a f (g.mono (by simp +contextual)) _ (Ml.mk rfl e))
variable{lo:Option Operand}
def MR{j:Option Operand}(h:Ts TE F T x lo j K):pM (λF K=>Ts TE F T x lo j K) F (tm x++otm lo++otm j) K:=by
 obtain⟨e,q,b,t⟩:=gV h;obtain⟨l,b,u⟩:=yM b;obtain⟨r,b,g⟩:=yM b;obtain⟨w,A,b,i⟩:=cD b;have back:∀(c:List (List C))(k:List (List C)->Prop),Sl c q.size l r k->∃a,k a/\∀n:List (List C)->Prop,n a->Sl c q.size l r n:=λc k h=>by
  obtain⟨x,y,B,D,E,G,H,J⟩:=h.out;exact⟨_,J,λn b=>by refine .mk_ ?_;exact⟨x,y,B,D,E,G,H,_,rfl,b⟩⟩
 match w,A,b with
 | none,[.s .R c],b=>
  obtain⟨a,b,o⟩:=back _ _ b;exact⟨_,b,CZ _ _ _ _,λd f L p=>t _ (u d (f.mono (by simp +contextual)) _ (g d (f.mono (by simp +contextual)) _ (i d (f.mono (by simp +contextual)) _ (o _ p))))⟩
 | none,[.z],b=>
  obtain⟨a,b,o⟩:=back _ _ b;exact⟨_,b,CZ _ _ _ _,λd f L p=>t _ (u d (f.mono (by simp +contextual)) _ (g d (f.mono (by simp +contextual)) _ (i d (f.mono (by simp +contextual)) _ (o _ p))))⟩
def Qu{a:Option Operand}(h:qA TE F T x lo a K):pM (λF K=>qA TE F T x lo a K) F (tm x++otm lo++otm a) K:=by
 unfold qA at h;cases e:yr TE T with
 | false=>
  rw[e]at h;obtain⟨q,f,g,i⟩:=MR (show Ts TE F T x lo a K from h);exact⟨q,f,g,λb c o j=>by unfold qA;rw[e];exact i b c o j⟩
 | true=>
  rw[e]at h;obtain⟨v,p,t⟩:=iI (show WR F x lo a K from h);cases v with
  | string s=>
   obtain⟨l,d,k⟩:=yM p;obtain⟨r,d,n⟩:=yM d;obtain⟨m,y,z,f,g,i,u,w,d⟩:=d.out;exact⟨_,d,CZ _ _ _ _,λb c o j=>by
     unfold qA;rw[e];exact t b (c.mono (by simp +contextual)) _ (k b (c.mono (by simp +contextual)) _ (n b (c.mono (by simp +contextual)) _ (.mk_ ⟨m,y,z,f,g,i,u,w,j⟩)))⟩
  | _=>exact p.elim
def Vb(h:Nb TE F T x y K):pM (λF K=>Nb TE F T x y K) F (tm x++tm y) K:=by
 unfold Nb at h;cases a:yr TE T with
 | false=>rw[a]at h;exact h.elim
 | true=>
  rw[a]at h;obtain⟨v,d,g⟩:=iI h;cases v with
  | string s=>
   obtain⟨n,b,c⟩:=kM d;obtain⟨i,j,k,b⟩:=b.out;exact⟨_,b,CZ _ _ _ _,λe f o l=>by
     unfold Nb;rw[a];exact g e (f.mono (by simp +contextual)) _ (c e (f.mono (by simp +contextual)) _ (Cg i j k l))⟩
  | _=>exact d.elim
theorem M3{b c:Operand}(h:VO TE F T x b c K):pM (λF K=>VO TE F T x b c K) F (tm x) K:=by
 obtain⟨e,q,a,j⟩:=gV h;cases d:Wt b&&Wt c with
 | false=>grind
 | true=>
  rw[d]at a;obtain⟨l,n,a,k⟩:=cD a
  match l,n,a with
  | none,[.s o rows],a=>exact⟨_,a,CZ _ _ _ _,λf g p i=>j _ (by rw[d];exact k f g _ i)⟩
  | none,[.z],a=>exact⟨_,a,CZ _ _ _ _,λf g p i=>j _ (by rw[d];exact k f g _ i)⟩
theorem Qk{f:Nat}(h:tn TE F T x f K):pM (λF K=>tn TE F T x f K) F (tm x) K:=by
 unfold tn at h;split at h
 case h_2=>exact h.elim
 rename_i flds g;split at h
 case h_2=>exact h.elim
 rename_i p j;split at h
 case h_2=>exact h.elim
 rename_i i k;obtain⟨c,b,a,l⟩:=cD h;cases d:(c.isSome&&(i.agg || Nat.beq i.size 1)&&Nat.ble (p.1+i.size) b.length) with
 | false=>grind
 | true=>
  rw[d]at a;simp only[cond_true]at a;cases e:br (bP b p.1 i.size) with
  | false=>grind
  | true=>
   rw[e]at a;simp only[cond_true,d9]at a;exact⟨_,a,CZ _ _ _ _,λn o q r=>by grind [d9,tn]⟩
def TZ{b c:Nat}(h:zw TE F b c x K):pM (λF K=>zw TE F b c x K) F (tm x) K:=by
 unfold zw at h;split at h
 ·rename_i d e
  obtain⟨n,a,f⟩:=kM h;obtain⟨z,g,a⟩:=a.out;exact⟨_,a,CZ _ _ _ _,λi j l k=>by unfold zw;simp only[d,e];exact f i j _ (CR g k)⟩
 exact h.elim
def Uw{c:Bool}(h:XY c F x y K):pM (λF K=>XY c F x y K) F (tm x++tm y) K:=by
 obtain⟨z,d,g⟩:=iI h;cases z with
 | int k n=>
  obtain⟨m,a,b⟩:=kM d;obtain⟨z,i,a⟩:=a.out;exact⟨_,a,CZ _ _ _ _,λe f l j=>g e (f.mono (by simp +contextual)) _ (b e (f.mono (by simp +contextual)) _ (CY i j))⟩
 | _=>exact d.elim
theorem eG.mono{a:List Nat}{av:AV}(h:eG F ts av)(b:∀t,t∈ts->t∈a):eG F a av:=λd c=>(h d c).imp (b d) ψ
def pM.mono{p:(Nat->AV)->(AV->Prop)->Prop}{a:List Nat}(h:pM p F ts K)(b:∀t,t∈ts->t∈a):pM p F a K:=by
 obtain⟨c,d,e,f⟩:=h;exact⟨c,d,e.mono b,λg i j k=>f g (i.mono b) j k⟩
def dC(o:Op):List Nat:=o.operands.toList.flatMap tm
theorem kQ{o:Op}(h:dq P TE F o K):pM (λF K=>dq P TE F o K) F (dC o) K:=by
 cases o with
 | move x=>exact(kO h).mono (by grind [dC,Go.Op.operands])
 | assign x=>exact(kO h).mono (by grind [dC,Go.Op.operands])
 | nilCheck x=>
  cases x with
  | tmp t=>
   have G:t∈tm (.tmp t):=by simp[tm]
   have key:∀a:Nat->AV,a t=F t->∀b,dq P TE a (.nilCheck (.tmp t)) b=(match F t with|.ref ..=>bN a (.tmp t) b|.iref ..=>bN a (.tmp t) b|.Y .box _=>bN a (.tmp t) b|_=>False):=λa e b=>by grind [dq]
   rw[key F rfl]at h;have fin:bN F (.tmp t) K->(∀b (a:Nat->AV),a t=F t->bN a (.tmp t) b->dq P TE a (.nilCheck (.tmp t)) b)->pM (λF K=>dq P TE F (.nilCheck (.tmp t)) K) F (dC (.nilCheck (.tmp t))) K:=λR H=>by
    obtain⟨k,p,q,w⟩:=kO R;exact⟨k,p,q.mono (by grind [dC,Go.Op.operands]),λa j b g=>H _ a (j t (by grind [dC,Go.Op.operands])).1 (w a (j.mono (by grind [dC,Go.Op.operands])) b g)⟩
   grind
  | _=>exact h.elim
 | load T x=>exact(T7 h).mono (by grind [dC,Go.Op.operands])
 | fieldAddr T x f=>exact(DE h).mono (by grind [dC,Go.Op.operands])
 | indexAddr T x y=>exact(Dn h).mono (by grind [dC,Go.Op.operands])
 | binOp A T x y yT=>
  simp only[dq]at h;cases J:AF A y with
  | true=>
   rw[J]at h;obtain⟨k,p,q,w⟩:=UD h;exact⟨k,p,q.mono (by grind [dC,Go.Op.operands]),λa j b g=>by grind [iL.mono,dq,dC,Go.Op.operands]⟩
  | false=>
   rw[J]at h;have L:∀t,t∈tm x->t∈dC (.binOp A T x y yT):=λt G=>by grind [dC,Go.Op.operands]
   cases M:isAgg F x with
   | true=>
    rw[M]at h;obtain⟨k,p,q,w⟩:=Vw h;exact⟨k,p,q.mono (by grind [dC,Go.Op.operands]),λa j b g=>by grind [Fe,iL.mono,dq,dC,Go.Op.operands]⟩
   | false=>
   rw[M]at h;obtain⟨z,B,C⟩:=iI h;obtain⟨z2,D,S⟩:=iI B;obtain⟨v,E,N⟩:=Rf D;refine⟨_,E,CZ _ _ _ _,λa j b g=>by grind [Fe,iL.mono,dq,dC,Go.Op.operands]⟩
 | unOp A T x=>
  obtain⟨z,B,C⟩:=iI h;obtain⟨v,E,N⟩:=Vf B;exact⟨_,E,CZ _ _ _ _,λa j b g=>C a (j.mono (by grind [dC,Go.Op.operands])) _ (TS N ψ)⟩
 | pick c x y=>exact(Ui h).mono (by simp[dC,Op.operands])
 | alloc T=>
  simp only[dq]at h;unfold Ak at h;split at h
  ·rename_i i U
   exact⟨_,h,CZ _ _ _ _,λa _ b g=>by grind [dq,Ak]⟩
  exact h.elim
 | box T x=>exact(Vl h).mono (by grind [dC,Go.Op.operands])
 | extract x i=>exact(HV h).mono (by grind [dC,Go.Op.operands])
 | build T V=>exact(PI h).mono (by grind [dC,Go.Op.operands,tms])
 | buildSlice T n V=>exact(MH h).mono (by grind [dC,Go.Op.operands,tms])
 | makeSlice T x y=>exact(Tj h).mono (by grind [dC,Go.Op.operands])
 | makeMap T r=>
  simp only[dq,vY]at h |-;split at h
  case h_2=>exact h.elim
  exact⟨_,h,CZ _ _ _ _,ψ⟩
 | lookup T x y ok=>exact(RC h).mono (by grind [dC,Go.Op.operands])
 | slice T x W X Y=>
  cases Y with
  | none=>exact(Qu h).mono (by grind [dC,Go.Op.operands,otm])
  | some m=>
   cases W with
   | some _=>exact h.elim
   | none=>
    cases X with
    | none=>exact h.elim
    | some y=>exact(M3 h).mono (by simp +contextual [dC,Op.operands])
 | field T x f=>exact(Qk h).mono (by grind [dC,Go.Op.operands])
 | index T x y=>exact(Vb h).mono (by grind [dC,Go.Op.operands])
 | convert T1 T2 x=>exact(TZ h).mono (by grind [dC,Go.Op.operands])
 | makeFunc fn fs cs=>
  simp only[dq]at h;split at h
  ·rename_i f Z
   obtain⟨l,g,C⟩:=tt h;refine⟨_,g,λd O=>.inl ?_,λa _ b hK'=>?_⟩
   ·simp only[AV.uses,O7]at O
    obtain⟨c,H,he⟩:=O;have:=O3 he;subst this;simp only[dC,Op.operands,List.mem_flatMap];refine⟨.tmp c,?_,by simp[tm]⟩
    grind
   grind [KB,dq]
  exact h.elim
 | call c=>
  obtain⟨callee,args,ts⟩:=c;simp only[dq]at h;split at h
  ·rename_i f
   exact(Uy h).mono (by grind [dC,Go.Op.operands,Go.Call.operands,tms])
  ·exact(PU h).mono (λt G=>by grind [dC,Go.Op.operands,Go.Call.operands,tm,tms])
  ·split at h
   ·rename_i x T Q U
    have u:args = #[x]:=ψ
    have e2:ts = #[T]:=ψ
    subst u e2;exact(VG h).mono (by grind [dC,Go.Op.operands,Go.Call.operands])
   exact h.elim
  ·split at h
   all_goals grind [TO,dC,Go.Op.operands,Go.Call.operands,dq]
  ·split at h
   ·rename_i x y Q
    have u:args = #[x,y]:=ψ
    subst u;exact(Uw h).mono (by simp[dC,Op.operands,Call.operands])
   exact h.elim
  ·split at h
   ·rename_i x y Q
    have u:args = #[x,y]:=ψ
    subst u;exact(Uw h).mono (by simp[dC,Op.operands,Call.operands])
   exact h.elim
  exact h.elim
 | _=>exact h.elim
end
def dn(o:Oper)(i:Nat):Bool:=o.after.toList.any λe=>Region.binds .any e&&Nat.beq e.on i
def dH(ops:Array Oper)(i:Nat):Oper:=ops.getD i default
def below(n:Nat)(p:Nat->Bool):Bool:=(List.range n).all p
def xe(ops:Array Oper)(i j:Nat):Bool:=match(dH ops i).dst with|some d=>((dH ops j).looksAt ops).any (Nat.beq d)|none=>false
def JM:List Nat->Nat
 | []=>0
 | k::a=>2 ^ k ||| JM a
def ons(o:Oper):List Nat:=(o.after.toList.filter λe=>Region.binds .any e).map (·.on)
variable{α:Type}
def frc(n:Nat)(K:Nat->α):α:=match n with|0=>K 0|n+1=>K (n+1)
def TR(n:Nat)(K:Nat->α):frc n K=K n:=by cases n<;>rfl
def clo(ops:Array Oper):Nat->Nat->Nat
 | 0,S=>S
 | k+1,S=>bif S.testBit k then frc (S ||| JM (ons (dH ops k))) (clo ops k) else clo ops k S
def G0(ops:Array Oper)(m:Nat):Bool:=
 below ops.size λj=>((dH ops j).after.toList.all λe=>!Region.binds .any e || Nat.blt e.on j) &&
  (bif Nat.blt j m then below m (λi=>Nat.beq i j || ((dn (dH ops j) i || dn (dH ops i) j || (dH ops i).apart ops (dH ops j))&&(!xe ops i j || dn (dH ops j) i))) else frc (clo ops j (JM (ons (dH ops j)))) λS=>below j λi=>S.testBit i)
def zE:List (Nat × Nat × List Nat)->Nat->Option (Nat × List Nat)
 | [],_=>none
 | p::l,id=>bif Nat.beq id p.1 then some p.2 else zE l id
def ρ(a b c:Nat)(d:Nat:=b):Nat × Nat × List Nat:=(a,b,.range' c d)
def ς0:=ρ 15 11 56
def ς1:=ρ 8 10 67
def ς2:=ρ 20 12 85
def ς3:=ρ 24 4 111
def ς4:=ρ 8 6 47
def ς5:=(15,269,[68,69,70,71,72,73,74,75,77,67,78,79,11,0,1,2,3,4,5,6,7,13,8,1000,1001,1002,1003,1004,1013,9,10,11,12,14,1012,15])
def ς6:=ρ 22 15 92
def ς7:=(25,271,[116,117,118,119,120,121,122,123,124,125,127,115,128,129,14,0,1,2,3,4,5,6,7,8,9,15,10,1000,1001,1002,1003,1015,11,12,13,14,16,1014,17])
def ς8:=ρ 7 7 27
def ς9:=ρ 9 14 38
def ςa:=ρ 9 6 53
def ςb:=ρ 2 8 21
def ςc:=ρ 9 4 54
def ςd:=ρ 10 4 61
def ςe:=(3,260,[23,24,25,26,0,1,2,3,4,1001,1002,1003,5,6])
def ςf:=ρ 1 5 3
def ςg:=(4,267,[16,17,18,19,20,21,22,23,24,25,27,0,1,2,3,4,5,6,7,8,9,10,1000,1001,1002,11,12])
def ςh:=(4,267,[17,18,19,20,21,22,23,24,25,26,28,0,1,2,3,4,5,6,7,8,9,10,1000,1001,1002,11,12])
def ςi:=(8,275,[34,35,36,37,38,39,40,41,42,43,44,45,46,47,48,33,49,50,6,0,1,2,3,4,5,6,7,8,9,10,11,12,13,14,15,16,17,18,19,1017,20])
def ςj:=(10,275,[41,42,43,44,45,46,47,48,49,50,51,52,53,54,55,40,56,57,8,0,1,2,3,4,5,6,7,8,9,10,11,12,13,14,15,16,17,18,19,1017,20])
def ςk:=ρ 3 16 27
def ςl:=ρ 1 8 4
def ςm:=ρ 2 6 13
def ςn:=ρ 3 4 8
def ςo:=ρ 4 2 23
def ςp:=ρ 6 13 26
def ςq:=(4,12,[23,24,25,26,27,28,29,30,31,32,4,5])
def ςr:=(4,12,[28,29,30,31,32,33,34,35,36,37,4,5])
def ςs:=ρ 3 15 25
def ςt:=(2,274,[26,27,28,29,30,31,32,33,34,35,36,37,38,39,25,40,41,42,0,1,2,3,4,5,6,7,8,9,10,11,12,13,14,15,16,17,18,1016])
def ςu:=(0,11,[6,7,8,9,10,11,12,13,14,15,4])
def ςv:=(2,277,[20,21,22,23,24,25,26,27,28,29,30,31,32,33,34,35,36,19,37,38,39,0,1,2,3,4,5,6,7,8,9,10,11,12,13,14,15,16,17,18,19,20,21,1019])
def ςw:=(3,9,[40,41,42,43,44,45,46,47,5])
def ςx:=(2,283,[20,21,22,23,24,25,26,27,28,29,30,31,32,33,34,35,36,37,38,39,40,41,42,19,43,44,4,0,1,2,3,4,5,6,7,8,9,10,11,12,13,14,15,16,17,18,19,20,21,22,23,24,25,26,27,1025,28])
def ςy:=(5,270,[30,31,32,33,34,35,36,37,38,39,40,41,43,44,0,1,2,3,4,5,6,7,8,9,10,11,12,1000,1001,1002,13,14,15])
def ςz:=(5,267,[31,32,33,34,35,36,37,38,39,40,42,0,1,2,3,4,5,6,7,8,9,10,1000,1001,1002,11,12])
def ς10:=(6,270,[43,44,45,46,47,48,49,50,51,52,53,54,55,57,0,1,2,3,4,5,6,7,8,9,10,11,12,13,1000,1001,1002,1003,14,15])
def ς11:=(7,261,[37,38,39,40,42,0,1,2,3,5,4,1005,6,1005,7,8])
def ς12:=(1,267,[11,12,13,14,15,16,17,10,18,19,20,0,1,2,3,4,5,6,7,8,9,10,11,1009,1010,12,1010,13])
def ς13:=(2,260,[17,18,19,10,0,1,2,5,3,1000,1005,4,1005,6])
def ς14:=(2,260,[17,18,19,10,0,1,2,4,3,1004,5])
def ς15:=(6,270,[41,42,43,44,45,46,47,48,49,50,51,52,53,55,0,1,2,3,4,5,6,7,8,9,10,11,12,13,1000,1001,1002,1003,14,15])
def ς16:=(3,7,[20,21,22,23,24,25,7])
def ς17:=(6,268,[33,34,35,36,37,38,39,40,41,42,43,44,0,1,2,3,4,5,6,7,8,9,10,11,12,1001,1002,1003,1004,1005,1006,1007,1008,1009,1010,1011,13,14])
def ς18:=(6,266,[41,42,43,44,45,46,47,48,49,51,0,1,2,3,4,5,6,7,8,9,1000,1001,1002,10,11])
def ς19:=(1,20,[3,4,5,6,7,8,9,10,11,12,13,14,15,16,17,18,19,20,21,2])
def ς1a:=(1,277,[16,17,18,19,20,21,22,23,24,25,26,27,28,29,30,31,32,15,33,34,7,0,1,2,3,4,5,6,7,8,9,10,11,12,13,14,15,16,17,18,19,20,21,1019,22])
def ς1b:=(0,11,[9,10,11,12,13,14,15,16,17,18,6])
def ς1c:=(2,278,[23,24,25,26,27,28,29,30,31,32,33,34,35,36,37,38,39,40,22,41,42,7,0,1,2,3,4,5,6,7,8,9,10,11,12,13,14,15,16,17,18,19,20,21,22,1020,23])
def ς1d:=(4,274,[38,39,40,41,42,43,44,45,46,47,48,49,50,51,52,53,54,56,0,1,2,3,4,5,6,7,8,9,10,11,12,13,14,15,16,17,1000,1001,1002,1003,1004,1005,1006,18,19])
def ς1e:=(4,263,[13,14,15,16,17,18,22,0,1,2,3,4,5,6,1000,1001,7,1000,1001,8,9,10])
def ς1f:=(6,259,[27,28,29,0,1,2,3,1001,1002,4])
def ς1g:=(5,267,[16,17,18,19,20,22,23,24,25,26,28,0,1,2,3,4,6,7,8,9,10,5,1006,1007,1008,1009,1010,11,12,13])
def ς1h:=(5,268,[32,33,34,35,36,37,38,39,40,41,42,44,0,1,2,3,4,5,6,7,8,9,10,11,1000,1001,1002,12,13])
def ς1i:=(6,265,[45,46,47,48,49,50,51,52,53,0,1,2,3,4,5,6,7,8,9,1001,1002,1003,1004,1005,1006,1007,1008,10,11])
def ς1j:=(20,270,[123,124,125,126,127,128,129,130,131,122,132,133,134,135,0,1,2,3,4,5,6,7,8,9,10,11,12,13,14,1011])
def iy(P:Program)(TE:Nat->Option TI)(N:fF)(ops:Array Oper)(o:Oper)(K:(Nat->AV)->Prop)(F:Nat->AV):Prop:=
 gi F ops o.guard (λF=>match o.dst with|some d=>dq P TE F o.op λa=>bV N F d a K|none=>False)
  (λF=>match o.dst with|some d=>bV N F d (.Y (.tup []) []) K|none=>False)
def pw:Op->Option (Option Nat × Nat)
 | .buildSlice T 1 ps=>(match ps.toList with|[(0,.tmp s)]=>some (some T,s)|_=>none)
 | .move (.tmp s)=>some (none,s)
 | _=>none
def own1(T:Option Nat)(k:Kd)(cs:List C):Bool:=match T with
 | some _=>(match k with
   | .one=>(match cs with|[c]=>eR c|_=>false)
   | .agg=>(match cs with|[c]=>eR c|_=>false)
   | _=>false)
 | none=>(match k with|.tup _=>!br cs|_=>false)
def X5(TE:Nat->Option TI)(N:fF)(F:Nat->AV)(d:Nat)(T:Option Nat)(s:Nat)(K:(Nat->AV)->Prop):Prop:=match T with
 | some T=>gK TE N F d T 1 [(0,.tmp s)] K
 | none=>jT N F d (.tmp s) K
def NZ(F:Nat->AV)(o:Oper):Option (Option Nat × Nat):=
 match o.guard with
 | some _=>none
 | none=>match pw o.op with
  | none=>none
  | some p=>match F p.2 with
   | .Y k cs=>bif own1 p.1 k cs then some p else none
   | .dead=>none
   | .ref ..=>none
   | .c5 ..=>none
   | .iref ..=>none
   | .fn ..=>none
   | .fv _=>none
def ka(ops:Array Oper)(o:Oper)(s:Nat):Bool:=
 ((List.range ops.size).any λk=>dn o k&&(match(dH ops k).dst with|some a=>Nat.beq a s|none=>false))&&Nat.ble (ops.toList.filter λk=>(k.looksAt ops).any (Nat.beq s)).length 1
def sB(ds:List Nat)(o:Oper):Bool:=match o.dst with|some d=>ds.any (Nat.beq d)|none=>false
def twk:List Nat->List Nat
 | []=>[]
 | e::l=>bif Nat.ble 1000 e then(e - 1000)::twk l else []
def dec:List Nat->List (Nat × List Nat)
 | []=>[]
 | e::l=>bif Nat.ble 1000 e then dec l else(e,twk l)::dec l
def Wn:Op->Bool
 | .move (.tmp _)=>true
 | .assign _=>true
 | .extract ..=>true
 | .build ..=>true
 | .buildSlice ..=>true
 | .store ..=>true
 | .load ..=>true
 | .fieldAddr ..=>true
 | .field ..=>true
 | .index ..=>true
 | .binOp ..=>true
 | .unOp ..=>true
 | .call c=>(sP c).isSome
 | .slice _ _ none (some _) none=>true
 | .slice _ _ (some _) none none=>true
 | _=>false
def ro:Op->Bool
 | .call c=>(match c.callee with|.value (.func _)=>true|_=>false)
 | _=>false
def AE(l:List (Nat × List Nat))(i:Nat):Bool:=l.any λp=>Nat.beq p.1 i
def yA(ops:Array Oper)(j i:Nat):Bool:=(clo ops j (JM (ons (dH ops j)))).testBit i
def XQ(o:Oper):Bool:=match o.guard with|none=>true|some _=>false
def Yo(sch:List (Nat × List Nat))(i:Nat):Bool:=sch.any λp=>Nat.beq p.1 i&&!p.2.isEmpty
def XS(ops:Array Oper)(a b:Oper)(nm:Bool):Bool:=match b.dst with
 | none=>false
 | some c=>XQ a&&(Wn a.op || ro a.op)&&!(match a.dst with|some d=>Nat.beq d c|none=>false)&&!(a.looksAt ops).any (Nat.beq c)&&XQ b&&!(b.looksAt ops).any (Nat.beq c)&&(nm || match pw b.op with|none=>true|some p=>!ka ops b p.2)
def Fg(ops:Array Oper)(ds:List Nat)(nm:Nat->Bool)(i j:Nat):Bool:=
 bif sB ds (dH ops j) then(bif sB ds (dH ops i) then(dn (dH ops j) i || dn (dH ops i) j || (dH ops i).apart ops (dH ops j))&&(!xe ops i j || dn (dH ops j) i)&&!(match(dH ops i).dst with|some d=>(match(dH ops j).dst with|some e=>Nat.beq d e|none=>false)|none=>false) else true)
 else(bif sB ds (dH ops i) then(yA ops j i || yA ops i j || XS ops (dH ops j) (dH ops i) (nm i))&&(!xe ops i j || dn (dH ops j) i) else true)
def Jv(ops:Array Oper)(ds:List Nat):List (Nat × List Nat)->Bool
 | []=>true
 | k::l=>Nat.blt k.1 ops.size&&!AE l k.1&&((dH ops k.1).after.toList.all λe=>!Region.binds .any e || !(Nat.beq k.1 e.on || AE l e.on)) &&
  (sB ds (dH ops k.1) || ((l.all λj=>yA ops j.1 k.1)&&(below ops.size λp=>!sB ds (dH ops p) || AE l p || yA ops k.1 p || k.2.any (Nat.beq p))&&(!(l.any λj=>sB ds (dH ops j.1)) || (XQ (dH ops k.1)&&(Wn (dH ops k.1).op || ro (dH ops k.1).op)))))&&Jv ops ds l
def GH(ops:Array Oper)(ds:List Nat)(sch:List (Nat × List Nat)):Bool:=
 (below ops.size λj=>((dH ops j).after.toList.all λe=>!Region.binds .any e || Nat.blt e.on j)&&AE sch j&&(!sB ds (dH ops j) || (match pw (dH ops j).op with|none=>true|some p=>!ka ops (dH ops j) p.2 || ds.any (Nat.beq p.2)))&&below ops.size λi=>Nat.beq i j || Fg ops ds (Yo sch) i j)&&Nat.beq sch.length ops.size&&Jv ops ds sch
def oU(tb:List (Nat × Nat × List Nat))(id:Nat)(ops:Array Oper):Bool:=
 match zE tb id with
 | some (m,ds)=>bif Nat.ble 65536 m then true else bif Nat.ble 256 m then GH ops (ds.take (m - 256)) (dec (ds.drop (m - 256))) else(Nat.ble m ops.size&&below m λj=>match(dH ops j).dst with|some d=>ds.any (Nat.beq d)|none=>true)&&G0 ops m
 | none=>false
def m9(P:Program)(TE:Nat->Option TI)(N:fF)(ops:Array Oper)(o:Oper)(K:(Nat->AV)->Prop)(F:Nat->AV):Prop:=
 match NZ F o with
 | some p=>(match o.dst with|some d=>bif ka ops o p.2 then X5 TE N F d p.1 p.2 K else False|none=>False)
 | none=>iy P TE N ops o K F
def Tu(P:Program)(TE:Nat->Option TI)(N:fF)(ops:Array Oper):Nat->List Oper->((Nat->AV)->Prop)->(Nat->AV)->Prop
 | 0,l,K,F=>PS P TE N ops l K F
 | _+1,[],K,F=>K F
 | m+1,o::l,K,F=>m9 P TE N ops o (Tu P TE N ops m l K) F
def VL(ds:List Nat)(t:Nat):Bool:=ds.any (Nat.beq t)
def Y7(ds:List Nat):AV->AV
 | .ref t off st=>bif VL ds t then .dead else .ref t off st
 | .c5 t off st ag=>bif VL ds t then .dead else .c5 t off st ag
 | .fn f caps=>bif caps.any (VL ds) then .dead else .fn f caps
 | .Y k cs=>.Y k cs
 | .iref r off=>.iref r off
 | .fv Ok=>.fv Ok
 | .dead=>.dead
def clr(ds:List Nat)(F:Nat->AV):Nat->AV:=λt=>Y7 ds (F t)
theorem FL(ds:List Nat)(F:Nat->AV)(t:Nat):clr ds F t=bif ds.any (λd=>(F t).uses d) then .dead else F t:=by
 unfold clr;cases F t with
 | dead=>cases ds.any λd=>AV.uses d .dead<;>rfl
 | Y k i=>
  have:ds.any (λd=>(AV.Y k i).uses d)=false:=by
   rw[<-SA,O7]
   rintro⟨d,_,h⟩
   cases h
  rw[this];rfl
 | iref r a=>
  have:ds.any (λd=>(AV.iref r a).uses d)=false:=by
   rw[<-SA,O7]
   rintro⟨d,_,h⟩
   cases h
  rw[this];rfl
 | fv Ok=>
  have:ds.any (λd=>(AV.fv Ok).uses d)=false:=by
   rw[<-SA,O7]
   rintro⟨d,_,h⟩
   cases h
  rw[this];rfl
 | ref j a l=>rfl
 | c5 j a l n=>rfl
 | fn f caps=>
  have:ds.any (λd=>(AV.fn f caps).uses d)=caps.any (VL ds):=by
   rw[O9,O7,O7];constructor
   ·rintro⟨d,b,h⟩
    simp only[AV.uses,O7]at h;obtain⟨c,e,g⟩:=h;exact⟨c,e,O7.2 ⟨d,b,g⟩⟩
   rintro⟨c,e,h⟩
   obtain⟨d,b,g⟩:=O7.1 h
   grind [AV.uses]
  rw[this];rfl
inductive Sm(a b:AV)(K:Prop):Prop
 |mk_ (h:a=b/\K)
def Sm.rf{a:AV}{K:Prop}(h:K):Sm a a K:=.mk_ ⟨rfl,h⟩
def CG:type_of% @Sm.rf:=@Sm.rf
def Sm.out{a b:AV}{K:Prop}(h:Sm a b K):a=b/\K:=h.1
def Yi(P:Program)(TE:Nat->Option TI)(ops:Array Oper)(p:Nat)(K:Prop)(F:Nat->AV):Prop:=
 match(dH ops p).dst with
 | none=>False
 | some d=>(match NZ F (dH ops p) with
   | some _=>False
   | none=>dq P TE F (dH ops p).op λa=>Sm a (F d) K)
def Ul(P:Program)(TE:Nat->Option TI)(ops:Array Oper):List Nat->Prop->(Nat->AV)->Prop
 | [],K,_=>K
 | p::l,K,F=>Yi P TE ops p (Ul P TE ops l K F) F
def Ra(P:Program)(TE:Nat->Option TI)(N:fF)(ops:Array Oper)(nm:Bool)(o:Oper)(K:(Nat->AV)->Prop)(F:Nat->AV):Prop:=
 match nm with
 | false=>m9 P TE N ops o K F
 | true=>(match NZ F o with
   | some _=>False
   | none=>iy P TE N ops o K F)
def PW(P:Program)(TE:Nat->Option TI)(N:fF)(ops:Array Oper)(ds:List Nat)(nm:Nat->Bool):List (Nat × List Nat)->((Nat->AV)->Prop)->(Nat->AV)->Prop
 | [],K,F=>K F
 | k::l,K,F=>bif sB ds (dH ops k.1) then Ra P TE N ops (nm k.1) (dH ops k.1) (PW P TE N ops ds nm l K) F else jD P TE N ops (dH ops k.1) (λa=>Ul P TE ops k.2 (PW P TE N ops ds nm l K a) a) F
def VJ:List Nat->(List Nat->Prop)->Prop
 | [],K=>K []
 | a::l,K=>VJ l λb=>K (a::b)
def Nv:∀(l:List Nat)(K:List Nat->Prop),VJ l K=K l
 | [],_=>rfl
 | a::l,K=>by rw[VJ,Nv l]
def G6(l:List Nat)(j:Nat):Bool:=l.any (Nat.beq j)
def Ug(ops:Array Oper)(done:List Nat):List Nat:=(List.range ops.size).filter λj=>!G6 done j&&((dH ops j).after.toList.all λe=>!Region.binds .any e || G6 done e.on)
def Yw(p:Nat->Prop):Nat->List Nat->Prop
 | i,[]=>p i
 | i,j::l=>p i/\Yw p j l
def YC(l:List Nat)(K:Prop)(p:Nat->Prop):Prop:=match l with
 | []=>K
 | i::l=>Yw p i l
def Xy(P:Program)(TE:Nat->Option TI)(N:fF)(ops:Array Oper)(K:(Nat->AV)->Prop):Nat->List Nat->(Nat->AV)->Prop
 | 0,done,F=>YC (Ug ops done) (K F) λ_=>False
 | n+1,done,F=>YC (Ug ops done) (K F) λi=>jD P TE N ops (dH ops i) (Xy P TE N ops K n (i::done)) F
def DD(P:Program)(TE:Nat->Option TI)(N:fF)(tb:List (Nat × Nat × List Nat))(id:Nat)(ops:Array Oper)(K:(Nat->AV)->Prop)(F:Nat->AV):Prop:=
 match zE tb id with
 | some (m,ds)=>bif Nat.ble 65536 m then Xy P TE N ops K ops.size [] F else bif Nat.ble 256 m then VJ (ds.take (m - 256)) λa=>PW P TE N ops a (Yo (dec (ds.drop (m - 256)))) (dec (ds.drop (m - 256))) K (clr a F) else Tu P TE N ops m ops.toList K (clr ds F)
 | none=>False
variable{i n:Nat}
theorem ic{p:Nat->Bool}(h:below n p=true)(a:i<n):p i=true:=S7.1 h i ψ
theorem cB{o:Oper} : dn o i=true↔∃e,e∈o.after/\Region.binds .any e=true/\e.on=i:=by grind [O3,Nat.beq_refl,dn]
theorem bI{ops:Array Oper}{o:Oper}(h:ops[i]? = some o):dH ops i=o:=by simp[dH,ZC,h]
section
variable{P:Program}{w0 w w1:World}{M S0 S:af}{N:fF}{φ:Nat->af}{F:Nat->AV}{a:Act}{TE:Nat->Option TI}{ops:Array Oper}
variable{d:Nat}
theorem EJ{b:Bool}(a:F d=.Y .one [.v (.bool b)]):Jg F d b=F:=by grind [O3,Jg]
theorem jd(o:Oper)(t:Nat)(h:t∈dC o.op):t∈o.looksAt ops:=by grind [Go.Oper.looksAt,dC,tm]
structure Yt(P:Program)(TE:Nat->Option TI)(N:fF)(ops:Array Oper)(o:Oper)(F:Nat->AV)(d:Nat)(av:AV):Prop where
 dst:o.dst=some d
 lt:N.free d=true
 self:av.uses d=false
 from_:eG F (o.looksAt ops) av
 at_:∀F':Nat->AV,iL F F' (o.looksAt ops)->∀K':(Nat->AV)->Prop,K' (put F' d av)->iy P TE N ops o K' F'
def iL.refl(F:Nat->AV)(ts:List Nat):iL F F ts:=λ_ _=>⟨rfl,λ_ _ _ _ h=>h⟩
theorem Cp:type_of% @iL.refl:=@iL.refl
variable{K:(Nat->AV)->Prop}{o:Oper}
theorem Ar(h:iy P TE N ops o K F):∃d av,Yt P TE N ops o F d av/\K (put F d av):=by
 cases e:o.dst with
 | none=>
  exfalso;unfold iy at h;rw[e]at h;unfold gi at h
  grind [Bf.out]
 | some d=>
  have put1:∀{a:Nat->AV}{av:AV}{c:(Nat->AV)->Prop},N.free d=true->av.uses d=false->c (put a d av)->bV N a d av c:=λA B E=>by grind [bV]
  have put2:∀{a:Nat->AV}{av:AV}{c:(Nat->AV)->Prop},bV N a d av c->N.free d=true/\av.uses d=false/\c (put a d av):=fun {a av c} n=>by grind [bV]
  have pure1:dq P TE F o.op (λav=>bV N F d av K)->∃av,N.free d=true/\av.uses d=false/\K (put F d av)/\eG F (o.looksAt ops) av/\∀a:Nat->AV,iL F a (o.looksAt ops)->∀c:(Nat->AV)->Prop,c (put a d av)->dq P TE a o.op (λav=>bV N a d av c):=λn=>by
   obtain⟨av,A,B,E⟩:=kQ n
   grind [eG.mono,jd,iL.mono]
  unfold iy at h;rw[e]at h;unfold gi at h;cases r:o.guard with
  | none=>
   rw[r]at h;obtain⟨av,i,k,l,w,C⟩:=pure1 h;exact⟨d,av,⟨e,i,k,w,λa f c t=>by unfold iy gi;simp_all⟩,l⟩
  | some p=>
   obtain⟨j,want⟩:=p;rw[r]at h;simp only at h;cases y:(ops[j]?).bind (·.dst) with
   | none=>grind
   | some u=>
    rw[y]at h;simp only at h;have q:u∈o.looksAt ops:=by grind [Go.Oper.looksAt]
    split at h
    case h_3=>exact h.elim
    case h_2=>
     rename_i J L g;obtain⟨i,k,l⟩:=put2 h;refine⟨d,.Y (.tup []) [],⟨e,i,k,(λd e=>by cases e),λa f c t=>?_⟩,l⟩;unfold iy gi;rw[r,e];simp only;rw[y];simp only;rw[(f u q).1.trans g];exact put1 i k t
    rename_i b g;have same:∀{a:Nat->AV},iL F a (o.looksAt ops)->a u=.Y .one [.v (.bool b)]:=λf=>(f u q).1.trans g
    have back:∀{a:Nat->AV}{c:(Nat->AV)->Prop},iL F a (o.looksAt ops)->(b=want->dq P TE a o.op (λav=>bV N a d av c))->(b = !want->bV N a d (.Y (.tup []) []) c)->iy P TE N ops o c a:=fun {a c} f A B=>by
     unfold iy gi;rw[r,e];simp only;rw[y];simp only;rw[same f];simp only;refine Bf.P (λG=>?_) (λG=>?_)
     all_goals grind [EJ]
    have D:=EJ g;replace h:=Bf.out h;by_cases H:b=want
    ·have n:dq P TE F o.op (λav=>bV N F d av K):=ψ
     obtain⟨av,i,k,l,w,C⟩:=pure1 n;exact⟨d,av,⟨e,i,k,w,λa f c t=>back f (λ_=>C a f c t) ψ⟩,l⟩
    have n:bV N F d (.Y (.tup []) []) K:=ψ
    obtain⟨i,k,l⟩:=put2 n;exact⟨d,.Y (.tup []) [],⟨e,i,k,(λd e=>by cases e),ψ⟩,l⟩
def aft:AV->AV
 | .Y k a=>.Y k (splice a 0 (List.replicate a.length .x))
 | _=>.Y .one [.x]
theorem U2(v:AV)(e:Nat):(aft v).uses e=false:=by unfold aft;split<;>rfl
def eff(a:Option Nat)(d:Nat)(av:AV)(F:Nat->AV):Nat->AV:=λt=>if t=d then av else if a=some t then aft (F t) else F t
theorem Hz(av:AV)(a:∀t,(F t).uses d=false):put F d av=eff none d av F:=by grind [qK,jr,EV,eff]
variable{s:Nat}
theorem Xp{v:AV}(h:v.uses s=false):wc s v=v:=by
 cases v with
 | c5 t a b c=>grind [AV.uses,wc]
 | ref t a b=>simp only[AV.uses]at h;cases b<;>simp[wc,h]
 | _=>rfl
theorem U3{k:Kd}{cs:List C}(av:AV)(a:F s=.Y k cs)(c:∀t,(F t).uses d=false)(e:∀t,(F t).uses s=false):put (updH F s k (splice cs 0 (List.replicate cs.length .x))) d av=eff (some s) d av F:=by
 funext t
 unfold eff;by_cases h:t=d
 ·grind [qK]
 rw[jr _ _ h,CI h];by_cases b:t=s
 ·subst b;rw[jw,CJ rfl,a];rfl
 grind [Nat.beq_eq,Xp,EV,updH]
theorem Mw{T:Nat}{k:Kd}{c:C}(o:k=.one\/k=.agg)(p:F s=.Y k [c])(q:eR c=true)(h:gK TE N F d T 1 [(0,.tmp s)] K) :
  ∃av,N.free d=true/\(∀e,av.uses e=false)/\K (put (updH F s k [.x]) d av)/\∀(F':Nat->AV)(b:(Nat->AV)->Prop),F' s=.Y k [c]->b (put (updH F' s k [.x]) d av)->gK TE N F' d T 1 [(0,.tmp s)] b:=by
 have key:∀F':Nat->AV,F' s=.Y k [c]->∀b:(Nat->AV)->Prop,gK TE N F' d T 1 [(0,.tmp s)] b=L9 TE T λ_ a=>bif Nat.ble (1*a.size) 16777216 then(bif Nat.beq 1 a.size&&Nat.ble (0*a.size+a.size) (rep a.zero 1).length then bV N (updH F' s k [.x]) d (.Y .one [.s .own (chunk a.size 1 (splice (rep a.zero 1) (0*a.size) [c]))]) b else False) else False:=by
  intro F' f b;unfold gK
  congr 1
  funext e a
  rcases o with rfl|rfl<;>simp only[d9,fillW,Yx,x9,oN,f,jj,br,q,cond_true,cond_false,gX,rr,List.length_singleton,List.replicate]
  all_goals rfl
 rw[key F p]at h;obtain⟨e,a,g,n⟩:=gV h;cases i:Nat.ble (1*a.size) 16777216 with
 | false=>grind
 | true=>
  cases j:(Nat.beq 1 a.size&&Nat.ble (0*a.size+a.size) (rep a.zero 1).length) with
  | false=>grind
  | true=>
   rw[i,j]at g;simp only[cond_true]at g;unfold bV at g;cases l:N.free d with
   | false=>grind
   | true=>
    rw[l]at g;refine⟨_,rfl,λ_=>rfl,g,λF' b f r=>?_⟩
    grind [bV]
variable{T:Option Nat}
theorem WN{k:Kd}{cs:List C}(j:F s=.Y k cs)(l:own1 T k cs=true)(h:X5 TE N F d T s K) :
  ∃av,N.free d=true/\(∀e,av.uses e=false)/\K (put (updH F s k (splice cs 0 (List.replicate cs.length .x))) d av)/\∀(F':Nat->AV)(a:(Nat->AV)->Prop),F' s=.Y k cs->a (put (updH F' s k (splice cs 0 (List.replicate cs.length .x))) d av)->X5 TE N F' d T s a:=by
 cases T with
 | some T=>
  have f:(k=.one\/k=.agg)/\∃c,cs=[c]/\eR c=true:=by
   unfold own1 at l
   grind
  obtain⟨n,c,rfl,o⟩:=f;exact Mw n j o h
 | none=>
  have f:∃b,k=.tup b/\br cs=false:=by
   unfold own1 at l
   grind
  obtain⟨b,rfl,p⟩:=f;have key:∀F':Nat->AV,F' s=.Y (.tup b) cs->∀a,X5 TE N F' d none s a=bV N (updH F' s (.tup b) (splice cs 0 (List.replicate cs.length .x))) d (.Y (.tup b) cs) a:=λF' g a=>by grind [X5,jT]
  rw[key F j]at h;unfold bV at h;cases i:N.free d with
  | false=>grind
  | true=>
   rw[i]at h;refine⟨_,rfl,λ_=>rfl,h,λF' a g q=>?_⟩
   grind [bV]
structure Yl(P:Program)(TE:Nat->Option TI)(N:fF)(ops:Array Oper)(o:Oper)(F:Nat->AV)(mv:Option Nat)(d:Nat)(av:AV):Prop where
 dst:o.dst=some d
 lt:N.free d=true
 self:av.uses d=false
 from_:eG F (o.looksAt ops) av
 mvl:∀s,mv=some s->o.guard=none/\(∃T,pw o.op=some (T,s))/\ka ops o s=true
 at_:∀F':Nat->AV,iL F F' (o.looksAt ops)->(∀t,(F' t).uses d=false)->(∀s,mv=some s->∀t,(F' t).uses s=false)->∀K':(Nat->AV)->Prop,K' (eff mv d av F')->m9 P TE N ops o K' F'
theorem NM{o:Op}(h:pw o=some (T,s)):(∃a ps,T=some a/\o=.buildSlice a 1 ps/\ps.toList=[(0,.tmp s)])\/(T=none/\o=.move (.tmp s)):=by
 unfold pw at h
 grind
theorem dl(h:pw o.op=some (T,s)):s∈o.looksAt ops:=by
 refine jd o s ?_;unfold dC;refine List.mem_flatMap.2 ⟨.tmp s,?_,by simp[tm]⟩
 grind [NM,Go.Op.operands]
theorem KY{p:Option Nat × Nat}(h:NZ F o=some p):o.guard=none/\pw o.op=some p/\∃k cs,F p.2=.Y k cs/\own1 p.1 k cs=true:=by grind [NZ]
theorem yU{F':Nat->AV}(a:iL F F' (o.looksAt ops)):NZ F' o=NZ F o:=by
 unfold NZ;cases c:o.guard with
 | some _=>rfl
 | none=>
  cases b:pw o.op with
  | none=>rfl
  | some p=>simp only;rw[(a p.2 (dl b)).1]
theorem uw(c:NZ F o=none)(h:iy P TE N ops o K F)(e:∀d,o.dst=some d->∀t,(F t).uses d=false):∃d av,Yl P TE N ops o F none d av/\K (eff none d av F):=by
 obtain⟨d,av,a,f⟩:=Ar h;refine⟨d,av,⟨a.dst,a.lt,a.self,a.from_,ψ,λg i j _ k b=>?_⟩,by grind [Hz,Yt.dst]⟩
 grind [yU,Yt.at_,Hz,m9]
theorem sf(h:m9 P TE N ops o K F)(E:∀d,o.dst=some d->∀t,(F t).uses d=false)(y:∀T s,o.guard=none->pw o.op=some (T,s)->ka ops o s=true->∀t,(F t).uses s=false) :
  ∃r d av,Yl P TE N ops o F r d av/\K (eff r d av F):=by
 unfold m9 at h;cases f:NZ F o with
 | none=>
  grind [uw]
 | some p=>
  rw[f]at h;obtain⟨G,a,k,H,g,b⟩:=KY f;simp only at h;cases i:o.dst with
  | none=>grind
  | some d=>
   rw[i]at h;simp only at h;cases c:ka ops o p.2 with
   | false=>grind
   | true=>
    rw[c]at h;simp only[cond_true]at h;obtain⟨av,A,u,J,B⟩:=WN g b h;refine⟨some p.2,d,av,⟨i,A,u d,λe w=>(by rw[u e]at w;cases w),λs y=>?_,λC j l n D q=>?_⟩,?_⟩
    ·grind
    ·unfold m9
     rw[yU j,f];simp only;rw[i];simp only;rw[c];refine B C D ((j p.2 (dl a)).1.trans g) ?_;rw[U3 av ((j p.2 (dl a)).1.trans g) l (n p.2 rfl)];exact q
    grind [U3]
theorem Qf{nm:Bool}(h:Ra P TE N ops nm o K F)(b:∀d,o.dst=some d->∀t,(F t).uses d=false)(c:∀T s,o.guard=none->pw o.op=some (T,s)->ka ops o s=true->∀t,(F t).uses s=false) :
  ∃a d av,Yl P TE N ops o F a d av/\K (eff a d av F)/\(nm=true->a=none):=by
 unfold Ra at h
 grind [sf,uw]
end
section
variable{P:Program}{w0 w w1:World}{M S0 S:af}{N:fF}{φ:Nat->af}{F:Nat->AV}{a:Act}{TE:Nat->Option TI}{ops:Array Oper}
def A7(P:Program)(TE:Nat->Option TI)(N:fF)(ops:Array Oper)(m i:Nat)(K:(Nat->AV)->Prop)(F:Nat->AV):Prop:=
 match ops[i]? with
 | none=>K F
 | some o=>if i<m then m9 P TE N ops o K F else jD P TE N ops o K F
def LS(P:Program)(TE:Nat->Option TI)(N:fF)(ops:Array Oper)(m:Nat)(K:(Nat->AV)->Prop):Nat->Array Bool->(Nat->AV)->Prop
 | 0,listed,F=>Region.ready .any ops listed=[]/\K F
 | fuel+1,listed,F=>(Region.ready .any ops listed=[]->K F)/\∀i,i∈Region.ready .any ops listed->A7 P TE N ops m i (LS P TE N ops m K fuel (listed.setIfInBounds i true)) F
variable{Q:Exit->Act->World->Prop}{Kc:Act->World->Prop}{K:(Nat->AV)->Prop}{o:Oper}
theorem bj.oneP0(h:bj w0 M S0 N S φ F a w)(c:∀t i,TE t=some i->ix P t i)(b:iy P TE N ops o K F)(p:∀F' j e,K F'->St w0 M S0 N F' j e->Kc j e) :
  if Region.wanted o (yielded ops a.tmps) then o.wp P a w Kc Q else Kc (a.put o.dst undef) w:=by
 unfold iy at b;rcases BF h b with⟨f,b⟩|⟨f,b⟩
 ·rw[f,CJ rfl]
  cases g:o.dst with
  | none=>grind
  | some d=>
   rw[g]at b;obtain⟨av,k,l⟩:=h.pure_ c b;refine l Kc Q λv e q=>?_
   grind [bj.putD_new]
 rw[f,CI (by simp)];cases g:o.dst with
 | none=>grind
 | some d=>
  rw[g]at b;obtain⟨F',k,n⟩:=h.putD_new (v:=undef) (mR.same (av:=.Y (.tup []) []) T5) b
  grind
variable{d:Nat}
def QX{p:Option Nat × Nat}(f:NZ F o=some p)(c:o.dst=some d)(h:X5 TE N F d p.1 p.2 K):jD P TE N ops o K F:=by
 obtain⟨e,a,-⟩:=KY f;obtain⟨T,s⟩:=p;rcases NM a with⟨i,j,rfl,b,g⟩|⟨rfl,b⟩
 ·unfold jD gi
  rw[e];simp only;rw[b];simp only[D6];rw[c];simp only[jG,g];exact h
 unfold jD gi;rw[e];simp only;rw[b];simp only[D6];rw[c];simp only[jG];exact h
theorem bj.oneP(h:bj w0 M S0 N S φ F a w)(c:∀t i,TE t=some i->ix P t i)(b:m9 P TE N ops o K F)(g:∀F' j k,K F'->St w0 M S0 N F' j k->Kc j k) :
  if Region.wanted o (yielded ops a.tmps) then o.wp P a w Kc Q else Kc (a.put o.dst undef) w:=by
 unfold m9 at b;cases e:NZ F o with
 | none=>rw[e]at b;exact h.oneP0 c b g
 | some p=>
  rw[e]at b;simp only at b;cases l:o.dst with
  | none=>grind
  | some d=>
   rw[l]at b;simp only at b;cases f:ka ops o p.2 with
   | false=>grind
   | true=>
    rw[f]at b;have:=h.one c (QX (P:=P) (ops:=ops) e l b) (Q:=Q) g
    grind
variable{m i:Nat}
theorem LI(c:∀t i,TE t=some i->ix P t i)(b:A7 P TE N ops m i K F)(g:St w0 M S0 N F a w)(d:∀F' e f,K F'->St w0 M S0 N F' e f->Kc e f):wpOp P ops Q i Kc a w:=by
 unfold A7 at b;unfold wpOp;cases j:ops[i]? with
 | none=>grind
 | some o=>
  rw[j]at b;simp only at b |-;obtain⟨S,φ,h⟩:=g;have:if Region.wanted o (yielded ops a.tmps) then o.wp P a w Kc Q else Kc (a.put o.dst undef) w:=by
   split at b
   ·exact h.oneP c b d
   exact h.one c b d
  grind
def E0(b:∀t i,TE t=some i->ix P t i){m:Nat}{K:(Nat->AV)->Prop}{Q:Exit->Act->World->Prop}(g:∀F' d e,K F'->St w0 M S0 N F' d e->Q .normal d e) :
  ∀(fuel:Nat)(listed:Array Bool)(F:Nat->AV)(a:Act)(w:World),LS P TE N ops m K fuel listed F->St w0 M S0 N F a w->wpAny P .any ops Q fuel listed a w
 | 0,_,F,a,w,c,f=>⟨c.1,g F a w c.2 f⟩
 | fuel+1,_,F,a,w,c,f=>⟨λj=>g F a w (c.1 j) f,λi k=>LI b (c.2 i k) f λF' d e l h=>E0 b g fuel _ F' d e l h⟩
structure EO(ops:Array Oper)(m:Nat)(F:Nat->AV)(listed:Array Bool):Prop where
 dst:∀j o d,j<m->ops[j]? = some o->listed.getD j true=false->o.dst=some d->∀t,(F t).uses d=false
 mv:∀j o T s,j<m->ops[j]? = some o->listed.getD j true=false->o.guard=none->pw o.op=some (T,s)->ka ops o s=true->∀t,(F t).uses s=false
def DC(ops:Array Oper)(listed:Array Bool):Prop:=∀j a,ops[j]? = some a->listed.getD j false=true->∀k,dn a k=true->listed.getD k false=true
variable{e:Nat}
theorem Vr{v:AV}(h:(kl d v).uses e=true):v.uses e=true/\v.uses d=false:=by
 rw[EV]at h;cases a:v.uses d with
 | true=>rw[a]at h;cases h
 | false=>grind
theorem zF{α:Type}{p:α->Bool} : ∀{l:List α}{i j:Nat}{x y:α},(l.filter p).length<=1->l[i]? = some x->l[j]? = some y->p x=true->p y=true->i=j
 | [],_,_,_,_,_,h,_,_,_=>by simp at h
 | a::l,0,0,_,_,_,_,_,_,_=>rfl
 | a::l,i+1,j+1,x,y,h,b,c,d,e=>by
  rw[zF (l:=l) (S9 (List.Sublist.length_le ((List.sublist_cons_self a l).filter p)) h) b c d e]
 | a::l,0,j+1,x,y,h,b,c,d,e=>by
  simp only[List.getElem?_cons_zero,O1]at b;subst b;rw[List.filter_cons_of_pos d]at h;have:y∈l.filter p:=S8.2 ⟨I3 c,e⟩;have:=List.length_pos_of_mem this;rw[List.length_cons]at h;omega
 | a::l,i+1,0,x,y,h,b,c,d,e=>by
  simp only[List.getElem?_cons_zero,O1]at c;subst c;rw[List.filter_cons_of_pos e]at h;have:x∈l.filter p:=S8.2 ⟨I3 b,d⟩;have:=List.length_pos_of_mem this;rw[List.length_cons]at h;omega
variable{j:Nat}{listed:Array Bool}
theorem jt{a:Nat}(b:(listed.setIfInBounds j true).getD a true=false):a≠j:=λe=>by simp_all
variable{av:AV}{t:Nat}
theorem kT{a:Option Nat}(b:av.uses e=false)(c:(F t).uses e=false):(eff a d av F t).uses e=false:=by grind [U2,eff]
theorem EO.put{o:Option Nat}(h:EO ops m F listed)(p:∀a b g,a<m->a≠j->ops[a]? = some b->listed.getD a true=false->b.dst=some g->av.uses g=false)(q:∀a b T s,a<m->a≠j->ops[a]? = some b->listed.getD a true=false->b.guard=none->pw b.op=some (T,s)->ka ops b s=true->av.uses s=false) :
  EO ops m (eff o d av F) (listed.setIfInBounds j true):=by
 refine⟨λa b g i c e k t=>?_,λa b T s i c e r l n t=>?_⟩
 ·have f:=jt e
  rw[getD_set_ne true (Ne.symm f)]at e;exact kT ψ (h.dst a b g i c e k t)
 have f:=jt e;rw[getD_set_ne true (Ne.symm f)]at e;exact kT ψ (h.mv a b T s i c e r l n t)
inductive qg(ops:Array Oper):Nat->Nat->Prop
 |one {j i:Nat} (h:dn (dH ops j) i=true):qg ops j i
 |step {j k i:Nat} (h:dn (dH ops j) k=true) (h2:qg ops k i):qg ops j i
def qg.trans{k:Nat}(h:qg ops j k)(h2:qg ops k i):qg ops j i:=by
 induction h with
 | one h=>exact .step h h2
 | step h _ a=>exact .step h (a h2)
theorem Lu{i:Nat} : ∀{a:List Nat},(JM a).testBit i=true->i∈a
 | [],h=>by simp[JM]at h
 | k::a,h=>by
  rw[JM,Nat.testBit_or,IC]at h;rcases h with h|h
  ·grind
  exact OA _ (Lu h)
theorem Al(h:(JM (ons o)).testBit i=true):dn o i=true:=by
 have:=Lu h
 grind [cB,ons]
def vd{j:Nat} : ∀(k S:Nat),(∀i,S.testBit i=true->qg ops j i)->∀i,(clo ops k S).testBit i=true->qg ops j i
 | 0,_,h,i,a=>h i a
 | k+1,S,h,i,a=>by
  rw[clo,TR]at a;cases c:S.testBit k with
  | false=>rw[c]at a;exact vd k S h i a
  | true=>
   rw[c]at a;refine vd k _ (λe b=>?_) i a;rw[Nat.testBit_or,IC]at b;rcases b with d|d
   ·exact h e d
   exact(h k c).trans (.one (Al d))
theorem pW(d:DC ops listed)(b:∀j n,ops[j]? = some n->∀e∈n.after,Region.binds .any e=true->e.on<j)(o:qg ops j i):j<ops.size->(∀k,dn (dH ops j) k=true->listed.getD k false=true)->listed.getD i false=true:=by
 induction o with
 | one h=>grind
 | @step j k i h h2 ih=>
  intro f p;have r:k<j:=by
   have c:=(show ops[j]? = some ops[j] from OC f)
   rw[bI c]at h;obtain⟨e,g,l,rfl⟩:=cB.1 h;exact b j _ c e g l
  have a:k<ops.size:=ω
  have c:=(show ops[k]? = some ops[k] from OC a)
  exact ih a λq a=>d k _ c (p k h) q (by rw[bI c]at a;exact a)
theorem DC.put(h:DC ops listed)(d:j∈Region.ready .any ops listed):DC ops (listed.setIfInBounds j true):=by
 obtain⟨l,n,f,b⟩:=mem_ready.1 d;intro k ok g c e i;by_cases a:k=j
 ·grind [cB,Go.getD_set_true]
 rw[getD_set_ne false (Ne.symm a)]at c;exact getD_set_true (h k ok g c e i)
theorem gN{s:Nat}(h:ka ops o s=true):(∃k ok,dn o k=true/\ops[k]? = some ok/\ok.dst=some s)/\∀(i j:Nat)(a b:Oper),ops[i]? = some a->ops[j]? = some b->s∈a.looksAt ops->s∈b.looksAt ops->i=j:=by
 unfold ka at h;rw[I0]at h;obtain⟨q,c⟩:=h;constructor
 ·grind [bI,O3]
 intro i j a b d e f g;have l:=C2 c;have n:ops.toList[i]? = some a:=by simpa using d
 have p:ops.toList[j]? = some b:=by simpa using e
 grind [Nat.beq_refl,zF]
structure Xl(ops:Array Oper)(m:Nat):Prop where
 back:∀j oj,ops[j]? = some oj->∀e∈oj.after,Region.binds .any e=true->e.on<j
 tail:∀j,m<=j->j<ops.size->∀i,i<j->qg ops j i
 apart:∀i j oi oj,i<m->j<m->i≠j->ops[i]? = some oi->ops[j]? = some oj->dn oj i=true\/dn oi j=true\/oi.apart ops oj=true
 look:∀i j oi oj d,i<m->j<m->i≠j->ops[i]? = some oi->ops[j]? = some oj->oi.dst=some d->d∈oj.looksAt ops->dn oj i=true
theorem Jb(h:G0 ops m=true):Xl ops m:=by
 have o:∀j b,ops[j]? = some b->_:=λj b a=>ic h (O6.1 a).1
 refine⟨λj b a e t p=>?_,λj u a i f=>?_,λi j q b f a g r k=>?_,λi j q b d f a g r k w y=>?_⟩
 ·grind [bI,Nat.blt_eq]
 ·have l:=(show ops[j]? = some ops[j] from OC a)
  have:=o j _ l;simp only[I0]at this;have c:=this.2;rw[show Nat.blt j m=false by rw[<-SA,Nat.blt_eq];omega]at c;simp only[cond_false,TR]at c;exact vd j _ (λA n=>.one (Al n)) i (ic c f)
 ·grind [bI,Nat.blt_eq,ic,Nat.beq_eq]
 have:=o j b k;rw[bI k]at this;simp only[I0]at this;have c:=this.2;rw[show Nat.blt j m=true by simpa[Nat.blt_eq] using a]at c
 grind [ic,bI,Nat.beq_eq,xe]
theorem QT(V:Xl ops m){c:Oper}{u:Option Nat}(R:ops[i]? = some c)(w:i<m) :
  ∀(fuel:Nat)(listed:Array Bool)(F:Nat->AV),i∈Region.ready .any ops listed->EO ops m F listed->DC ops listed->Yl P TE N ops c F u d av->LS P TE N ops m K fuel (listed.setIfInBounds i true) (eff u d av F)->LS P TE N ops m K (fuel+1) listed F:=by
 have self:∀(listed:Array Bool)(F:Nat->AV),i∈Region.ready .any ops listed->EO ops m F listed->Yl P TE N ops c F u d av->∀S:(Nat->AV)->Prop,S (eff u d av F)->m9 P TE N ops c S F:=λlisted F W a g S hK=>by
  have b:=(mem_ready.1 W).1;refine g.at_ F (Cp _ _) (a.dst i c d w R b g.dst) (λs X=>?_) S hK;obtain⟨A,⟨T,h2⟩,h3⟩:=g.mvl s X;exact a.mv i c T s w R b A h2 h3
 intro fuel
 induction fuel with
 | zero=>
  intro listed F W a E g H;refine⟨ψ,λj Y=>?_⟩;by_cases n:j=i
  ·grind [A7]
  have:=ready_mono Y n;rw[H.1]at this;cases this
 | succ fuel ih=>
  intro listed F W a E g H;refine⟨ψ,λj Y=>?_⟩;by_cases n:j=i
  ·grind [A7]
  have A:=H.2 j (ready_mono Y n);obtain⟨B,f,o,hall⟩:=mem_ready.1 Y;have b:=(mem_ready.1 W).1;have unl:∀k,listed.getD k true=false->listed.getD k false=true->False:=ψ
  have noedge:∀k ok,ops[k]? = some ok->listed.getD k true=false->dn f k=false:=λk ok hk Z=>by grind [cB]
  have noedge':∀k ok,ops[k]? = some ok->listed.getD k true=false->dn c k=false:=λk ok hk Z=>by grind [cB,Go.mem_ready]
  have G:j<m:=by
   rcases Nat.lt_or_ge j m with h|h
   ·exact h
   have C:=(O6.1 o).1;refine(unl i b (pW E V.back (V.tail j h C i ω) C λk hk=>?_)).elim
   grind [bI,cB]
  have hap:c.apart ops f=true:=by grind [Xl.apart]
  obtain⟨ap1,ap2,ap3⟩:=Oper.apart_spec hap;unfold A7 at A |-;rw[o]at A |-;simp only[CJ G]at A |-;have hdl:d∉f.looksAt ops:=ap1 d g.dst;have cd:∀t,(F t).uses d=false:=a.dst i c d w R b g.dst
  have cdj':∀l,f.dst=some l->∀t,(F t).uses l=false:=λl J=>a.dst j f l G o B J
  have cmv:∀s,u=some s->(∀t,(F t).uses s=false)/\s∉f.looksAt ops/\s∈c.looksAt ops:=λs X=>by
   obtain⟨L,⟨T,q⟩,r⟩:=g.mvl s X;exact⟨a.mv i c T s w R b L q r,λhl=>n ((gN r).2 i j c f R o (dl q) hl).symm,dl q⟩
  have cmvj:∀T s,f.guard=none->pw f.op=some (T,s)->ka ops f s=true->(∀t,(F t).uses s=false)/\s∉c.looksAt ops/\s∈f.looksAt ops:=λT s L q r=>
   ⟨a.mv j f T s G o B L q r,λhl=>n ((gN r).2 i j c f R o hl (dl q)).symm,dl q⟩
  have avno:∀e,e∉c.looksAt ops->(∀t,(F t).uses e=false)->av.uses e=false:=λe A h2=>by
   cases hu:av.uses e with
   | false=>rfl
   | true=>
    rcases g.from_ e hu with h|⟨t,_,h⟩
    all_goals grind
  obtain⟨mvj,l,avj,p,hKj⟩:=sf A (λl J t=>kT ψ (cdj' l J t)) (λT s L q r t=>by grind [kT]);have hdne:d≠l:=λe=>ap2 d g.dst (by rw[p.dst,e])
  have hdjl:l∉c.looksAt ops:=ap3 l p.dst;have cdj:∀t,(F t).uses l=false:=cdj' l p.dst
  have cmj:∀s,mvj=some s->(∀t,(F t).uses s=false)/\s∉c.looksAt ops/\s∈f.looksAt ops:=λs X=>by
   obtain⟨L,⟨T,q⟩,r⟩:=p.mvl s X
   grind
  have lookj:∀t,t∈f.looksAt ops->eff u d av F t=F t:=λt U=>by grind [eff]
  have looki:∀t,t∈c.looksAt ops->eff mvj l avj F t=F t:=λt U=>by grind [eff]
  have avjno:∀e,e∉f.looksAt ops->(∀t,(F t).uses e=false)->avj.uses e=false:=λe A h2=>by
   cases hu:avj.uses e with
   | false=>rfl
   | true=>
    rcases p.from_ e hu with h|⟨t,U,h⟩
    all_goals grind
  have agrj:iL (eff u d av F) F (f.looksAt ops):=λt U=>by grind [eff]
  refine p.at_ F agrj cdj ψ _ (ih (listed.setIfInBounds j true) (eff mvj l avj F) (ready_mono W (Ne.symm n)) (a.put (λj' o' d' M D y O Q=>?_) (λj' o' T s M D y O L q r=>?_)) (E.put Y) ?_ ?_)
  ·refine avjno d' (λh=>?_) (a.dst j' o' d' M y O Q)
   grind [Xl.look]
  ·exact avjno s (λh=>D ((gN r).2 j' j o' f y o (dl q) h)) (a.mv j' o' T s M y O L q r)
  ·refine⟨g.dst,g.lt,g.self,λe he=>?_,g.mvl,λF' hA Q hs' S hK=>g.at_ F' (λt U=>?_) Q hs' S hK⟩
   ·rcases g.from_ e he with h|⟨t,U,h⟩
    all_goals grind
   obtain⟨a1,a2⟩:=hA t U
   grind [eff]
  rw[Array.setIfInBounds_comm _ _ n];have:eff u d av (eff mvj l avj F)=eff mvj l avj (eff u d av F):=by grind [eff]
  grind
theorem iE{o:Op}{K a:AV->Prop}(h:dq P TE F o K)(b:∀av,K av->a av):dq P TE F o a:=by
 obtain⟨av,c,-,d⟩:=kQ h
 grind [Cp]
theorem bq{a:(Nat->AV)->Prop}(h:bV N F d av K)(b:∀F',K F'->a F'):bV N F d av a:=by grind [bV]
variable{y:Operand}
theorem eQ{K b:(Nat->AV)->Option Nat->List C->Prop}(h:gX F y K)(g:∀F' ag cs,K F' ag cs->b F' ag cs):gX F y b:=by
 cases y with
 | tmp t=>
  simp only[gX]at h |-;cases d:F t with
  | Y k cs=>
   grind
  | c5 e f c ag=>
   rw[d]at h;cases c with
   | cons s c=>
    simp only at h |-;cases a:F e with
    | Y k cs=>
     rw[a]at h;obtain⟨r,j,i,l,n,o⟩:=Lq.out h;exact .mk_ ψ
    | _=>grind
   | nil=>
    grind
  | _=>grind
 | _=>exact h.elim
variable{x:Operand}
theorem Ez{K a:AV->Prop}(h:bN F x K)(b:∀av,K av->a av):bN F x a:=by
 obtain⟨av,c,-,d⟩:=kO h
 grind [Cp]
theorem JF{a:(Nat->AV)->Prop}(h:lM N F d x K)(j:∀F',K F'->a F'):lM N F d x a:=by
 have i:∀y,bN F y (λb=>bV N F d b K)->bN F y (λb=>bV N F d b a):=λy h=>Ez h λb h=>bq h j
 have k:∀y,gX F y (λF' c e=>bV N F' d (.Y (kZ c) e) K)->gX F y (λF' c e=>bV N F' d (.Y (kZ c) e) a):=λy h=>eQ h λF' c e h=>bq h j
 cases x with
 | tmp t=>
  grind [lM]
 | const v=>exact i (.const v) h
 | global g=>exact i (.global g) h
 | func f=>exact i (.func f) h
theorem Ri{a:(Nat->AV)->Prop}(h:H5 N F d x K)(b:∀F',K F'->a F'):H5 N F d x a:=by grind [bq,JF,H5,Pq]
variable{b:(Nat->AV)->Prop}
theorem Fu{cs:List C}(h:tc F x cs K)(d:∀F',K F'->b F'):tc F x cs b:=by
 cases x with
 | tmp t=>
  simp only[tc]at h |-;cases e:F t with
  | Y k f=>
   grind [d9]
  | ref g i c=>
   rw[e]at h;cases c with
   | cons s c=>
    simp only at h |-;cases a:F g with
    | Y k f=>
     rw[a]at h;obtain⟨r,j,l,n,o,p⟩:=Pu.out h;exact Pu.mk l n o rfl (d _ p)
    | _=>grind
   | nil=>
    grind [d9]
  | _=>grind
 | _=>exact h.elim
variable{T:Nat}
theorem Bk{a:(Nat->AV)->Prop}(h:nO TE F T x y K)(b:∀F',K F'->a F'):nO TE F T x y a:=by
 unfold nO at h |-;split at h
 all_goals grind [cD,Cp,Fu,eQ]
theorem M8{g:Option (Nat × Bool)}{K1 a K1' K0':(Nat->AV)->Prop}(h:gi F ops g K1 a)(h1:∀F,K1 F->K1' F)(b:∀F,a F->K0' F):gi F ops g K1' K0':=by
 unfold gi at h |-;split at h
 ·exact h1 _ h
 rename_i j want;split at h
 all_goals grind [Bf.out,Bf.in_]
theorem w9{K a:(Nat->AV)->Option Nat->List C->Prop}(h:x9 F x K)(c:∀F' ag cs,K F' ag cs->a F' ag cs):x9 F x a:=by
 obtain⟨ag,cs,d,b⟩:=cD h;refine b F (Cp _ _) _ ?_
 grind [eQ]
theorem kz{c:Nat->Option (Nat × Nat)} : ∀{parts:List (Nat × Operand)}{cs:List C}{K a:(Nat->AV)->List C->Prop}{F:Nat->AV},fillW c parts cs K F->(∀F' cs,K F' cs->a F' cs)->fillW c parts cs a F
 | [],cs,K,a,F,h,b=>b _ _ h
 | p::rest,cs,K,a,F,h,b=>by
  simp only[fillW]at h |-;split at h
  case h_2=>exact h.elim
  rename_i q e;refine w9 h λF' f xs h=>?_
  cases d:(Nat.beq xs.length q.2&&Nat.ble (q.1+q.2) cs.length) with
  | false=>grind
  | true=>
   rw[d]at h;simp only[cond_true,d9]at h |-;exact kz h b
variable{parts:List (Nat × Operand)}
theorem Lf{a:(Nat->AV)->Prop}(h:lQ TE N F d T parts K)(b:∀F',K F'->a F'):lQ TE N F d T parts a:=by grind [kz,bq,lQ]
theorem HE{n:Nat}{a:(Nat->AV)->Prop}(h:gK TE N F d T n parts K)(c:∀F',K F'->a F'):gK TE N F d T n parts a:=by
 obtain⟨e,f,h,b⟩:=gV h;refine b _ ?_
 grind [bq,d9,kz,rr]
theorem Kr{K a:Bool->(Nat->AV)->List (List C)->Prop}(h:Hs F y K)(c:∀b F' xr,K b F' xr->a b F' xr):Hs F y a:=by
 unfold Hs at h |-;split at h
 all_goals grind [eQ,cD,Cp]
theorem EC{K a:(Nat->AV)->List (List C)->Prop}(h:Ey F x K)(c:∀F' xr,K F' xr->a F' xr):Ey F x a:=by
 obtain⟨d,e,f,b⟩:=cD h;refine b F (Cp _ _) _ ?_
 grind [eQ]
theorem PZ{a:(Nat->AV)->Prop}(h:ET TE N F d T x y K)(f:∀F',K F'->a F'):ET TE N F d T x y a:=by
 obtain⟨e,p,h,g⟩:=gV h;refine g _ (Kr h λb F' q h=>EC h λF'' c h=>?_);obtain⟨i,j,k,l,n,o⟩:=h.out;exact Cb i j k l n rfl (bq o f)
theorem JZ{a:(Nat->AV)->Prop}(h:rF TE N F d T x K)(b:∀F',K F'->a F'):rF TE N F d T x a:=by
 unfold rF at h |-;split at h
 all_goals grind [eQ,bq]
theorem LW(h:jT N F d x K)(c:∀F',K F'->b F'):jT N F d x b:=by
 have std:∀{y:Operand},bN F y (λa=>bV N F d a K)->bN F y (λa=>bV N F d a b):=λh=>Ez h λa h=>bq h c
 cases x with
 | tmp t=>
  simp only[jT]at h |-
  grind [bq]
 | const v=>grind [jT]
 | global g=>grind [jT]
 | func f=>grind [jT]
theorem LH{a:(Nat->AV)->Prop}(h:xo N F d x K)(b:∀F',K F'->a F'):xo N F d x a:=by
 unfold xo at h |-;split at h
 case h_2=>exact h.elim
 split at h
 all_goals grind [Nt.out,Nt.mk,bq]
theorem K5{a:(Nat->AV)->Prop}(h:sw N F d x K)(b:∀F',K F'->a F'):sw N F d x a:=by
 unfold sw at h |-
 grind [bq]
variable{c:(Nat->AV)->Prop}
theorem RJ{b:Operand}(h:Kt TE N F d T x b K)(f:∀F',K F'->c F'):Kt TE N F d T x b c:=by
 unfold Kt at h |-;obtain⟨e,q,h,a⟩:=gV h;refine a _ ?_;obtain⟨n,g,i⟩:=kM h;refine i F (Cp _ _) _ (eQ g λF' r t h=>?_);split at h
 case h_2=>exact h.elim
 obtain⟨m,y,j,k,l,o,p,h⟩:=h.out;exact .mk_ ⟨m,y,j,k,l,o,p,_,rfl,bq h f⟩
theorem Ut{b:Operand}(h:HU TE N F d T x b K)(f:∀F',K F'->c F'):HU TE N F d T x b c:=by
 unfold HU at h |-;obtain⟨e,q,h,a⟩:=gV h;refine a _ ?_;obtain⟨n,g,i⟩:=kM h;refine i F (Cp _ _) _ (eQ g λF' r t h=>?_);split at h
 case h_2=>exact h.elim
 obtain⟨m,y,j,k,l,o,p,h⟩:=h.out;exact .mk_ ⟨m,y,j,k,l,o,p,_,rfl,bq h f⟩
theorem KE{b:Op}{f:(Nat->AV)->Prop}(h:jG P TE N d b K F)(a:∀F',K F'->f F'):jG P TE N d b f F:=by
 cases b with
 | assign x=>exact Ri h a
 | box T x=>grind [w9,bq,jG,TD]
 | build T j=>exact Lf h a
 | buildSlice T n j=>exact HE h a
 | range T x=>exact JZ h a
 | move x=>exact LW h a
 | next x str=>
  cases str with
  | true=>exact h.elim
  | false=>exact LH h a
 | entry x=>exact K5 h a
 | call c=>
  grind [iE,bq,PZ,jG]
 | slice T x g e i=>
  cases g with
  | some g=>
   cases e with
   | some _=>grind [iE,bq,jG]
   | none=>
    cases i with
    | some _=>grind [iE,bq,jG]
    | none=>grind [iE,bq,Ut,jG]
  | none=>
   cases e with
   | none=>grind [iE,bq,jG]
   | some e=>
    cases i with
    | some _=>grind [iE,bq,jG]
    | none=>
     grind [iE,bq,RJ,jG]
 | _=>grind [iE,bq,jG]
theorem fU{off n:Nat}{st:cN}{K a:(Nat->AV)->List C->Prop}(h:lendAt F t off st n K)(b:∀F' cs,K F' cs->a F' cs):lendAt F t off st n a:=by
 unfold lendAt at h |-;split at h
 case h_2=>exact h.elim
 split at h
 ·grind [d9]
 obtain⟨r,j,c,d,e,f⟩:=Lq.out h;refine .mk_ ?_
 grind
theorem cC:∀{xs:List (Operand × Nat)}{K a:(Nat->AV)->List (MA × tE)->Prop}{F:Nat->AV},lendP xs K F->(∀F' l,K F' l->a F' l)->lendP xs a F
 | [],K,a,F,h,b=>b _ _ h
 | (x,0)::xs,K,a,F,h,b=>cC (xs:=xs) h ψ
 | (x,1)::xs,K,a,F,h,b=>by
  simp only[lendP]at h |-;split at h
  case h_2=>exact h.elim
  split at h
  ·exact fU h λF' c h=>cC h ψ
  ·exact fU h λF' c h=>cC h ψ
  ·exact fU h λF' c h=>cC h ψ
  exact h.elim
 | (x,n+2)::xs,K,a,F,h,b=>by
  simp only[lendP]at h |-;split at h
  case h_2=>exact h.elim
  split at h
  ·split at h
   ·exact cC h ψ
   exact h.elim
  ·exact cC h ψ
  exact h.elim
theorem k7:∀{l:List (MA × tE)}{xs:List Operand}{K a:Bool->List MA->Prop},valsP F l xs K->(∀b A,K b A->a b A)->valsP F l xs a
 | [],[],K,a,h,c=>c _ _ h
 | (m,.no)::l,x::xs,K,a,h,c=>by
  obtain⟨f,g,d,e⟩:=cD h;refine e F (Cp _ _) _ (k7 d λb A h=>?_)
  grind
 | (m,.at_ t off st)::l,x::xs,K,a,h,c=>k7 (l:=l) (xs:=xs) h ψ
 | (m,.box t)::l,x::xs,K,a,h,c=>k7 (l:=l) (xs:=xs) h ψ
 | [],_::_,K,a,h,c=>h.elim
 | (m,.no)::l,[],K,a,h,c=>h.elim
 | (m,.at_ t off st)::l,[],K,a,h,c=>h.elim
 | (m,.box t)::l,[],K,a,h,c=>h.elim
theorem dD{K b:(Nat->AV)->Prop}(a:∀F',K F'->b F'):∀{l:List (MA × tE)}{B:List MA}{F:Nat->AV},iK l B K F->iK l B b F
 | [],[],F,h=>a _ h
 | [],_::_,F,h=>h.elim
 | (m,.no)::l,[],F,h=>h.elim
 | (m,.at_ t off st)::l,[],F,h=>h.elim
 | (m,.box t)::l,[],F,h=>h.elim
 | (m,.no)::l,.val _ _::B,F,h=>dD a (l:=l) (B:=B) h
 | (m,.no)::l,.mut _ _::B,F,h=>dD a (l:=l) (B:=B) h
 | (m,.no)::l,.ptr _::B,F,h=>dD a (l:=l) (B:=B) h
 | (m,.at_ t off st)::l,.val _ _::B,F,h=>h.elim
 | (m,.at_ t off st)::l,.ptr _::B,F,h=>h.elim
 | (m,.box t)::l,.val _ _::B,F,h=>h.elim
 | (m,.box t)::l,.mut _ _::B,F,h=>h.elim
 | (m,.at_ t off st)::l,.mut ag out::B,F,h=>by
  simp only[iK]at h |-;split at h
  case h_2=>exact h.elim
  split at h
  ·rename_i k c _ _
   cases d:Nat.ble (off+out.length) c.length with
   | false=>grind
   | true=>
    rw[d]at h;simp only[cond_true,d9]at h |-;exact dD a h
  obtain⟨r,j,e,f,g,i⟩:=Pu.out h;exact Pu.mk e f g rfl (dD a i)
 | (m,.box t)::l,.ptr out::B,F,h=>by
  simp only[iK]at h |-;split at h
  ·exact dD a h
  exact h.elim
variable{modes:List Nat}{args:List Operand}{f:Nat}
theorem M9{d:Option Nat}{a:(Nat->AV)->Prop}(h:mB P N F d f args modes K)(j:∀F',K F'->a F'):mB P N F d f args modes a:=by
 unfold mB at h |-;refine cC h λF' l h=>?_
 cases c:(xA l&&Nat.beq args.length modes.length) with
 | false=>grind
 | true=>
  rw[c]at h;refine k7 h λb A h=>?_
  obtain⟨n,B,k,rcs,e,g,i⟩:=cy.out h;refine CN e g (dD (λF'' h=>?_) i)
  grind [bq]
theorem md{F:Nat->AV}{K a:Nat->Nat->Prop}(h:D8 F x K)(b:∀t o,K t o->a t o):D8 F x a:=by grind [vK,D8]
theorem PQ{d:Option Nat}{cs:List C}{c a b:Nat}{f:(Nat->AV)->Prop}{k:Kd}{rcs:List C}{B:List MA}(h:BB N F d t cs c a e b K k rcs B)(l:∀F',K F'->f F'):BB N F d t cs c a e b f k rcs B:=by
 unfold BB at h |-;split at h
 case h_2=>exact h.elim
 rename_i g i;cases j:(Nat.beq g.length a&&Nat.beq i.length b) with
 | false=>grind
 | true=>
  rw[j]at h;simp only[cond_true,d9]at h |-
  grind [bq]
theorem M2{d:Option Nat}{a b:Nat}(h:lF P N F d f args a b K)(e:∀F',K F'->c F'):lF P N F d f args a b c:=by
 unfold lF at h |-;split at h
 case h_2=>exact h.elim
 refine md h λt g h=>md h λi j h=>?_
 split at h
 all_goals grind [d9,cy.out,CN,PQ]
theorem t7{d:Option Nat}{a:(Nat->AV)->Prop}(h:l9 P N F d f args modes K)(b:∀F',K F'->a F'):l9 P N F d f args modes a:=by grind [M2,M9,l9]
theorem JO{off:Nat}{z:Int}{v:Value}{a:(Nat->AV)->Prop}(h:putMap F t off z v K)(f:∀F',K F'->a F'):putMap F t off z v a:=by
 unfold putMap at h |-;cases b:F t with
 | Y k d=>
  rw[b]at h;simp only at h |-;cases e:d[off]? with
  | none=>grind
  | some c=>
   rw[e]at h;cases c with
   | m g=>
    simp only at h |-;have:=h.out;refine Mu.mk rfl ?_
    grind [d9]
   | _=>exact h.elim
 | _=>grind
theorem yq{v:Operand}(h:pZ TE F T x y v K)(f:∀F',K F'->b F'):pZ TE F T x y v b:=by
 unfold pZ at h |-;split at h
 case h_2=>exact h.elim
 obtain⟨z,c,d⟩:=iI h;refine d F (Cp F _) _ ?_;obtain⟨g,a,e⟩:=iI c;refine e F (Cp F _) _ ?_;split at a
 case h_2=>exact a.elim
 split at a
 all_goals grind [JO]
theorem kX{a:(Nat->AV)->Prop}(h:jD P TE N ops o K F)(c:∀F',K F'->a F'):jD P TE N ops o a F:=by
 unfold jD at h |-;refine M8 h (λF h=>?_) (λF h=>?_)
 ·split at h
  ·rename_i p _
   have lt:vh P N F o.dst p.1 p.2.1 p.2.2 K->vh P N F o.dst p.1 p.2.1 p.2.2 a:=λh=>t7 h λF' h=>by grind [pJ]
   cases b:R7 N o.op with
   | false=>grind
   | true=>
    rw[b]at h;rcases h with h|h
    ·refine .pl ?_
     grind [Bk,yq,KE,lB]
    exact .lt (lt h)
  grind [Bk,yq,KE]
 grind [bq]
theorem Hx{m:Nat}(a:Xl ops m){K:(Nat->AV)->Prop}(hm:m<=ops.size):∀(l:List Oper)(k:Nat)(listed:Array Bool)(F:Nat->AV),(∀j,l[j]? = ops[k+j]?)->listed.size=ops.size->(∀j,j<ops.size->listed.getD j true=decide (j<k))->EO ops m F listed->DC ops listed->
  Tu P TE N ops (m - k) l K F->LS P TE N ops m K l.length listed F
 | [],k,listed,F,C,L,b,_,_,i=>by
  have D:ops.size<=k:=by
   rcases Nat.lt_or_ge k ops.size with h|h
   ·have:=C 0;simp[h]at this
   exact h
  refine⟨?_,?_⟩
  ·apply List.eq_nil_iff_forall_not_mem.2
   grind [Go.mem_ready]
  cases M:m - k with
  | zero=>rw[M]at i;exact i
  | succ x=>omega
 | o::l,k,listed,F,C,L,b,c,n,i=>by
  have w:ops[k]? = some o:=by simpa using (C 0).symm
  have D:=(O6.1 w).1;have hready:k∈Region.ready .any ops listed:=mem_ready.2 ⟨by rw[b k D];simp,o,w,λe he hb=>by grind [Xl.back]⟩;have A:∀j,l[j]? = ops[k+1+j]?:=λj=>by have:=C (j+1);grind
  have r:∀j,j<ops.size->(listed.setIfInBounds k true).getD j true=decide (j<k+1):=λj O=>by
   by_cases y:j=k
   ·simp_all
   rw[getD_set_ne true (Ne.symm y),b j O]
   grind
  show LS P TE N ops m K (l.length+1) listed F;by_cases f:k<m
  ·have e1:m - k=(m - (k+1))+1:=ω
   rw[e1]at i;obtain⟨mv,d,av,Q,i⟩:=sf (show m9 P TE N ops o (Tu P TE N ops (m - (k+1)) l K) F from i) (λd hd=>c.dst k o d f w (by rw[b k D];simp) hd) (λT s R S U=>c.mv k o T s f w (by rw[b k D];simp) R S U);refine QT a w f l.length listed F hready c n Q (Hx a hm l (k+1) _ _ A (by simpa using L) r (c.put (λE G H p u q hl'' B=>?_) (λE G T s p u q hl'' R S U=>?_)) (n.put hready) i)
   ·cases V:av.uses H with
    | false=>rfl
    | true=>
     rcases Q.from_ H V with h|⟨t,_,h⟩
     ·have:=a.look E k G o H p f u q w B h
      grind [cB,Xl.back]
     rw[c.dst E G H p q hl'' B t]at h;cases h
   cases V:av.uses s with
   | false=>rfl
   | true=>
    rcases Q.from_ s V with h|⟨t,_,h⟩
    ·grind [gN,dl]
    rw[c.mv E G T s p q hl'' R S U t]at h;cases h
  refine⟨ψ,λj O=>?_⟩;have y:j=k:=by
   obtain⟨h1,oj,W,hall⟩:=mem_ready.1 O;have g:=(O6.1 W).1;rw[b j g]at h1;simp at h1;rcases Nat.lt_or_ge k j with X|hge
   ·exfalso
    have h2:=pW n a.back (a.tail j ω g k X) g λk' hk'=>by grind [bI,cB]
    grind
   omega
  subst y;unfold A7;rw[w];simp only[CI f];have e0:m - j=0:=ω
  rw[e0]at i;have hp':jD P TE N ops o (PS P TE N ops l K) F:=i;have Y:∀J,PS P TE N ops l K J->LS P TE N ops m K l.length (listed.setIfInBounds j true) J:=λJ Z=>
   Hx a hm l (j+1) _ J A (by simpa using L) r ⟨ψ,ψ⟩ (n.put hready) (by rw[show m - (j+1)=0 by omega];cases l<;>exact Z)
  grind [kX]
theorem St.clr(h:St w0 M S0 N F a w)(ds:List Nat):St w0 M S0 N (Ab.clr ds F) a w:=by
 obtain⟨S,φ,h⟩:=h;refine⟨S,φ,λt=>?_,h.dis,h.disS,h.ex,h.sub,h.sup,h.old,h.size,h.defers,h.par⟩;rw[FL];cases b:ds.any (λd=>(F t).uses d) with
 | true=>trivial
 | false=>
  simp only[cond_false];refine(h.slot t).keep (φ:=φ) (λt _ _ _=>h.slot t) (λc _=>⟨λk e f=>?_,rfl,λ_ _ _=>⟨rfl,rfl⟩⟩) (λ_ _ _=>⟨rfl,rfl⟩) (λ_ _ _=>⟨rfl,rfl⟩) (λ_ _ h=>h) (λ_ _ h=>h)
  grind [FL,AV.uses]
theorem GC(g:∀t i,TE t=some i->ix P t i)(E:P.follows .mixedOrders=true){id:Nat}{ds:List Nat}(b:((Nat.ble m ops.size&&below m λj=>match(dH ops j).dst with|some d=>ds.any (Nat.beq d)|none=>true)&&G0 ops m)=true)(G:Tu P TE N ops m ops.toList K (Ab.clr ds F))(H:St w0 M S0 N F a w)(J:∀F' u y,K F'->St w0 M S0 N F' u y->Q .normal u y):(Code.region id ops true).wp P Q a w:=by
 simp only[I0]at b;obtain⟨⟨A,L⟩,b⟩:=b;have c:m<=ops.size:=by simp_all
 refine wp_region_any E ?_;have l:St w0 M S0 N (Ab.clr ds F) a {w with drawn:=w.drawn+1}:=by
  have O:=H.clr ds;obtain⟨S,φ,h⟩:=O;exact⟨S,φ,h.more (w1:={w with drawn:=w.drawn+1}) (λ_ _ h=>h) ψ ⟨rfl,rfl,rfl,O5 _,λ_ _ _=>rfl,λ_ _ _ _=>rfl,λ_ _ _ _=>rfl⟩⟩
 refine E0 g (m:=m) J ops.size (Array.replicate ops.size false) _ a _ ?_ l;have R:∀d,ds.any (Nat.beq d)=true->∀t,(Ab.clr ds F t).uses d=false:=λd U t=>by
  rw[FL];cases Z:ds.any (λd=>(F t).uses d) with
  | true=>rfl
  | false=>
   simp_all
 have B:∀j o d,j<m->ops[j]? = some o->o.dst=some d->ds.any (Nat.beq d)=true:=λj o d f C U=>by grind [ic,bI]
 have D:=Jb b;have:=Hx (P:=P) (TE:=TE) (N:=N) D (K:=K) c ops.toList 0 (Array.replicate ops.size false) (Ab.clr ds F) (by simp) (by simp) (λj f=>by simp[f]) ⟨ψ,λj o T s f C _ _ _ V t=>by
   obtain⟨k,ok,n,W,X⟩:=(gN V).1;obtain⟨e,p,q,rfl⟩:=cB.1 n;have:=D.back j o C e p q
   grind⟩ (λj oj f Y=>by
   have r:=(O6.1 f).1;simp[r]at Y) G
 simpa using this
end
section
variable{P:Program}{w0 w w1:World}{M S0 S:af}{N:fF}{φ:Nat->af}{F:Nat->AV}{a:Act}{TE:Nat->Option TI}{ops:Array Oper}{ds:List Nat}{nm:Nat->Bool}
def W3(P:Program)(TE:Nat->Option TI)(ops:Array Oper)(p:Nat)(F:Nat->AV):Prop:=∃d,(dH ops p).dst=some d/\NZ F (dH ops p)=none/\dq P TE F (dH ops p).op λa=>a=F d
def xN(P:Program)(TE:Nat->Option TI)(N:fF)(ops:Array Oper)(ds:List Nat)(listed:Array Bool)(i:Nat)(K:(Nat->AV)->Prop)(F:Nat->AV):Prop:=
 match ops[i]? with
 | none=>K F
 | some o=>if sB ds o=true then m9 P TE N ops o K F else jD P TE N ops o (λa=>(∀p,listed.getD p false=true->sB ds (dH ops p)=true->yA ops i p=false->W3 P TE ops p a)/\K a) F
def Ku(P:Program)(TE:Nat->Option TI)(N:fF)(ops:Array Oper)(ds:List Nat)(K:(Nat->AV)->Prop):Nat->Array Bool->(Nat->AV)->Prop
 | 0,listed,F=>Region.ready .any ops listed=[]/\K F
 | fuel+1,listed,F=>(Region.ready .any ops listed=[]->K F)/\∀i,i∈Region.ready .any ops listed->xN P TE N ops ds listed i (Ku P TE N ops ds K fuel (listed.setIfInBounds i true)) F
variable{Q:Exit->Act->World->Prop}{K:(Nat->AV)->Prop}{i:Nat}{listed:Array Bool}
theorem Kw(c:∀t i,TE t=some i->ix P t i)(b:xN P TE N ops ds listed i K F)(g:St w0 M S0 N F a w){Kc:Act->World->Prop}(d:∀F' e f,K F'->St w0 M S0 N F' e f->Kc e f):wpOp P ops Q i Kc a w:=by
 unfold xN at b;unfold wpOp;cases j:ops[i]? with
 | none=>grind
 | some o=>
  rw[j]at b;simp only at b |-;obtain⟨S,φ,h⟩:=g;have:if Region.wanted o (yielded ops a.tmps) then o.wp P a w Kc Q else Kc (a.put o.dst undef) w:=by
   split at b
   ·exact h.oneP c b d
   exact h.one c (kX b λF' h=>h.2) d
  grind
def tV(b:∀t i,TE t=some i->ix P t i){K:(Nat->AV)->Prop}{Q:Exit->Act->World->Prop}(g:∀F' d e,K F'->St w0 M S0 N F' d e->Q .normal d e) :
  ∀(fuel:Nat)(listed:Array Bool)(F:Nat->AV)(a:Act)(w:World),Ku P TE N ops ds K fuel listed F->St w0 M S0 N F a w->wpAny P .any ops Q fuel listed a w
 | 0,_,F,a,w,c,f=>⟨c.1,g F a w c.2 f⟩
 | fuel+1,_,F,a,w,c,f=>⟨λj=>g F a w (c.1 j) f,λi k=>Kw b (c.2 i k) f λF' d e l h=>tV b g fuel _ F' d e l h⟩
def cg(ts:List Nat)(F F1:Nat->AV):Prop:=∀t e,(F1 t).uses e=true->e∈ts\/∃a,(F a).uses e=true
theorem cg.refl(ts:List Nat)(F:Nat->AV):cg ts F F:=λt _ h=>.inr ⟨t,h⟩
variable{F1:Nat->AV}{ts:List Nat}
theorem cg.trans{F a:Nat->AV}(h1:cg ts F F1)(h2:cg ts F1 a):cg ts F a:=λt e h=>by
 rcases h2 t e h with h|⟨b,h⟩
 ·exact .inl h
 exact h1 b e h
variable{d:Nat}
theorem cg.clean(h:cg ts F F1)(b:d∉ts)(c:∀t,(F t).uses d=false):∀t,(F1 t).uses d=false:=λt=>by
 cases a:(F1 t).uses d with
 | false=>rfl
 | true=>
  rcases h t d a with h|⟨e,h⟩
  all_goals grind
theorem cg.put{ts:List Nat}{dj:Nat}{av:AV}(h:∀e,av.uses e=true->e∈ts\/∃b,(F b).uses e=true):cg ts F (put F dj av):=λt e a=>by
 by_cases c:t=dj
 ·grind [qK]
 rw[jr _ _ c]at a;exact .inr ⟨t,(Vr a).1⟩
variable{v:AV}{t e:Nat}
theorem RI(h:(wc t v).uses e=true):v.uses e=true:=by
 cases v with
 | c5 a b d f=>simp only[wc]at h;cases c:Nat.beq a t<;>rw[c]at h<;>first|exact h|cases h
 | ref a b d=>cases d<;>simp only[wc]at h<;>first|exact h|(cases c:Nat.beq a t<;>rw[c]at h<;>first|exact h|cases h)
 | _=>exact h
theorem cg.updH{ts:List Nat}{t:Nat}{k:Kd}{cs:List C} : cg ts F (updH F t k cs):=λs e a=>by
 unfold Ab.updH at a;cases b:Nat.beq s t with
 | true=>rw[b]at a;cases a
 | false=>grind [RI]
theorem TJ(h:(U7 t v).uses e=true):v.uses e=true:=by
 cases v with
 | c5 a b d f=>simp only[U7]at h;cases c:Nat.beq a t<;>rw[c]at h<;>first|exact h|cases h
 | ref a b d=>simp only[U7]at h;cases c:Nat.beq a t<;>rw[c]at h<;>first|exact h|cases h
 | _=>exact h
theorem cg.kill{ts:List Nat}{t:Nat} : cg ts F (kill F t):=λs e a=>by
 unfold Ab.kill at a;cases b:Nat.beq s t with
 | true=>rw[b]at a;cases a
 | false=>grind [TJ]
variable{av:AV}
theorem cv(h:t≠d):eff none d av F t=F t:=by grind [eff]
theorem nJ{a:Option Nat} : eff a d av F d=av:=by grind [eff]
theorem TN : eff none d (F d) F=F:=by grind [nJ,cv]
theorem mu(a:d∉ts)(b:∀t,(F t).uses d=false):iL (eff none d av F) F ts:=λt c=>by grind [cv]
variable{dj:Nat}
theorem WF(a:dj≠d):put (eff none d v F) dj av=eff none d (kl dj v) (put F dj av):=by grind [qK,cv,jr,nJ]
variable{b:Kd}
theorem pI{a:List C}(c:t≠d):updH (eff none d v F) t b a=eff none d (wc t v) (updH F t b a):=by grind [nJ,Nat.beq_eq,cv,updH]
theorem AO{a:List C}(c:t≠d):updH F t b a d=wc t (F d):=by grind [Nat.beq_eq,updH]
theorem Ph{a:List C}(c:t≠d):updN (eff none d v F) t b a=eff none d (U6 t v) (updN F t b a):=by grind [nJ,Nat.beq_eq,cv,updN]
theorem Js{a:List C}(c:t≠d):updN F t b a d=U6 t (F d):=by grind [Nat.beq_eq,updN]
theorem TH(h:(U6 t v).uses e=true):v.uses e=true:=by
 cases v with
 | c5 b c a f=>
  cases a with
  | nil=>exact h
  | cons s a=>simp only[U6]at h;cases d:Nat.beq b t<;>rw[d]at h<;>first|exact h|cases h
 | ref b c a=>
  cases a with
  | nil=>exact h
  | cons s a=>simp only[U6]at h;cases d:Nat.beq b t<;>rw[d]at h<;>first|exact h|cases h
 | _=>exact h
theorem cg.updN{ts:List Nat}{t:Nat}{k:Kd}{cs:List C} : cg ts F (updN F t k cs):=λs e a=>by
 unfold Ab.updN at a;cases b:Nat.beq s t with
 | true=>rw[b]at a;cases a
 | false=>grind [TH]
def Fq(d:Nat)(ts:List Nat)(v:AV)(F:Nat->AV)(K:(Nat->AV)->Prop)(F1:Nat->AV):Prop:=∃a,(v=F d->a=F1 d)/\K (eff none d a F1)/\cg ts F F1
def Ym(d:Nat)(ts:List Nat)(v:AV)(F:Nat->AV)(K:(Nat->AV)->Option Nat->List C->Prop)(F1:Nat->AV)(ag:Option Nat)(cs:List C):Prop:=∃a,(v=F d->a=F1 d)/\K (eff none d a F1) ag cs/\cg ts F F1
def Fq.trans{v1:AV}{a:Nat->AV}(h1:v=F d->v1=F1 d)(b:cg ts F F1)(h:Fq d ts v1 F1 K a):Fq d ts v F K a:=by
 obtain⟨c,f,g,i⟩:=h;exact⟨c,λe=>f (h1 e),g,b.trans i⟩
theorem gZ(h:bV N (eff none d v F) dj av K)(a:dj≠d)(b:∀e,av.uses e=true->e∈ts\/∃c,(F c).uses e=true):bV N F dj av (Fq d ts v F K):=by
 unfold bV at h |-;cases f:(N.free dj&&!av.uses dj) with
 | false=>grind
 | true=>
  rw[f]at h;simp only[cond_true]at h |-;rw[WF a]at h;exact⟨kl dj v,λe=>by grind [jr],h,cg.put b⟩
variable{cs:List C}{k:Kd}
def ja : ∀e,(AV.Y k cs).uses e=true->e∈ts\/∃a,(F a).uses e=true:=λe h=>by cases h
theorem FR{p:(Nat->AV)->(AV->Prop)->Prop}{ts0:List Nat}(h:pM p (eff none d v F) ts0 λav=>bV N (eff none d v F) dj av K)(a:dj≠d)(j:∀t,t∈ts0->t∈ts)(k:d∉ts)(b:∀t,(F t).uses d=false) :
  p F λav=>bV N F dj av (Fq d ts v F K):=by
 obtain⟨av,c,f,g⟩:=h;refine g F (mu ψ b) _ (gZ c a λe i=>?_);rcases f e i with h|⟨t,l,h⟩
 all_goals grind [cv]
variable{y:Operand}
theorem oW{K:(Nat->AV)->Option Nat->List C->Prop}(h:gX (eff none d v F) y K)(n:d∉tm y)(o:∀t,(F t).uses d=false):gX F y (Ym d ts v F K):=by
 have fin:∀{t:Nat}{k:Kd}{b:List C}{a:Option Nat}{xs:List C},t≠d->K (updH (eff none d v F) t k b) a xs->Ym d ts v F K (updH F t k b) a xs:=fun {t k b a xs} c h=>by
  rw[pI c]at h;exact⟨_,λe=>by rw[AO c,e],h,cg.updH⟩
 have DY:∀{t:Nat}{k:Kd}{b:List C}{a:Option Nat}{xs:List C},t≠d->K (updN (eff none d v F) t k b) a xs->Ym d ts v F K (updN F t k b) a xs:=fun {t k b a xs} c h=>by
  rw[Ph c]at h;exact⟨_,λe=>by rw[Js c,e],h,cg.updN⟩
 cases y with
 | tmp t=>
  have c:t≠d:=λe=>n (by simp[tm,e])
  simp only[gX]at h |-;rw[cv c]at h;cases g:F t with
  | Y p q=>
   grind
  | c5 i u l a=>
   rw[g]at h;have w:i≠d:=λe=>by have:=o t;rw[g,e]at this;simp[AV.uses]at this
   cases l with
   | cons s l=>
    simp only at h |-;rw[cv w]at h;cases f:F i with
    | Y p q=>
     rw[f]at h;obtain⟨r,j,A,B,D,E⟩:=Lq.out h;exact .mk_ ψ
    | _=>grind
   | nil=>
    grind [cv]
  | _=>grind
 | _=>exact h.elim
theorem Vk{K:(Nat->AV)->Option Nat->List C->Prop}(h:x9 (eff none d v F) y K)(b:d∉tm y)(c:∀t,(F t).uses d=false):x9 F y (Ym d ts v F K):=by
 obtain⟨i,xs,a,f⟩:=cD h;refine f F (mu b c) _ ?_;cases g:br xs with
 | true=>rw[g]at a;exact⟨v,λe=>e,a,cg.refl _ _⟩
 | false=>grind [oW]
def Zg(d:Nat)(ts:List Nat)(v:AV)(F:Nat->AV)(K:(Nat->AV)->List C->Prop)(F1:Nat->AV)(cs:List C):Prop:=∃a,(v=F d->a=F1 d)/\K (eff none d a F1) cs/\cg ts F F1
theorem Bo{d:Nat}{ts:List Nat}{c:Nat->Option (Nat × Nat)}(a:d∉ts):∀{parts:List (Nat × Operand)}{cs:List C}{K:(Nat->AV)->List C->Prop}{F:Nat->AV}{v:AV},fillW c parts cs K (eff none d v F)->(∀p,p∈parts->d∉tm p.2)->(∀t,(F t).uses d=false)->
  fillW c parts cs (Zg d ts v F K) F
 | [],cs,K,F,v,h,_,b=>⟨v,λe=>e,h,cg.refl _ _⟩
 | p::rest,cs,K,F,v,h,r,b=>by
  simp only[fillW]at h |-;split at h
  case h_2=>exact h.elim
  rename_i q u;refine w9 (Vk (ts:=ts) h ψ b) λw y xs h=>?_
  obtain⟨A,g,h,f⟩:=h;cases i:(Nat.beq xs.length q.2&&Nat.ble (q.1+q.2) cs.length) with
  | false=>grind
  | true=>
   rw[i]at h;simp only[cond_true,d9]at h |-;refine kz (Bo a h ψ (f.clean a b)) λB cs2 j=>?_
   obtain⟨k,l,n,o⟩:=j;exact⟨k,λe=>l (g e),n,f.trans o⟩
variable{parts:List (Nat × Operand)}{T:Nat}
theorem Q2(h:lQ TE N (eff none d v F) dj T parts K)(a:dj≠d)(b:d∉ts)(c:∀p,p∈parts->d∉tm p.2)(e:∀t,(F t).uses d=false) :
  lQ TE N F dj T parts (Fq d ts v F K):=by
 unfold lQ at h |-;split at h
 case h_2=>exact h.elim
 rename_i size bytes zero flds k;cases f:HF TE flds with
 | false=>grind
 | true=>
  rw[f]at h;refine kz (Bo b h c e) λl n h=>?_
  obtain⟨o,g,h,i⟩:=h;exact bq (gZ (ts:=ts) h a ja) λq j=>Fq.trans g i j
variable{n:Nat}
theorem LL(h:gK TE N (eff none d v F) dj T n parts K)(a:dj≠d)(c:d∉ts)(f:∀p,p∈parts->d∉tm p.2)(g:∀t,(F t).uses d=false) :
  gK TE N F dj T n parts (Fq d ts v F K):=by
 unfold gK at h |-;obtain⟨e,i,h,b⟩:=gV h;refine b _ ?_;cases j:Nat.ble (n*i.size) 16777216 with
 | false=>grind
 | true=>
  rw[j]at h;simp only[cond_true]at h |-;cases n with
  | zero=>
   cases parts with
   | nil=>exact gZ h a ja
   | cons=>exact h.elim
  | succ n=>
   simp only[d9]at h |-;refine kz (Bo c h f g) λq r h=>?_
   obtain⟨u,k,h,l⟩:=h;rw[rr]at h |-;exact bq (gZ (ts:=ts) h a ja) λw o=>Fq.trans k l o
theorem Tc(h:jT N (eff none d v F) dj (.tmp t) K)(a:dj≠d)(c:d∉ts)(l:t∈ts)(g:∀t,(F t).uses d=false):jT N F dj (.tmp t) (Fq d ts v F K):=by
 have b:t≠d:=ψ
 have std:bN (eff none d v F) (.tmp t) (λf=>bV N (eff none d v F) dj f K)->bN F (.tmp t) (λf=>bV N F dj f (Fq d ts v F K)):=λh=>
  FR (p:=λF K=>bN F (.tmp t) K) (kO h) a (λn o=>by grind [tm]) c g
 simp only[jT]at h |-;rw[cv b]at h;split at h
 ·rename_i i xs q
  cases j:br xs with
  | true=>grind [gZ]
  | false=>
   rw[j]at h;simp only[cond_false]at h |-;rw[pI b]at h;exact bq (gZ (ts:=ts) h a ja) λr k=>Fq.trans (F1:=updH F t (.tup i) _) (λe=>by grind [AO]) cg.updH k
 all_goals exact std h
variable{x:Operand}
theorem WQ{b:Operand}(h:Kt TE N (eff none d v F) dj T x b K)(c:dj≠d)(f:d∉tm x)(g:d∉tm b)(j:∀t,(F t).uses d=false):Kt TE N F dj T x b (Fq d ts v F K):=by
 unfold Kt at h |-;obtain⟨e,A,h,a⟩:=gV h;refine a _ ?_;obtain⟨n,k,i⟩:=kM h;refine i F (mu g j) _ ?_;refine eQ (oW (ts:=ts) k f j) λB C D h=>?_
 obtain⟨E,l,h,o⟩:=h;split at h
 case h_2=>exact h.elim
 obtain⟨m,y,p,q,r,u,w,h⟩:=h.out;exact .mk_ ⟨m,y,p,q,r,u,w,_,rfl,bq (gZ (ts:=ts) h c ja) λG i=>Fq.trans l o i⟩
theorem WZ{b:Operand}(h:HU TE N (eff none d v F) dj T x b K)(c:dj≠d)(f:d∉tm x)(g:d∉tm b)(j:∀t,(F t).uses d=false):HU TE N F dj T x b (Fq d ts v F K):=by
 unfold HU at h |-;obtain⟨e,A,h,a⟩:=gV h;refine a _ ?_;obtain⟨n,k,i⟩:=kM h;refine i F (mu g j) _ ?_;refine eQ (oW (ts:=ts) k f j) λB C D h=>?_
 obtain⟨E,l,h,o⟩:=h;split at h
 case h_2=>exact h.elim
 obtain⟨m,y,p,q,r,u,w,h⟩:=h.out;exact .mk_ ⟨m,y,p,q,r,u,w,_,rfl,bq (gZ (ts:=ts) h c ja) λG i=>Fq.trans l o i⟩
theorem QQ(h:lM N (eff none d v F) dj x K)(a:dj≠d)(j:d∉ts)(k:∀t,t∈tm x->t∈ts)(o:∀t,(F t).uses d=false):lM N F dj x (Fq d ts v F K):=by
 have l:∀y,(∀t,t∈tm y->t∈ts)->bN (eff none d v F) y (λn=>bV N (eff none d v F) dj n K)->bN F y (λn=>bV N F dj n (Fq d ts v F K)):=λy q h=>FR (p:=λF K=>bN F y K) (kO h) a q j o
 have A:∀y,(∀t,t∈tm y->t∈ts)->gX (eff none d v F) y (λb e i=>bV N b dj (.Y (kZ e) i) K)->gX F y (λb e i=>bV N b dj (.Y (kZ e) i) (Fq d ts v F K)):=λy q h=>
  eQ (oW (ts:=ts) h ψ o) λb e i h=>by
   obtain⟨B,r,h,u⟩:=h;exact bq (gZ (ts:=ts) h a ja) λC w=>Fq.trans r u w
 cases x with
 | tmp t=>
  grind [cv,tm,lM]
 | const c=>exact l (.const c) k h
 | global g=>exact l (.global g) k h
 | func f=>exact l (.func f) k h
theorem GI(a:t≠d):kill (eff none d v F) t=eff none d (U7 t v) (kill F t):=by grind [nJ,my,cv,rW]
theorem WM(h:H5 N (eff none d v F) dj x K)(a:dj≠d)(c:d∉ts)(j:∀t,t∈tm x->t∈ts)(l:∀t,(F t).uses d=false):H5 N F dj x (Fq d ts v F K):=by
 have f:Ky N (eff none d v F) dj x=Ky N F dj x:=by
  cases x with
  | tmp t=>
   grind [cv,tm,Ky]
  | _=>rfl
 unfold H5 at h |-;cases b:Ta N dj x with
 | true=>
  rw[b]at h;simp only[cond_true]at h |-;exact gZ (ts:=ts) h a ja
 | false=>
 rw[b]at h;simp only[cond_false]at h |-;unfold Pq at h |-;rw[f]at h;cases i:Ky N F dj x with
 | none=>grind [QQ]
 | some p=>
  rw[i]at h;simp only at h |-;obtain⟨rfl,n⟩:=EM i;have g:p.1≠d:=λe=>c (e ▸ j p.1 (by simp[tm]))
  rw[GI g]at h;exact bq (gZ (ts:=ts) h a ja) λo k=>Fq.trans (F1:=kill F p.1) (λe=>by grind [my]) cg.kill k
theorem NE(h:tc (eff none d v F) x cs K)(l:d∉tm x)(n:∀t,(F t).uses d=false):tc F x cs (Fq d ts v F K):=by
 have fin:∀{t:Nat}{k:Kd}{cs:List C},t≠d->K (updH (eff none d v F) t k cs)->Fq d ts v F K (updH F t k cs):=fun {t k cs} a h=>by
  rw[pI a]at h;exact⟨_,λe=>by rw[AO a,e],h,cg.updH⟩
 have DY:∀{t:Nat}{k:Kd}{cs:List C},t≠d->K (updN (eff none d v F) t k cs)->Fq d ts v F K (updN F t k cs):=fun {t k cs} a h=>by
  rw[Ph a]at h;exact⟨_,λe=>by rw[Js a,e],h,cg.updN⟩
 have finP:∀{t:Nat}{k:Kd}{cs:List C},t≠d->K (VX (eff none d v F) t k cs)->Fq d ts v F K (VX F t k cs):=fun {t k cs} a h=>by
  cases k with
  | box=>exact fin a h
  | _=>exact DY a h
 cases x with
 | tmp t=>
  have a:t≠d:=λe=>l (by simp[tm,e])
  simp only[tc]at h |-;rw[cv a]at h;cases c:F t with
  | Y k o=>
   grind [d9]
  | ref f p g=>
   rw[c]at h;have i:f≠d:=λe=>by have:=n t;rw[c,e]at this;simp[AV.uses]at this
   cases g with
   | cons s g=>
    simp only at h |-;rw[cv i]at h;cases b:F f with
    | Y k o=>
     rw[b]at h;obtain⟨r,j,q,u,w,y⟩:=Pu.out h;exact Pu.mk q u w rfl (finP i y)
    | _=>grind
   | nil=>
    grind [cv,d9]
  | _=>grind
 | _=>exact h.elim
theorem Rl(h:nO TE (eff none d v F) T x y K)(b:d∉ts)(n:d∉tm x)(j:d∉tm y)(c:∀t,(F t).uses d=false):nO TE F T x y (Fq d ts v F K):=by
 unfold nO at h |-;split at h
 ·rename_i i r
  obtain⟨u,k,a,e⟩:=cD h;refine e F (mu j c) _ ?_;cases o:Nat.beq k.length i.size with
  | false=>grind
  | true=>
   rw[o]at a;simp only[cond_true]at a |-;cases p:br k with
   | true=>grind [NE]
   | false=>
    rw[p]at a;simp only[cond_false]at a |-;refine eQ (oW (ts:=ts) a j c) λw q f h=>?_
    obtain⟨A,a,h,l⟩:=h;cases g:Nat.beq f.length i.size with
    | false=>grind
    | true=>rw[g]at h;exact Fu (NE (ts:=ts) h n (l.clean b c)) λB e=>Fq.trans a l e
 exact h.elim
def Xm(a:d∉tm y):oN (eff none d v F) y=oN F y:=by
 cases y with
 | tmp t=>exact cv λe=>a (by simp[tm,e])
 | _=>rfl
theorem WT{K:Bool->(Nat->AV)->List (List C)->Prop}(h:Hs (eff none d v F) y K)(b:d∉tm y)(c:∀t,(F t).uses d=false):Hs F y λfl F1 rows=>∃v1,(v=F d->v1=F1 d)/\K fl (eff none d v1 F1) rows/\cg ts F F1:=by
 have a:=Xm (F:=F) (v:=v) b;unfold Hs at h |-;rw[a]at h;split at h
 ·refine eQ (oW (ts:=ts) h b c) λF1 e f h=>?_
  obtain⟨v1,g,h,i⟩:=h
  grind
 grind [cD,mu,cg.refl]
theorem Vt{K:(Nat->AV)->List (List C)->Prop}(h:Ey (eff none d v F) y K)(b:d∉tm y)(c:∀t,(F t).uses d=false):Ey F y λF1 rows=>∃v1,(v=F d->v1=F1 d)/\K (eff none d v1 F1) rows/\cg ts F F1:=by
 obtain⟨e,xs,a,f⟩:=cD h;refine f F (mu b c) _ ?_;split at a
 ·grind [cg.refl]
 ·refine eQ (oW (ts:=ts) a b c) λF1 e g h=>?_
  obtain⟨v1,a,h,i⟩:=h
  grind
 exact a.elim
theorem Vh(h:ET TE N (eff none d v F) dj T x y K)(b:dj≠d)(c:d∉ts)(j:d∉tm x)(k:d∉tm y)(f:∀t,(F t).uses d=false):ET TE N F dj T x y (Fq d ts v F K):=by
 obtain⟨e,B,h,a⟩:=gV h;refine a _ (Kr (WT (ts:=ts) h k f) λfl C D h=>?_);obtain⟨E,l,h,g⟩:=h;refine EC (Vt (ts:=ts) h j (g.clean c f)) λG i h=>?_
 obtain⟨H,n,h,o⟩:=h;obtain⟨p,q,r,u,w,h⟩:=Ap.out h;refine Cb p q r u w rfl (bq (gZ (ts:=ts) h b ja) λJ A=>?_);exact Fq.trans l g (Fq.trans n o A)
theorem R4{f:Oper}(E:f.guard=none)(g:Wn f.op=true)(k:f.dst≠some d)(A:d∉f.looksAt ops)(B:∀t,(F t).uses d=false)(h:jD P TE N ops f K (eff none d v F)) :
  jD P TE N ops f (Fq d (f.looksAt ops) v F K) F:=by
 unfold jD gi at h |-;rw[E]at h |-;simp only at h |-;have j:∀t,t∈dC f.op->t∈f.looksAt ops:=λt l=>jd f t l
 have pur:∀b,b≠d->dq P TE (eff none d v F) f.op (λq=>bV N (eff none d v F) b q K)->dq P TE F f.op λq=>bV N F b q (Fq d (f.looksAt ops) v F K):=λb k h=>
  FR (p:=λF K=>dq P TE F f.op K) (kQ h) k j A B
 have dne:∀b,f.dst=some b->b≠d:=ψ
 have tmI:∀x,x∈f.op.operands.toList->∀t,t∈tm x->t∈f.looksAt ops:=λx G t l=>j t (List.mem_flatMap.2 ⟨x,G,l⟩)
 cases e:f.op with
 | store T x y=>
  rw[e]at h tmI;simp only[D6]at h |-;cases a:f.dst with
  | some b=>rw[a]at h;simp only[jG]at h;exact h.elim
  | none=>
   grind [Rl,Go.Op.operands]
 | move x=>
  rw[e]at h tmI;cases a:f.dst with
  | none=>rw[a]at h;exact h.elim
  | some b=>
   rw[a]at h;cases x with
   | tmp t=>
    simp only[D6,jG]at h |-;exact Tc h (dne b a) A (tmI (.tmp t) (by simp[Op.operands]) t (by simp[tm])) B
   | _=>rw[e]at g;cases g
 | assign x=>
  rw[e]at h tmI
  grind [WM,D6,jG,Go.Op.operands]
 | build T H=>
  rw[e]at h tmI
  grind [Q2,D6,jG,Go.Op.operands]
 | buildSlice T n H=>
  rw[e]at h tmI
  grind [LL,D6,jG,Go.Op.operands]
 | extract x i=>rw[e]at h pur;cases a:f.dst with|none=>rw[a]at h;exact h.elim|some b=>rw[a]at h;exact pur b (dne b a) h
 | load T x=>rw[e]at h pur;cases a:f.dst with|none=>rw[a]at h;exact h.elim|some b=>rw[a]at h;exact pur b (dne b a) h
 | fieldAddr T x i=>rw[e]at h pur;cases a:f.dst with|none=>rw[a]at h;exact h.elim|some b=>rw[a]at h;exact pur b (dne b a) h
 | index T x y=>rw[e]at h pur;cases a:f.dst with|none=>rw[a]at h;exact h.elim|some b=>rw[a]at h;exact pur b (dne b a) h
 | field T x i=>rw[e]at h pur;cases a:f.dst with|none=>rw[a]at h;exact h.elim|some b=>rw[a]at h;exact pur b (dne b a) h
 | binOp o T x y L=>rw[e]at h pur;cases a:f.dst with|none=>rw[a]at h;exact h.elim|some b=>rw[a]at h;exact pur b (dne b a) h
 | unOp o T x=>rw[e]at h pur;cases a:f.dst with|none=>rw[a]at h;exact h.elim|some b=>rw[a]at h;exact pur b (dne b a) h
 | call c=>
  rw[e]at g h tmI;cases J:sP c with
  | none=>grind [Wn]
  | some p=>
   have r:=zH J;subst r;cases a:f.dst with
   | none=>rw[a]at h;exact h.elim
   | some b=>
    grind [Vh,D6,jG,Go.Op.operands,Go.Call.operands]
 | slice T x C u D=>
  rw[e]at g h tmI pur;cases C with
  | some C=>
   cases u with
   | some _=>cases g
   | none=>
    cases D with
    | some _=>cases g
    | none=>
     cases a:f.dst with
     | none=>rw[a]at h;exact h.elim
     | some b=>
      rw[a]at h;simp only[D6,jG]at h |-;cases w:X8 N b with
      | false=>simp_all
      | true=>
       grind [WZ,Go.Op.operands]
  | none=>
   cases u with
   | none=>cases g
   | some u=>
    cases D with
    | some _=>cases g
    | none=>
     cases a:f.dst with
     | none=>rw[a]at h;exact h.elim
     | some b=>
      rw[a]at h;simp only[D6,jG]at h |-;cases w:X8 N b with
      | false=>simp_all
      | true=>
       grind [WQ,Go.Op.operands]
 | _=>rw[e]at g;cases g
theorem W5{a:Oper}(c:a.guard=none)(f:Wn a.op=true)(b:a.dst≠some d)(g:d∉a.looksAt ops)(i:∀t,(F t).uses d=false)(h:jD P TE N ops a K F) :
  jD P TE N ops a (λF1=>K F1/\cg (a.looksAt ops) F F1) F:=by
 refine kX (R4 (d:=d) (v:=F d) c f b g i (by rw[TN];exact h)) λF1 j=>?_
 obtain⟨k,e,l,u⟩:=j
 grind [TN]
theorem cg.setH{ts:List Nat}{t:Nat}{k:Kd}{cs:List C} : cg ts F (setH F t (.Y k cs)):=λs e a=>by
 unfold Ab.setH at a;cases b:Nat.beq s t with
 | true=>rw[b]at a;cases a
 | false=>grind
variable{rcs:List C}
theorem NY(h:bV N F d (.Y k rcs) K):bV N F d (.Y k rcs) λF1=>K F1/\cg ts F F1:=by
 unfold bV at h |-;cases a:(N.free d&&!(AV.Y k rcs).uses d) with
 | false=>grind
 | true=>rw[a]at h;exact⟨h,cg.put λe b=>by cases b⟩
theorem xl{off:Nat}{st:cN}{K:(Nat->AV)->List C->Prop}(h:lendAt F t off st n K):lendAt F t off st n λF1 cs=>K F1 cs/\cg ts F F1:=by
 unfold lendAt at h |-;split at h
 all_goals grind [d9,cg.updH]
def mM{ts:List Nat} : ∀{xs:List (Operand × Nat)}{K:(Nat->AV)->List (MA × tE)->Prop}{F:Nat->AV},lendP xs K F->lendP xs (λF1 l=>K F1 l/\cg ts F F1) F
 | [],K,F,h=>⟨h,cg.refl _ _⟩
 | (x,0)::xs,K,F,h=>mM (xs:=xs) h
 | (x,1)::xs,K,F,h=>by
  simp only[lendP]at h |-;split at h
  case h_2=>exact h.elim
  split at h
  ·exact fU (xl (ts:=ts) h) λF1 c h=>cC (mM (ts:=ts) h.1) λb l a=>⟨a.1,h.2.trans a.2⟩
  ·exact fU (xl (ts:=ts) h) λF1 c h=>cC (mM (ts:=ts) h.1) λb l a=>⟨a.1,h.2.trans a.2⟩
  ·exact fU (xl (ts:=ts) h) λF1 c h=>cC (mM (ts:=ts) h.1) λb l a=>⟨a.1,h.2.trans a.2⟩
  exact h.elim
 | (x,n+2)::xs,K,F,h=>by
  simp only[lendP]at h |-;split at h
  case h_2=>exact h.elim
  split at h
  ·split at h
   ·exact cC (mM (ts:=ts) h) λb l a=>⟨a.1,cg.kill.trans a.2⟩
   exact h.elim
  ·exact cC (mM (ts:=ts) h) λb l a=>⟨a.1,cg.kill.trans a.2⟩
  exact h.elim
theorem mz{ts:List Nat}{K:(Nat->AV)->Prop} : ∀{l:List (MA × tE)}{B:List MA}{F:Nat->AV},iK l B K F->iK l B (λF1=>K F1/\cg ts F F1) F
 | [],[],F,h=>⟨h,cg.refl _ _⟩
 | [],_::_,F,h=>h.elim
 | (m,.no)::l,[],F,h=>h.elim
 | (m,.at_ t off st)::l,[],F,h=>h.elim
 | (m,.box t)::l,[],F,h=>h.elim
 | (m,.no)::l,.val _ _::B,F,h=>mz (l:=l) (B:=B) h
 | (m,.no)::l,.mut _ _::B,F,h=>mz (l:=l) (B:=B) h
 | (m,.no)::l,.ptr _::B,F,h=>mz (l:=l) (B:=B) h
 | (m,.at_ t off st)::l,.val _ _::B,F,h=>h.elim
 | (m,.at_ t off st)::l,.ptr _::B,F,h=>h.elim
 | (m,.box t)::l,.val _ _::B,F,h=>h.elim
 | (m,.box t)::l,.mut _ _::B,F,h=>h.elim
 | (m,.at_ t off st)::l,.mut ag out::B,F,h=>by
  simp only[iK]at h |-;split at h
  case h_2=>exact h.elim
  split at h
  ·rename_i k c _ _
   cases d:Nat.ble (off+out.length) c.length with
   | false=>grind
   | true=>
    rw[d]at h;simp only[cond_true,d9]at h |-;exact dD (λb a=>⟨a.1,cg.updH.trans a.2⟩) (mz (ts:=ts) h)
  obtain⟨r,j,e,f,g,i⟩:=Pu.out h;exact Pu.mk e f g rfl (dD (λb a=>⟨a.1,cg.updH.trans a.2⟩) (mz (ts:=ts) i))
 | (m,.box t)::l,.ptr out::B,F,h=>by
  simp only[iK]at h |-;split at h
  ·exact dD (λb a=>⟨a.1,cg.setH.trans a.2⟩) (mz (ts:=ts) h)
  exact h.elim
variable{modes:List Nat}{args:List Operand}{f:Nat}
theorem TV{d:Option Nat}(h:mB P N F d f args modes K):mB P N F d f args modes λF1=>K F1/\cg ts F F1:=by
 unfold mB at h |-;refine cC (mM (ts:=ts) h) λn l h=>?_
 obtain⟨h,c⟩:=h;cases e:(xA l&&Nat.beq args.length modes.length) with
 | false=>grind
 | true=>
  rw[e]at h;refine k7 h λb A h=>?_
  obtain⟨o,B,k,rcs,g,a,i⟩:=cy.out h;refine CN g a (dD (λF'' h=>?_) (mz (ts:=ts) i));obtain⟨h,j⟩:=h;cases d with
  | none=>grind [cg.trans]
  | some d=>exact bq (NY (ts:=ts) h) λp a=>⟨a.1,(c.trans j).trans a.2⟩
theorem V5{d:Option Nat}{c a b:Nat}{B:List MA}(h:BB N F d t cs c a e b K k rcs B):BB N F d t cs c a e b (λF1=>K F1/\cg ts F F1) k rcs B:=by
 unfold BB at h |-;split at h
 case h_2=>exact h.elim
 rename_i g i;cases j:(Nat.beq g.length a&&Nat.beq i.length b) with
 | false=>grind
 | true=>
  rw[j]at h;simp only[cond_true,d9]at h |-;cases d with
  | none=>exact⟨h,cg.kill.trans cg.setH⟩
  | some d=>exact bq (NY (ts:=ts) h) λl f=>⟨f.1,(cg.kill.trans cg.setH).trans f.2⟩
theorem TU{d:Option Nat}{a b:Nat}(h:lF P N F d f args a b K):lF P N F d f args a b λF1=>K F1/\cg ts F F1:=by
 unfold lF at h |-;split at h
 case h_2=>exact h.elim
 refine md h λt e h=>md h λg c h=>?_
 split at h
 case h_2=>exact h.elim
 rename_i i p;cases j:(Nat.beq g t&&Nat.ble (e+a) c&&Nat.ble (c+b) i.length) with
 | false=>grind
 | true=>
  rw[j]at h;simp only[cond_true,d9]at h |-;obtain⟨q,B,k,rcs,l,n,o⟩:=cy.out h;exact CN l n (V5 o)
def Un{d:Option Nat}(h:l9 P N F d f args modes K):l9 P N F d f args modes λF1=>K F1/\cg ts F F1:=by
 unfold l9 at h |-;split
 ·rename_i p a;rw[a]at h;exact TU h
 rename_i a;rw[a]at h;exact TV h
variable{s:Nat}
theorem Xs{dj:Option Nat}{a:Nat->AV}(u:cg ts F a):cg ts F (rv1 F dj s a):=by
 unfold rv1;split
 case h_2=>exact u
 rename_i t c f;cases g:(dne dj s&&dne dj t) with
 | false=>exact u
 | true=>
  simp only[cond_true];split
  case h_2=>exact u
  split
  case h_2=>exact u
  intro q e b;by_cases d:q=s
  ·grind [rP]
  rw[ge _ _ d]at b;exact u q e b
theorem Mo{ts:List Nat}{dj:Option Nat} : ∀{l:List Nat}{a:Nat->AV},cg ts F a->cg ts F (rvE F dj l a)
 | [],_,u=>u
 | _::l,_,u=>Mo (l:=l) (Xs u)
theorem Ve{a:Oper}(k:a.guard=none)(i:ro a.op=true)(h:jD P TE N ops a K F):jD P TE N ops a (λF1=>K F1/\cg (a.looksAt ops) F F1) F:=by
 have pur:∀d,a.dst=some d->dq P TE F a.op (λg=>bV N F d g K)->dq P TE F a.op λg=>bV N F d g λF1=>K F1/\cg (a.looksAt ops) F F1:=λd l h=>by
  have n:iy P TE N ops a K F:=by grind [iy,gi]
  obtain⟨y,g,j,o⟩:=Ar n;have b:=j.dst;rw[l]at b;simp only[O1]at b;subst b;have A:=j.at_ F (Cp _ _) (λF1=>K F1/\cg (a.looksAt ops) F F1) ⟨o,cg.put λe q=>(j.from_ e q).imp id ψ⟩
  grind [iy,gi]
 unfold jD gi at h |-;rw[k]at h |-;simp only at h |-;cases f:a.op with
 | call c=>
  rw[f]at h i;have r:sP c=none:=by grind [ro,sP]
  have pl:lB P TE N a K F->lB P TE N a (λF1=>K F1/\cg (a.looksAt ops) F F1) F:=λh=>by grind [lB,jG]
  cases t:D6 N F (.call c) with
  | some p=>
   rw[t]at h;simp only at h |-;have lt:vh P N F a.dst p.1 p.2.1 p.2.2 K->vh P N F a.dst p.1 p.2.1 p.2.2 λF1=>K F1/\cg (a.looksAt ops) F F1:=λh=>t7 (Un (ts:=a.looksAt ops) h) λF1 ⟨h,u⟩=>by grind [pJ,Mo]
   cases w:R7 N (.call c) with
   | false=>grind
   | true=>
    rw[w]at h;rcases h with h|h
    ·exact .pl (pl h)
    exact .lt (lt h)
  | none=>
   grind [lB]
 | _=>rw[f]at i;cases i
theorem V8{a:Oper}(c:a.guard=none)(e:(Wn a.op || ro a.op)=true)(b:a.dst≠some d)(f:d∉a.looksAt ops)(g:∀t,(F t).uses d=false)(h:jD P TE N ops a K F) :
  jD P TE N ops a (λF1=>K F1/\cg (a.looksAt ops) F F1) F:=by grind [W5,Ve]
def Gq(d:Nat)(ts:List Nat)(F:Nat->AV)(K:(Nat->AV)->Prop)(F1:Nat->AV):Prop:=∃a,K (eff none d a F1)/\cg ts F F1
def Gq.trans{a:Nat->AV}(b:cg ts F F1)(h:Gq d ts F1 K a):Gq d ts F K a:=by
 obtain⟨c,e,f⟩:=h;exact⟨c,e,b.trans f⟩
theorem Gt(a:t≠d):setH (eff none d v F) t av=eff none d v (setH F t av):=by grind [nJ,ge,cv,setH]
theorem wI{off:Nat}{st:cN}{K:(Nat->AV)->List C->Prop}(h:lendAt (eff none d v F) t off st n K)(a:t≠d):lendAt F t off st n λF1 cs=>∃v1,K (eff none d v1 F1) cs/\cg ts F F1:=by
 unfold lendAt at h |-;rw[cv a]at h;split at h
 case h_2=>exact h.elim
 split at h
 ·grind [d9,pI,cg.updH]
 obtain⟨r,j,b,c,e,f⟩:=Lq.out h;refine .mk_ ?_
 grind [pI,cg.updH]
theorem oD{ts:List Nat}{d:Nat}(a:d∉ts):∀{xs:List (Operand × Nat)}{K:(Nat->AV)->List (MA × tE)->Prop}{F:Nat->AV}{v:AV},lendP xs K (eff none d v F)->(∀x,x∈xs->d∉tm x.1)->(∀t,(F t).uses d=false)->
  lendP xs (λF1 l=>(∃v1,K (eff none d v1 F1) l/\cg ts F F1)/\∀q,q∈l->d∉q.2.slot) F
 | [],K,F,v,h,_,_=>⟨⟨v,h,cg.refl _ _⟩,ψ⟩
 | (x,0)::xs,K,F,v,h,w,c=>by
  simp only[lendP]at h |-;refine cC (oD a h ψ c) λF1 l h=>⟨h.1,λq b=>?_⟩
  rcases List.mem_cons.1 b with rfl|b
  ·exact λu=>by cases u
  exact h.2 q b
 | (x,1)::xs,K,F,v,h,w,c=>by
  simp only[lendP]at h |-;split at h
  case h_2=>exact h.elim
  rename_i s;have j:s≠d:=λe=>w _ C3 (by simp[tm,e])
  rw[cv j]at h;have y:∀{t:Nat}{F1:Nat->AV}{l:List (MA × tE)}{m:MA}{f:Nat}{A:cN}{K2:(Nat->AV)->List (MA × tE)->Prop},t≠d->((∃v1,K2 (eff none d v1 F1) ((m,.at_ t f A)::l)/\cg ts F F1)/\∀q,q∈l->d∉q.2.slot)->(∃v1,K2 (eff none d v1 F1) ((m,.at_ t f A)::l)/\cg ts F F1)/\∀q,q∈(m,tE.at_ t f A)::l->d∉q.2.slot:=λg h=>⟨h.1,λq b=>by
    rcases List.mem_cons.1 b with rfl|b
    · exact λu=>g (I2.1 u).symm
    exact h.2 q b⟩
  split at h
  ·exact fU (wI (ts:=ts) h j) λF1 k h=>by
    obtain⟨v1,h,i⟩:=h;exact cC (oD a h ψ (i.clean a c)) λB l h=>by
     obtain⟨⟨o,h,p⟩,r⟩:=h;exact y (K2:=K) j ⟨⟨o,h,i.trans p⟩,r⟩
  ·exact fU (wI (ts:=ts) h j) λF1 k h=>by
    obtain⟨v1,h,i⟩:=h;exact cC (oD a h ψ (i.clean a c)) λB l h=>by
     obtain⟨⟨o,h,p⟩,r⟩:=h;exact y (K2:=K) j ⟨⟨o,h,i.trans p⟩,r⟩
  ·rename_i t f A G D
   have g:t≠d:=λe=>by have:=c s;rw[D,e]at this;simp[AV.uses]at this
   exact fU (wI (ts:=ts) h g) λF1 k h=>by
    obtain⟨v1,h,i⟩:=h;exact cC (oD a h ψ (i.clean a c)) λB l h=>by
     obtain⟨⟨o,h,p⟩,r⟩:=h;exact y (K2:=K) g ⟨⟨o,h,i.trans p⟩,r⟩
  exact h.elim
 | (x,n+2)::xs,K,F,v,h,w,c=>by
  simp only[lendP]at h |-;split at h
  case h_2=>exact h.elim
  rename_i s;have j:s≠d:=λe=>w _ C3 (by simp[tm,e])
  rw[cv j]at h;have y:∀{t:Nat}{k:List C},t≠d->lendP xs (λE l=>K E ((.ptr k,.box t)::l)) (kill (eff none d v F) t)->lendP xs (λF1 l=>(∃v1,K (eff none d v1 F1) ((.ptr k,.box t)::l)/\cg ts F F1)/\∀q,q∈(MA.ptr k,tE.box t)::l->d∉q.2.slot) (kill F t):=fun {t k} g h=>by
   rw[GI g]at h;refine cC (oD a h ψ ((cg.kill (ts:=ts)).clean a c)) λB l h=>?_
   obtain⟨⟨o,h,p⟩,r⟩:=h;refine⟨⟨o,h,cg.kill.trans p⟩,λq b=>?_⟩;rcases List.mem_cons.1 b with rfl|b
   ·exact λu=>g (I2.1 u).symm
   exact r q b
  split at h
  ·rename_i t D
   have g:t≠d:=λe=>by have:=c s;rw[D,e]at this;simp[AV.uses]at this
   rw[cv g]at h;split at h
   all_goals simp_all
  all_goals simp_all
theorem vP{d:Nat}{v:AV}(a:∀t,(F t).uses d=false):∀{l:List (MA × tE)}{xs:List Operand}{K:Bool->List MA->Prop},valsP (eff none d v F) l xs K->(∀x,x∈xs->d∉tm x)->valsP F l xs K
 | [],[],K,h,_=>h
 | (m,.no)::l,x::xs,K,h,b=>by
  obtain⟨f,g,c,e⟩:=cD h;exact e F (mu ψ a) _ (vP a c ψ)
 | (m,.at_ t off st)::l,x::xs,K,h,b=>vP (l:=l) (xs:=xs) a h ψ
 | (m,.box t)::l,x::xs,K,h,b=>vP (l:=l) (xs:=xs) a h ψ
 | [],_::_,K,h,_=>h.elim
 | (m,.no)::l,[],K,h,_=>h.elim
 | (m,.at_ t off st)::l,[],K,h,_=>h.elim
 | (m,.box t)::l,[],K,h,_=>h.elim
theorem mD{ts:List Nat}{d:Nat}{K:(Nat->AV)->Prop} : ∀{l:List (MA × tE)}{B:List MA}{F:Nat->AV}{v:AV},iK l B K (eff none d v F)->(∀q,q∈l->d∉q.2.slot)->iK l B (Gq d ts F K) F
 | [],[],F,v,h,_=>⟨v,h,cg.refl _ _⟩
 | [],_::_,F,v,h,_=>h.elim
 | (m,.no)::l,[],F,v,h,_=>h.elim
 | (m,.at_ t off st)::l,[],F,v,h,_=>h.elim
 | (m,.box t)::l,[],F,v,h,_=>h.elim
 | (m,.no)::l,.val _ _::B,F,v,h,b=>mD (l:=l) (B:=B) h ψ
 | (m,.no)::l,.mut _ _::B,F,v,h,b=>mD (l:=l) (B:=B) h ψ
 | (m,.no)::l,.ptr _::B,F,v,h,b=>mD (l:=l) (B:=B) h ψ
 | (m,.at_ t off st)::l,.val _ _::B,F,v,h,_=>h.elim
 | (m,.at_ t off st)::l,.ptr _::B,F,v,h,_=>h.elim
 | (m,.box t)::l,.val _ _::B,F,v,h,_=>h.elim
 | (m,.box t)::l,.mut _ _::B,F,v,h,_=>h.elim
 | (m,.at_ t off st)::l,.mut ag out::B,F,v,h,b=>by
  have c:t≠d:=λe=>b _ C3 (by simp[tE.slot,e])
  have a:∀q,q∈l->d∉q.2.slot:=ψ
  simp only[iK]at h |-;rw[cv c]at h;split at h
  case h_2=>exact h.elim
  split at h
  ·rename_i k n _ _
   cases o:Nat.ble (off+out.length) n.length with
   | false=>grind
   | true=>
    rw[o]at h;simp only[cond_true,d9]at h |-;rw[pI c]at h;exact dD (λg f=>Gq.trans cg.updH f) (mD (ts:=ts) h a)
  obtain⟨r,j,p,u,w,i⟩:=Pu.out h;rw[pI c]at i;exact Pu.mk p u w rfl (dD (λg f=>Gq.trans cg.updH f) (mD (ts:=ts) i a))
 | (m,.box t)::l,.ptr out::B,F,v,h,b=>by
  have c:t≠d:=λe=>b _ C3 (by simp[tE.slot,e])
  have a:∀q,q∈l->d∉q.2.slot:=ψ
  simp only[iK]at h |-;rw[cv c]at h;split at h
  ·rw[Gt c]at h
   exact dD (λg f=>Gq.trans cg.setH f) (mD (ts:=ts) h a)
  exact h.elim
theorem Tk{dj:Option Nat}(h:mB P N (eff none d v F) dj f args modes K)(n:dj≠some d)(a:d∉ts)(g:∀x,x∈args->d∉tm x)(i:∀t,(F t).uses d=false) :
  mB P N F dj f args modes (Gq d ts F K):=by
 unfold mB at h |-;refine cC (oD a h (λx o=>g _ (List.of_mem_zip o).1) i) λE l h=>?_
 obtain⟨⟨G,h,c⟩,p⟩:=h;cases q:(xA l&&Nat.beq args.length modes.length) with
 | false=>grind
 | true=>
  rw[q]at h;refine k7 (vP (c.clean a i) h g) λb A h=>?_
  obtain⟨H,B,k,rcs,r,e,u⟩:=cy.out h;refine CN r e (dD (λF'' h=>?_) (mD (ts:=ts) u p));obtain⟨w,h,j⟩:=h;cases dj with
  | none=>exact⟨w,h,c.trans j⟩
  | some dj=>
   refine bq (gZ (ts:=ts) h ψ ja) λJ e=>?_
   obtain⟨y,-,C,D⟩:=e;exact⟨y,C,(c.trans j).trans D⟩
theorem UY{dj:Option Nat}{c a b:Nat}{B:List MA}(f:t≠d)(g:dj≠some d)(h:BB N (eff none d v F) dj t cs c a e b K k rcs B):BB N F dj t cs c a e b (Gq d ts F K) k rcs B:=by
 unfold BB at h |-;split at h
 case h_2=>exact h.elim
 rename_i i j;cases l:(Nat.beq i.length a&&Nat.beq j.length b) with
 | false=>grind
 | true=>
  rw[l]at h;simp only[cond_true,d9]at h |-;rw[GI f,Gt f]at h;cases dj with
  | none=>exact⟨_,h,cg.kill.trans cg.setH⟩
  | some dj=>
   refine bq (gZ (ts:=ts) h ψ ja) λr n=>?_
   obtain⟨o,-,p,q⟩:=n;exact⟨o,p,(cg.kill.trans cg.setH).trans q⟩
theorem NH{K:Nat->Nat->Prop}(b:d∉tm x)(c:∀t,(F t).uses d=false)(h:D8 (eff none d v F) x K):D8 F x λt o=>t≠d/\K t o:=by
 obtain⟨s,t,f,rfl,a,i⟩:=vK h;have g:s≠d:=λe=>b (by simp[tm,e])
 rw[cv g]at a;have j:t≠d:=λe=>by have:=c s;rw[a,e]at this;simp[AV.uses]at this
 grind [D8]
theorem RE{dj:Option Nat}{a b:Nat}(h:lF P N (eff none d v F) dj f args a b K)(g:dj≠some d)(c:∀x,x∈args->d∉tm x)(e:∀t,(F t).uses d=false) :
  lF P N F dj f args a b (Gq d ts F K):=by
 unfold lF at h |-;split at h
 case h_2=>exact h.elim
 refine md (NH (c _ (by simp)) e h) λt j h=>?_
 obtain⟨i,h⟩:=h;refine md (NH (c _ (by simp)) e h) λk l h=>?_
 replace h:=h.2;rw[cv i]at h;split at h
 all_goals grind [d9,cy.out,CN,UY]
theorem R5{dj:Option Nat}(h:l9 P N (eff none d v F) dj f args modes K)(a:dj≠some d)(b:d∉ts)(c:∀x,x∈args->d∉tm x)(e:∀t,(F t).uses d=false) :
  l9 P N F dj f args modes (Gq d ts F K):=by grind [RE,Tk,l9]
theorem Vy{dj:Option Nat}{q:Nat}(c:q≠s):rv1 F dj s F1 q=F1 q:=by
 unfold rv1;cases F s with
 | ref t a b=>
  cases b with
  | cons=>rfl
  | nil=>
   simp only;cases(dne dj s&&dne dj t) with
   | false=>rfl
   | true=>
    simp only[cond_true];cases F1 t with
    | Y k d=>
     cases k with
     | box=>
      simp only;cases F1 s with
      | dead=>grind [ge]
      | _=>rfl
     | _=>rfl
    | _=>rfl
 | _=>rfl
theorem Xx{dj:Option Nat}{v1:AV}(c:∀t,(F t).uses d=false):∃a,rv1 (eff none d v F) dj s (eff none d v1 F1)=eff none d a (rv1 F dj s F1):=by
 by_cases b:s=d
 ·subst b
  have f:∃a,rv1 (eff none s v F) dj s (eff none s v1 F1)=eff none s a F1:=by
   unfold rv1;rw[nJ];have set:∀x:AV,setH (eff none s v1 F1) s x=eff none s x F1:=λx=>by grind [rP,nJ,ge,cv]
   grind
  obtain⟨a,g⟩:=f;refine⟨a,g.trans ?_⟩
  grind [nJ,cv,Vy]
 refine⟨v1,?_⟩;unfold rv1;rw[cv b];cases h:F s with
 | ref t i j=>
  cases j with
  | cons=>rfl
  | nil=>
   have k:t≠d:=λe=>by have:=c s;rw[h,e]at this;simp[AV.uses]at this
   grind [cv,Gt]
 | _=>rfl
def Rh{d:Nat}{dj:Option Nat}{v:AV}(a:∀t,(F t).uses d=false):∀{l:List Nat}{v1:AV}{F1:Nat->AV},∃b,rvE (eff none d v F) dj l (eff none d v1 F1)=eff none d b (rvE F dj l F1)
 | [],v1,_=>⟨v1,rfl⟩
 | s::l,v1,F1=>by
  simp only[rvE];obtain⟨b,e⟩:=Xx (dj:=dj) (v:=v) (v1:=v1) (s:=s) (F1:=F1) a;rw[e];exact Rh a
theorem Vp{a:Oper}(B:a.guard=none)(k:ro a.op=true)(g:a.dst≠some d)(w:d∉a.looksAt ops)(n:∀t,(F t).uses d=false)(h:jD P TE N ops a K (eff none d v F)) :
  jD P TE N ops a (Gq d (a.looksAt ops) F K) F:=by
 have f:∀t,t∈dC a.op->t∈a.looksAt ops:=λt o=>jd a t o
 have tmI:∀x,x∈a.op.operands.toList->∀t,t∈tm x->t∈a.looksAt ops:=λx y t o=>f t (List.mem_flatMap.2 ⟨x,y,o⟩)
 have pur:∀dj,dj≠d->dq P TE (eff none d v F) a.op (λj=>bV N (eff none d v F) dj j K)->dq P TE F a.op λj=>bV N F dj j (Fq d (a.looksAt ops) v F K):=λdj g h=>
  FR (p:=λF K=>dq P TE F a.op K) (kQ h) g f w n
 unfold jD gi at h |-;rw[B]at h |-;simp only at h |-;cases b:a.op with
 | call c=>
  rw[b]at h k tmI;have q:sP c=none:=by grind [ro,sP]
  have r:D6 N (eff none d v F) (.call c)=D6 N F (.call c):=by grind [ro,D6]
  rw[r]at h;have pl:lB P TE N a K (eff none d v F)->lB P TE N a (Gq d (a.looksAt ops) F K) F:=λh=>by
   unfold lB at h |-;rw[b]at h |-;cases C:a.dst with
   | none=>grind
   | some dj=>
    rw[C]at h;simp only[jG,q]at h |-;have A:=pur dj ψ;rw[b]at A;obtain⟨j,D,-,E⟩:=kQ (A h);exact E F (Cp _ _) _ (bq D λQ G=>by
      obtain⟨v1,-,H,u⟩:=G;exact⟨v1,H,u⟩)
  cases J:D6 N F (.call c) with
  | some p=>
   rw[J]at h;simp only at h |-;have i:∀x,x∈p.2.1->d∉tm x:=λx y L=>by grind [ro,D6,Go.Op.operands,Go.Call.operands]
   have lt:vh P N (eff none d v F) a.dst p.1 p.2.1 p.2.2 K->vh P N F a.dst p.1 p.2.1 p.2.2 (Gq d (a.looksAt ops) F K):=λh=>t7 (R5 (ts:=a.looksAt ops) h g w i n) λF1 h=>by
    obtain⟨v1,h,u⟩:=h;rw[pJ]at h |-;obtain⟨M,e⟩:=Rh (dj:=a.dst) (v:=v) (l:=Yq N.mo) (v1:=v1) (F1:=F1) n;rw[e]at h;exact⟨M,h,Mo u⟩
   cases O:R7 N (.call c) with
   | false=>grind
   | true=>
    rw[O]at h;rcases h with h|h
    ·exact .pl (pl h)
    exact .lt (lt h)
  | none=>
   grind [lB]
 | _=>rw[b]at k;cases k
theorem Vi{a:Oper}(e:a.guard=none)(b:(Wn a.op || ro a.op)=true)(c:a.dst≠some d)(f:d∉a.looksAt ops)(g:∀t,(F t).uses d=false)(h:jD P TE N ops a K (eff none d v F)) :
  jD P TE N ops a (Gq d (a.looksAt ops) F K) F:=by
 rw[IC]at b;rcases b with b|b
 ·refine kX (R4 e b c f g h) λl i=>?_
  obtain⟨j,-,k,u⟩:=i;exact⟨j,k,u⟩
 grind [Vp]
structure n8(ops:Array Oper)(ds:List Nat)(F:Nat->AV)(listed:Array Bool):Prop where
 dst:∀(j:Nat)(o:Oper)(d:Nat),sB ds o=true->ops[j]? = some o->listed.getD j true=false->o.dst=some d->∀t,(F t).uses d=false
 mv:∀(j:Nat)(o:Oper)(T:Option Nat)(s:Nat),sB ds o=true->ops[j]? = some o->listed.getD j true=false->o.guard=none->pw o.op=some (T,s)->ka ops o s=true->∀t,(F t).uses s=false
variable{j:Nat}
theorem n8.put{o:Option Nat}(h:n8 ops ds F listed)(p:∀b a g,sB ds a=true->b≠j->ops[b]? = some a->listed.getD b true=false->a.dst=some g->av.uses g=false)(q:∀b a T s,sB ds a=true->b≠j->ops[b]? = some a->listed.getD b true=false->a.guard=none->pw a.op=some (T,s)->ka ops a s=true->av.uses s=false) :
  n8 ops ds (eff o d av F) (listed.setIfInBounds j true):=by
 refine⟨λb a g i c e k t=>?_,λb a T s i c e r l n t=>?_⟩
 ·have f:=jt e
  rw[getD_set_ne true (Ne.symm f)]at e;exact kT ψ (h.dst b a g i c e k t)
 have f:=jt e;rw[getD_set_ne true (Ne.symm f)]at e;exact kT ψ (h.mv b a T s i c e r l n t)
theorem B3{o:Oper}(h:XQ o=true):o.guard=none:=by grind [XQ]
theorem Tl(h:(!ts.any (Nat.beq d))=true):d∉ts:=λa=>by grind [Nat.beq_refl]
theorem Rm{a b:Oper}{c:Bool}(h:XS ops a b c=true)(f:b.dst=some d):a.guard=none/\(Wn a.op || ro a.op)=true/\a.dst≠some d/\d∉a.looksAt ops/\b.guard=none/\d∉b.looksAt ops/\(c=true\/∀T s,pw b.op=some (T,s)->ka ops b s=false):=by
 unfold XS at h;rw[f]at h;simp only[I0]at h;obtain⟨⟨⟨⟨⟨⟨g,i⟩,n⟩,j⟩,k⟩,l⟩,o⟩:=h;refine⟨B3 g,i,λe=>?_,Tl j,B3 k,Tl l,?_⟩
 ·simp_all
 grind
def RZ(h:yA ops j i=true):qg ops j i:=vd j _ (λ_ a=>.one (Al a)) i h
theorem Pv{o:Oper}(h:sB ds o=true):∃d,o.dst=some d/\ds.any (Nat.beq d)=true:=by grind [sB]
structure Ws(ops:Array Oper)(ds:List Nat)(nm:Nat->Bool):Prop where
 back:∀(j:Nat)(oj:Oper),ops[j]? = some oj->∀e∈oj.after,Region.binds .any e=true->e.on<j
 apart:∀(i j:Nat)(oi oj:Oper),sB ds oi=true->sB ds oj=true->i≠j->ops[i]? = some oi->ops[j]? = some oj->dn oj i=true\/dn oi j=true\/oi.apart ops oj=true
 look:∀(i j:Nat)(oi oj:Oper)(d:Nat),sB ds oi=true->i≠j->ops[i]? = some oi->ops[j]? = some oj->oi.dst=some d->d∈oj.looksAt ops->dn oj i=true
 differ:∀(i j:Nat)(oi oj:Oper)(d:Nat),sB ds oi=true->sB ds oj=true->i≠j->ops[i]? = some oi->ops[j]? = some oj->oi.dst=some d->oj.dst≠some d
 nf:∀(i j:Nat)(oi oj:Oper),sB ds oi=true->sB ds oj=false->i≠j->ops[i]? = some oi->ops[j]? = some oj->yA ops j i=true\/yA ops i j=true\/XS ops oj oi (nm i)=true
 mvs:∀(j:Nat)(oj:Oper)(T:Option Nat)(s:Nat),sB ds oj=true->ops[j]? = some oj->pw oj.op=some (T,s)->ka ops oj s=true->ds.any (Nat.beq s)=true
theorem qW{d:Oper}(a:Ws ops ds nm)(b:DC ops listed)(c:ops[j]? = some d)(f:∀e∈d.after,Region.binds .any e=true->listed.getD e.on false=true)(g:yA ops j i=true):listed.getD i false=true:=
 pW b a.back (RZ g) (O6.1 c).1 λk h=>by grind [bI,cB]
theorem unl{k:Nat}(h1:listed.getD k true=false)(h2:listed.getD k false=true):False:=ψ
theorem iL.trans{a:Nat->AV}(h1:iL F F1 ts)(h2:iL F1 a ts):iL F a ts:=λt b=>by
 obtain⟨c,d⟩:=h1 t b;obtain⟨e,f⟩:=h2 t b
 grind
theorem n8.us{g:Oper}(n:Ws ops ds nm)(h:n8 ops ds F listed)(o:ops[j]? = some g)(r:∀e∈g.after,Region.binds .any e=true->listed.getD e.on false=true)(u:cg (g.looksAt ops) F F1):n8 ops ds F1 (listed.setIfInBounds j true):=by
 refine⟨λi k t l b c d=>u.clean (λf=>?_) (h.dst i k t l b ?_ d),λi k T s l b c w p q=>u.clean (λf=>?_) (h.mv i k T s l b ?_ w p q)⟩
 ·have a:=jt c
  rw[getD_set_ne true (Ne.symm a)]at c;have:=n.look i j k g t l a b o d f
  grind [cB]
 ·have a:=jt c
  rwa [getD_set_ne true (Ne.symm a)]at c
 ·grind [jt,gN,dl]
 have a:=jt c
 rwa [getD_set_ne true (Ne.symm a)]at c
theorem Xg{p:Nat}{b:Oper}(a:ops[p]? = some b)(j:d∉b.looksAt ops)(k:∀t,(F1 t).uses d=false)(e:b.dst≠some d)(h:W3 P TE ops p (eff none d v F1)):W3 P TE ops p F1:=by
 obtain⟨f,g,i,c⟩:=h;rw[bI a]at g i c;refine⟨f,by grind [bI],?_,?_⟩
 ·grind [bI,yU,mu]
 rw[bI a];obtain⟨l,n,-,o⟩:=kQ c
 grind [cv,mu,jd]
theorem MT(W:Ws ops ds nm){b:Oper}(D:ops[i]? = some b)(w:sB ds b=true) :
  ∀(fuel:Nat)(listed:Array Bool)(F:Nat->AV)(l:Option Nat)(av:AV),i∈Region.ready .any ops listed->n8 ops ds F listed->DC ops listed->Yl P TE N ops b F l d av->(nm i=true->l=none)->Ku P TE N ops ds K fuel (listed.setIfInBounds i true) (eff l d av F)->Ku P TE N ops ds K (fuel+1) listed F:=by
 have self:∀(listed:Array Bool)(F:Nat->AV)(l:Option Nat)(av:AV),i∈Region.ready .any ops listed->n8 ops ds F listed->Yl P TE N ops b F l d av->∀X:(Nat->AV)->Prop,X (eff l d av F)->m9 P TE N ops b X F:=λlisted F l av hr a c X hK=>by
  have f:=(mem_ready.1 hr).1;refine c.at_ F (Cp _ _) (a.dst i b d w D f c.dst) (λs hs=>?_) X hK;obtain⟨B,⟨T,h2⟩,h3⟩:=c.mvl s hs;exact a.mv i b T s w D f B h2 h3
 intro fuel
 induction fuel with
 | zero=>
  intro listed F l av hr a E c hnm H;refine⟨ψ,λj hj=>?_⟩;by_cases n:j=i
  ·grind [xN]
  have:=ready_mono hj n;rw[H.1]at this;cases this
 | succ fuel ih=>
  intro listed F l av hr a E c hnm H;refine⟨ψ,λj hj=>?_⟩;by_cases n:j=i
  ·grind [xN]
  have B:=H.2 j (ready_mono hj n);obtain⟨R,g,q,hall⟩:=mem_ready.1 hj;obtain⟨f,oi',C,halli⟩:=mem_ready.1 hr;rw[D]at C;simp only[O1]at C;subst C;have noedge:∀k ok,ops[k]? = some ok->listed.getD k true=false->dn g k=false:=λk ok hk hkun=>by grind [cB]
  have noedge':∀k ok,ops[k]? = some ok->listed.getD k true=false->dn b k=false:=λk ok hk hkun=>by grind [cB]
  have cd:∀t,(F t).uses d=false:=a.dst i b d w D f c.dst
  unfold xN at B |-;rw[q]at B |-;simp only at B |-;by_cases G:sB ds g=true
  case neg=>
   rw[CI G]at B |-;have hji1:yA ops j i=false:=by grind [qW]
   have hij1:yA ops i j=false:=by grind [qW]
   have hfb:XS ops g b (nm i)=true:=by grind [Ws.nf]
   obtain⟨J,r,A,g4,g5,g6,g7⟩:=Rm hfb c.dst;have hmv:l=none:=by
    cases l with
    | none=>rfl
    | some s=>
     obtain⟨-,⟨T,q1⟩,q2⟩:=c.mvl s rfl
     grind
   subst hmv;refine kX (Vi J r A g4 cd B) λF1 hF1=>?_
   obtain⟨v,⟨S,hrun⟩,u⟩:=hF1;have cd1:∀t,(F1 t).uses d=false:=u.clean g4 cd
   have hisz:i<listed.size:=ψ
   have hrd:W3 P TE ops i (eff none d v F1):=S i (by simp[hisz]) (by grind [bI]) hji1;refine⟨λp hp1 L hp3=>?_,ih (listed.setIfInBounds j true) F1 none v (ready_mono hr (Ne.symm n)) (a.us W q hall u) (E.put hj) ?_ (λ_=>rfl) (by grind [Array.setIfInBounds_comm])⟩
   ·have hpi:p≠i:=ψ
    have hpl:p<ops.size:=by
     rcases Nat.lt_or_ge p ops.size with h|h
     ·exact h
     rw[show dH ops p=default by simp[dH,ZC,Array.getElem?_eq_none h]]at L;cases L
    have h0:ops[p]? = some ops[p]:=ψ
    have U:=L;rw[bI h0]at U;refine Xg h0 (λhlk=>?_) cd1 (W.differ i p b _ d w U (Ne.symm hpi) D h0 c.dst) (S p (getD_set_true hp1) L hp3);have:=W.look i p b _ d w (Ne.symm hpi) D h0 c.dst hlk;exact unl f (E p _ h0 hp1 i this)
   obtain⟨dp,q1,q2,q3⟩:=hrd;rw[bI D]at q1 q2 q3;have hdp:dp=d:=by grind [Yl.dst]
   subst hdp;rw[nJ]at q3;obtain⟨M,e1,e2,e3⟩:=kQ q3;subst e1;have agr1:iL (eff none dp M F1) F1 (b.looksAt ops):=mu g6 cd1;have fromv:eG F1 (b.looksAt ops) M:=λe he=>by
    rcases e2 e he with h|⟨t,Y,h⟩
    all_goals grind [jd,cv]
   have Z:M.uses dp=false:=by
    cases hu:M.uses dp with
    | false=>rfl
    | true=>
     rcases fromv dp hu with h|⟨t,_,h⟩
     all_goals grind
   refine⟨c.dst,c.lt,Z,fromv,ψ,λF' hA O _ X hK=>?_⟩;have agr2:=agr1.trans hA;unfold m9;rw[yU agr2,q2];simp only;unfold iy gi
   grind [iL.mono,jd,Yl.lt,Hz,bV]
  rw[CJ G]at B |-;have hap:b.apart ops g=true:=by grind [Ws.apart]
  obtain⟨ap1,ap2,ap3⟩:=Oper.apart_spec hap;have hdl:d∉g.looksAt ops:=ap1 d c.dst;have cdj':∀o,g.dst=some o->∀t,(F t).uses o=false:=λo hdj=>a.dst j g o G q R hdj
  have cmv:∀s,l=some s->(∀t,(F t).uses s=false)/\s∉g.looksAt ops/\s∈b.looksAt ops:=λs hs=>by
   obtain⟨J,⟨T,r⟩,A⟩:=c.mvl s hs;exact⟨a.mv i b T s w D f J r A,λhl=>n ((gN A).2 i j b g D q (dl r) hl).symm,dl r⟩
  have cmvj:∀T s,g.guard=none->pw g.op=some (T,s)->ka ops g s=true->(∀t,(F t).uses s=false)/\s∉b.looksAt ops/\s∈g.looksAt ops:=λT s J r A=>
   ⟨a.mv j g T s G q R J r A,λhl=>n ((gN A).2 i j b g D q hl (dl r)).symm,dl r⟩
  have avno:∀e,e∉b.looksAt ops->(∀t,(F t).uses e=false)->av.uses e=false:=λe B h2=>by
   cases hu:av.uses e with
   | false=>rfl
   | true=>
    rcases c.from_ e hu with h|⟨t,_,h⟩
    all_goals grind
  obtain⟨mvj,o,avj,y,hKj⟩:=sf B (λo hdj t=>kT ψ (cdj' o hdj t)) (λT s J r A t=>by grind [kT]);have hdne:d≠o:=λe=>ap2 d c.dst (by rw[y.dst,e])
  have hdjl:o∉b.looksAt ops:=ap3 o y.dst;have cdj:∀t,(F t).uses o=false:=cdj' o y.dst
  have cmj:∀s,mvj=some s->(∀t,(F t).uses s=false)/\s∉b.looksAt ops/\s∈g.looksAt ops:=λs hs=>by
   obtain⟨J,⟨T,r⟩,A⟩:=y.mvl s hs
   grind
  have lookj:∀t,t∈g.looksAt ops->eff l d av F t=F t:=λt Y=>by grind [eff]
  have looki:∀t,t∈b.looksAt ops->eff mvj o avj F t=F t:=λt Y=>by grind [eff]
  have avjno:∀e,e∉g.looksAt ops->(∀t,(F t).uses e=false)->avj.uses e=false:=λe B h2=>by
   cases hu:avj.uses e with
   | false=>rfl
   | true=>
    rcases y.from_ e hu with h|⟨t,Y,h⟩
    all_goals grind
  have agrj:iL (eff l d av F) F (g.looksAt ops):=λt Y=>by grind [eff]
  refine y.at_ F agrj cdj ψ _ (ih (listed.setIfInBounds j true) (eff mvj o avj F) l av (ready_mono hr (Ne.symm n)) (a.put (λj' o' d' hm' V Q hl' O=>?_) (λj' o' T s hm' V Q hl' J r A=>?_)) (E.put hj) ?_ hnm ?_)
  ·refine avjno d' (λh=>?_) (a.dst j' o' d' hm' Q hl' O)
   grind [Ws.look]
  ·exact avjno s (λh=>V ((gN A).2 j' j o' g Q q (dl r) h)) (a.mv j' o' T s hm' Q hl' J r A)
  ·refine⟨c.dst,c.lt,c.self,λe he=>?_,c.mvl,λF' hA O hs' X hK=>c.at_ F' (λt Y=>?_) O hs' X hK⟩
   ·rcases c.from_ e he with h|⟨t,Y,h⟩
    all_goals grind
   obtain⟨a1,a2⟩:=hA t Y
   grind [eff]
  rw[Array.setIfInBounds_comm _ _ n];have:eff l d av (eff mvj o avj F)=eff mvj o avj (eff l d av F):=by grind [eff]
  grind
theorem Fc:∀{fl:List Nat}{X:Prop}{F:Nat->AV},Ul P TE ops fl X F->X/\∀p,p∈fl->W3 P TE ops p F
 | [],X,F,h=>⟨h,ψ⟩
 | p::l,X,F,h=>by
  simp only[Ul]at h;unfold Yi at h;cases b:(dH ops p).dst with
  | none=>grind
  | some d=>
   rw[b]at h;simp only at h;cases c:NZ F (dH ops p) with
   | some q=>grind
   | none=>
    rw[c]at h;simp only at h;obtain⟨f,g,-,-⟩:=kQ h;obtain⟨e,j,i⟩:=(show f=F d/\X/\∀p,p∈l->W3 P TE ops p F from⟨g.out.1,Fc g.out.2⟩)
    refine⟨j,λk a=>?_⟩;rcases List.mem_cons.1 a with rfl|a
    ·exact⟨d,b,c,iE h λf h=>h.out.1⟩
    grind
variable{l:List (Nat × List Nat)}
theorem wG : AE l i=true↔∃p,p∈l/\p.1=i:=by grind [O3,Nat.beq_refl,AE]
theorem se{k:Nat × List Nat} : AE (k::l) i=(Nat.beq k.1 i || AE l i):=rfl
theorem GY(b:Ws ops ds nm){K:(Nat->AV)->Prop} : ∀(l:List (Nat × List Nat))(listed:Array Bool)(F:Nat->AV),Jv ops ds l=true->listed.size=ops.size->(∀j,j<ops.size->listed.getD j true = !AE l j)->n8 ops ds F listed->DC ops listed->
  PW P TE N ops ds nm l K F->Ku P TE N ops ds K l.length listed F
 | [],listed,F,_,hs,E,_,_,c=>by
  refine⟨?_,c⟩;apply List.eq_nil_iff_forall_not_mem.2;intro j R;obtain⟨S,o,ho,-⟩:=mem_ready.1 R;have G:=(O6.1 ho).1;rw[E j G]at S;cases S
 | k::l,listed,F,A,hs,E,a,H,c=>by
  simp only[Jv,I0]at A;obtain⟨⟨⟨⟨q1,q2⟩,q3⟩,Z⟩,q5⟩:=A;have hk:k.1<ops.size:=by simp_all
  have r:ops[k.1]? = some ops[k.1]:=ψ
  have hrf:∀i,i<ops.size->listed.getD i true=true->listed.getD i false=true:=ψ
  have hready:k.1∈Region.ready .any ops listed:=mem_ready.2 ⟨by grind [se,Nat.beq_refl],_,r,λe he hb=>by
    have G:=b.back k.1 _ r e he hb
    grind [bI,se]⟩
  have B:∀j,j<ops.size->(listed.setIfInBounds k.1 true).getD j true = !AE l j:=λj R=>by
   by_cases w:j=k.1
   ·simp_all
   rw[getD_set_ne true (Ne.symm w),E j R,se,show Nat.beq k.1 j=false by rw[<-SA,Nat.beq_eq];exact Ne.symm w];rfl
  show Ku P TE N ops ds K (l.length+1) listed F;simp only[PW]at c;rw[bI r]at c Z;have U:listed.getD k.1 true=false:=(mem_ready.1 hready).1;cases f:sB ds ops[k.1] with
  | true=>
   rw[f]at c;simp only[cond_true]at c;obtain⟨mv,d,av,hy,c,hnm⟩:=Qf c (λd hd=>a.dst k.1 _ d f r U hd) (λT s g1 g2 g3=>a.mv k.1 _ T s f r U g1 g2 g3);have C:∀e∈ops[k.1].after,Region.binds .any e=true->listed.getD e.on false=true:=by grind [Go.mem_ready]
   refine MT b r f l.length listed F mv av hready a H hy hnm (GY b l _ _ q5 (by simpa using hs) B (a.put (λO Q V g D n hl'' J=>?_) (λO Q T s g D n hl'' g1 g2 g3=>?_)) (H.put hready) c)
   ·cases hu:av.uses V with
    | false=>rfl
    | true=>
     rcases hy.from_ V hu with h|⟨t,_,h⟩
     ·have:=b.look O k.1 Q _ V g D n r J h
      grind [cB]
     rw[a.dst O Q V g n hl'' J t]at h;cases h
   cases hu:av.uses s with
   | false=>rfl
   | true=>
    rcases hy.from_ s hu with h|⟨t,_,h⟩
    ·grind [gN,dl]
    rw[a.mv O Q T s g n hl'' g1 g2 g3 t]at h;cases h
  | false=>
   rw[f]at c Z;simp only[cond_false]at c;simp only[Bool.false_or,I0]at Z;obtain⟨⟨r1,r2⟩,r3⟩:=Z;refine⟨ψ,λj R=>?_⟩;obtain⟨hjun,oj,y,C⟩:=mem_ready.1 R;have hjlt:=(O6.1 y).1;have w:j=k.1:=by grind [wG,qW]
   subst w;rw[r]at y;simp only[O1]at y;subst y;unfold xN;rw[r];simp only[f,CI (show ¬false=true by decide)];have post:∀u,Ul P TE ops k.2 (PW P TE N ops ds nm l K u) u->n8 ops ds u (listed.setIfInBounds k.1 true)->(∀p,listed.getD p false=true->sB ds (dH ops p)=true->yA ops k.1 p=false->W3 P TE ops p u)/\Ku P TE N ops ds K l.length (listed.setIfInBounds k.1 true) u:=λu L W=>by
    obtain⟨X,hrd⟩:=Fc L;refine⟨λp hp1 hp2 hp3=>hrd p ?_,GY b l _ _ q5 (by simpa using hs) B W (H.put hready) X⟩;have hpl:p<ops.size:=ψ
    grind [ic,se,O3]
   cases hlater:l.any (λj=>sB ds (dH ops j.1)) with
   | false=>
    refine kX c λu L=>post u L ⟨λO Q V g n hl'' J=>?_,λO Q T s g n hl''=>?_⟩
    all_goals grind [wG,bI]
   | true=>
    rw[hlater]at r3;simp only[Bool.not_true,Bool.false_or,I0]at r3;obtain⟨x,hx1,q⟩:=O7.1 hlater;have Y:listed.getD x.1 true=false/\x.1<ops.size:=by
     have G:x.1<ops.size:=by
      rcases Nat.lt_or_ge x.1 ops.size with h|h
      ·exact h
      rw[show dH ops x.1=default by simp[dH,ZC,Array.getElem?_eq_none h]]at q;cases q
     grind [wG]
    have M:ops[x.1]? = some ops[x.1]:=ψ
    rw[bI M]at q;obtain⟨d,hd,hdd⟩:=Pv q;have hxk:x.1≠k.1:=ψ
    refine kX (V8 (d:=d) (B3 r3.1) r3.2 (λe=>?_) (λhlk=>?_) (a.dst x.1 _ d q M Y.1 hd) c) λu S=>post u S.1 (a.us b r C S.2)
    ·grind [sB]
    have:=b.look x.1 k.1 _ _ d q hxk M r hd hlk
    grind [cB]
theorem HH{sch:List (Nat × List Nat)}(h:GH ops ds sch=true):Ws ops ds (Yo sch)/\Jv ops ds sch=true/\sch.length=ops.size/\∀j,j<ops.size->AE sch j=true:=by
 unfold GH at h;simp only[I0]at h;obtain⟨⟨p,k⟩,l⟩:=h;have C:=λj (o:j<ops.size)=>ic p o
 have r:∀(i j:Nat)(c b:Oper),i≠j->ops[i]? = some c->ops[j]? = some b->Fg ops ds (Yo sch) i j=true:=λi j c b a f g=>by grind [ic,Nat.beq_eq]
 refine⟨⟨λj b o e t u=>?_,λi j c b n q a f g=>?_,λi j c b d n a f g w D=>?_,λi j c b d n q a f g w t=>?_,λi j c b n q a f g=>?_,λj b T s n o y A=>?_⟩,l,O3 k,λj o=>?_⟩
 ·grind [bI,Nat.blt_eq]
 ·grind [bI,Fg]
 ·have:=r i j c b a f g
  unfold Fg at this;rw[bI f,bI g,n]at this;have B:xe ops i j=true:=by grind [bI,Nat.beq_refl,xe]
  grind
 ·grind [bI,Nat.beq_refl,Fg]
 all_goals grind [bI,Fg]
theorem wx{l:List Nat} : G6 l j=true↔j∈l:=by grind [O3,Nat.beq_refl,G6]
def KQ{p:Nat->Prop} : ∀{l:List Nat}{i:Nat},Yw p i l->∀j,j∈i::l->p j
 | [],i,h,j,a=>by rw[I2.1 a];exact h
 | k::l,i,h,j,a=>by
  rcases List.mem_cons.1 a with rfl|a
  ·exact h.1
  exact KQ h.2 j a
theorem JC{l:List Nat}{K:Prop}{p:Nat->Prop}(h:YC l K p):(l=[]->K)/\∀j∈l,p j:=by
 cases l with
 | nil=>exact⟨λ_=>h,ψ⟩
 | cons i l=>exact⟨ψ,KQ h⟩
theorem tU{done:List Nat}(h:listed.size=ops.size)(b:∀j,j<ops.size->listed.getD j true=G6 done j)(l:∀k∈done,k<ops.size) : j∈Region.ready .any ops listed↔j∈Ug ops done:=by
 have c:∀i,listed.getD i false=G6 done i:=λi=>by grind [wx]
 rw[mem_ready];unfold Ug;rw[S8,List.mem_range,I0];constructor
 ·grind [bI]
 rintro⟨a,n,d⟩
 refine⟨ψ,ops[j],OC a,λe f g=>?_⟩;have:=S7.1 d e (by rw[bI (OC a)];simpa using f)
 grind
theorem Wc{K:(Nat->AV)->Prop} : ∀(n:Nat)(done:List Nat)(listed:Array Bool)(F:Nat->AV),listed.size=ops.size->(∀j,j<ops.size->listed.getD j true=G6 done j)->(∀k∈done,k<ops.size)->Xy P TE N ops K n done F->Ku P TE N ops [] K n listed F
 | 0,done,listed,F,c,a,f,h=>by
  obtain⟨g,l⟩:=JC h;have o:Ug ops done=[]:=List.eq_nil_iff_forall_not_mem.2 λj b=>l j b
  exact⟨List.eq_nil_iff_forall_not_mem.2 λj b=>(by grind [tU]),g o⟩
 | n+1,done,listed,F,c,a,f,h=>by
  obtain⟨g,l⟩:=JC h;refine⟨λo=>g (List.eq_nil_iff_forall_not_mem.2 λj b=>(by rw[<-tU c a f,o]at b;cases b)),λi t=>?_⟩;have d:=(tU c a f).1 t;have q:=l i d;have u:i<ops.size:=List.mem_range.1 (S8.1 d).1;have r:ops[i]? = some ops[i]:=ψ
  unfold xN;rw[r];simp only;rw[bI r]at q;have w:sB [] ops[i]=false:=by grind [sB]
  rw[CI (by rw[w];decide)];refine kX q λy A=>⟨λp _ B=>?_,Wc n (i::done) _ y (by simpa using c) (λj b=>?_) (λk C=>?_) A⟩
  ·grind [sB]
  ·by_cases e:j=i
   ·subst e
    rw[show G6 (j::done) j=true from wx.2 ψ];simp[c,b]
   rw[getD_set_ne true (Ne.symm e),a j b]
   grind [wx]
  grind
theorem BJ(g:∀t i,TE t=some i->ix P t i)(y:P.follows .mixedOrders=true){id:Nat}{tb:List (Nat × Nat × List Nat)}(b:oU tb id ops=true)(c:DD P TE N tb id ops K F)(A:St w0 M S0 N F a w)(B:∀F' C D,K F'->St w0 M S0 N F' C D->Q .normal C D):(Code.region id ops true).wp P Q a w:=by
 unfold oU at b;unfold DD at c;cases q:zE tb id with
 | none=>grind
 | some p=>
  obtain⟨m,L⟩:=p;rw[q]at b c;simp only at b c;cases k:Nat.ble 65536 m with
  | true=>
   rw[k]at c;refine wp_region_any y ?_;have f:St w0 M S0 N F a {w with drawn:=w.drawn+1}:=by
    obtain⟨S,φ,h⟩:=A;exact⟨S,φ,h.more (w1:={w with drawn:=w.drawn+1}) (λ_ _ h=>h) ψ ⟨rfl,rfl,rfl,O5 _,λ_ _ _=>rfl,λ_ _ _ _=>rfl,λ_ _ _ _=>rfl⟩⟩
   refine tV g (ds:=[]) B ops.size (Array.replicate ops.size false) _ a _ ?_ f;exact Wc ops.size [] _ F (by simp) (λj n=>by simp[n,G6]) ψ c
  | false=>
  rw[k]at b c;simp only[cond_false]at b c;cases r:Nat.ble 256 m with
  | false=>
   grind [GC]
  | true=>
   rw[r]at b c;simp only[cond_true,Nv]at b c;generalize L.take (m - 256)=ds at b c;generalize dec (L.drop (m - 256))=sch at b c;obtain⟨E,l,e,G⟩:=HH b;refine wp_region_any y ?_;have f:St w0 M S0 N (Ab.clr ds F) a {w with drawn:=w.drawn+1}:=by
    have O:=A.clr ds;obtain⟨S,φ,h⟩:=O;exact⟨S,φ,h.more (w1:={w with drawn:=w.drawn+1}) (λ_ _ h=>h) ψ ⟨rfl,rfl,rfl,O5 _,λ_ _ _=>rfl,λ_ _ _ _=>rfl,λ_ _ _ _=>rfl⟩⟩
   refine tV g (ds:=ds) B ops.size (Array.replicate ops.size false) _ a _ ?_ f;have u:∀d,ds.any (Nat.beq d)=true->∀t,(Ab.clr ds F t).uses d=false:=λd R t=>by
    rw[FL];cases X:ds.any (λd=>(F t).uses d) with
    | true=>rfl
    | false=>
     simp_all
   rw[<-e];refine GY E sch _ _ l (by simp[e]) (λj n=>by simp_all) ⟨λj o d H J _ R t=>?_,λj o T s H J _ _ U V t=>u s (E.mvs j o T s H J U V) t⟩ (λj Y n Z=>by
     have W:=(O6.1 n).1
     simp_all) c
   grind [Pv]
end
def gT:List (Option Nat)->Kd
 | [ag]=>kZ ag
 | a=>.tup a
def tH:ResultVar->Nat
 | .tmp t=>t
 | .cell t _=>t
def Fn(tmps:Array Value):ResultVar->Sem Value
 | .tmp t=>pure (tmps.getD t undef)
 | .cell a t=>do loadVar t (<-asAddr (tmps.getD a undef))
def resOne(TE:Nat->Option TI)(F:Nat->AV)(r:ResultVar)(K:Option Nat->List C->Prop):Prop:=
 match r with
 | .tmp t=>(match F t with
   | .Y .one cs=>K none cs
   | .Y .agg cs=>K (some cs.length) cs
   | _=>False)
 | .cell t T=>match TE T with
  | some i=>bif i.agg || Nat.beq i.size 1 then(match F t with
    | .Y .box cs=>bif Nat.beq cs.length i.size then K (sD i) cs else False
    | _=>False) else False
  | none=>False
def resA(TE:Nat->Option TI)(F:Nat->AV):List ResultVar->List Nat->(List (Option Nat)->List C->Prop)->Prop
 | [],_,K=>K [] []
 | r::rs,seen,K=>bif seen.any (Nat.beq (tH r)) then False else resOne TE F r λb c=>resA TE F rs (tH r::seen) λd a=>K (b::d) (c++a)
def YG:RA->AV
 | .val a cs=>.Y (kZ a) cs
 | .ptr cs=>.iref cs 0
 | .fn Ok=>.fv Ok
def Hp:Nat->List RA->List (Nat × AV)
 | _,[]=>[]
 | i,A::As=>(i,YG A)::Hp (i+1) As
inductive QY:C->C->Prop
 |rfl_ (c:C):QY c c
 |z_:QY .z (.s .own [])
 |own_ (rows rows':List (List C)) (hl:rows.length=rows'.length) (hk:∀(i:Nat)(r r':List C),rows[i]? = some r->rows'[i]? = some r'->r.length=r'.length)
   (hr:∀(i j:Nat)(r r':List C)(c c':C),rows[i]? = some r->rows'[i]? = some r'->r[j]? = some c->r'[j]? = some c'->QY c c'):QY (.s .own rows) (.s .own rows')
def TL(cs a:List C):Prop:=cs.length=a.length/\∀(j:Nat)(c b:C),cs[j]? = some c->a[j]? = some b->QY c b
def TL.nil:TL [] []:=⟨rfl,λj c a h=>by simp at h⟩
variable{cs a:List C}
theorem TL.cons{c b:C}(h:QY c b)(d:TL cs a):TL (c::cs) (b::a):=by
 refine⟨by simp[d.1],λj y e f g=>?_⟩;cases j with
 | zero=>grind
 | succ j=>exact d.2 j y e (by simpa using f) (by simpa using g)
def QY.rep{r r':List C}(h:TL r r'):QY (.s .own (List.replicate n r)) (.s .own (List.replicate n r')):=by
 refine .own_ _ _ (by simp) (λi a b d e=>?_) (λi j a b c o d e k l=>?_)
 ·have f:=List.mem_replicate.1 (I3 d)
  have g:=List.mem_replicate.1 (I3 e);rw[f.2,g.2];exact h.1
 have f:=List.mem_replicate.1 (I3 d);have g:=List.mem_replicate.1 (I3 e);rw[f.2]at k;rw[g.2]at l;exact h.2 j c o k l
theorem UI{w:World}{S Y:af}{c:C}{v:Value}(h:cU w S Y c v):∀q,QY c q->cU w S Y q v:=by
 induction h with
 | z F a=>
  intro q hd;cases hd with
  | rfl_=>exact .z _ _
  | z_=>exact .nil _ _ _ tV1
 | nil F o a H=>
  intro q hd;cases hd with
  | rfl_=>exact .nil _ _ _ H
  | own_ d j K=>obtain rfl:j=[]:=IE (by simpa using K.symm);exact .nil _ _ _ tV1
 | suf F o g B k n p d u f H J L e y N O hd D T=>
  intro q E;cases E with
  | rfl_=>exact .suf _ o g B k n p d u f H J L e y N O hd D
  | own_=>exact H.elim
 | own F o g k n p d u f H J L e A y N O hd D T=>
  intro q E;cases E with
  | rfl_=>exact .own _ o g k n p d u f H J L e A y N O hd D
  | own_ d j K X U=>
   have V:∀(i:Nat)(W:List C),j[i]? = some W->∃r,d[i]? = some r:=ψ
   refine .own _ .own g k n p j u f tV1 (K.symm.trans J) (λW Z=>?_) e A y N O hd ψ
   all_goals grind [List.mem_iff_getElem?]
 | v F x P=>intro q hd;cases hd;exact .v _ _ P
 | x F u P=>intro q hd;cases hd;exact .x _ _ P
 | hd F a n c=>intro q hd;cases hd;exact .hd _ a n c
 | R F g B k n p d u J L e hS D T=>intro q hd;cases hd;exact .R _ g B k n p d u J L e hS D
 | m F b l es t y Q he R G=>intro q hd;cases hd;exact .m _ b l es t y Q he R G
 | it F r b since c0 l seen t cur left y U Q G D R K M=>intro q hd;cases hd;exact .it _ r b since c0 l seen t cur left y U Q G D R K M
def WK(cs a:List C):Prop:=Qd cs a\/TL cs a
inductive cF(k k':Kd)(cs cs':List C):Prop
 |mk_ (h:k=k'/\WK cs cs')
def kS:∀(cs:List C),Qd cs cs
 | []=>trivial
 | c::cs=>by
  refine⟨?_,kS cs⟩;cases c with
  | s o a=>cases o<;>rfl
  | x=>trivial
  | _=>rfl
variable{k b:Kd}
def cF.mk(h1:k=b)(h2:cs=a):cF k b cs a:=by refine .mk_ ?_;exact⟨h1,.inl (h2 ▸ kS cs)⟩
def cF.wk(h1:k=b)(h2:Qd cs a):cF k b cs a:=.mk_ ⟨h1,.inl h2⟩
def CU:type_of% @cF.wk:=@cF.wk
def cF.dk(h1:k=b)(h2:TL cs a):cF k b cs a:=.mk_ ⟨h1,.inr h2⟩
def cF.out(h:cF k b cs a):k=b/\WK cs a:=by obtain⟨h⟩:=h;exact h
theorem WK.len(h:WK cs a):cs.length=a.length:=h.elim (λh=>(vA h).1) (λh=>h.1)
theorem WK.row{w:World}{S Y:af}{c:List C}{u:Nat->Value}(a:WK cs c)(h:cw w S Y cs u):cw w S Y c u:=by
 rcases a with a|a
 ·exact H0 a h
 obtain⟨f,k,l,n⟩:=h;refine⟨f,λj i b=>?_,λj b=>l j (by rw[a.1];exact b),λj o b e=>n j o (by rw[a.1];exact b) (by rw[a.1];exact e)⟩;have g:=(C4.1 b).1;have d:cs[j]? = some (cs[j]'(by rw[a.1];exact g)):=ψ
 exact UI (k j _ d) i (a.2 j _ i d b)
def UV(TE:Nat->Option TI)(rs:List ResultVar)(k:Kd)(rcs:List C):Exit->(Nat->AV)->Prop:=λe F=>
 match e with
 | .normal=>resA TE F rs [] λa b=>cF (gT a) k b rcs
 | .ret=>resA TE F rs [] λa b=>cF (gT a) k b rcs
 | _=>False
section
variable{P:Program}{w0 w w1:World}{M S0 S:af}{N:fF}{φ:Nat->af}{F:Nat->AV}{a:Act}{TE:Nat->Option TI}
theorem bj.resOne(h:bj w0 M S0 N S φ F a w)(n:∀t i,TE t=some i->ix P t i){r:ResultVar}{K:Option Nat->List C->Prop}(b:resOne TE F r K) :
  ∃ag cs v,K ag cs/\bm w S (φ (tH r)) ag cs v/\(Fn a.tmps r).run P w=.ok v w:=by
 cases r with
 | tmp t=>
  have e:=h.slot t;simp only[Ab.resOne]at b;cases p:F t with
  | Y k cs=>
   rw[p]at b e;obtain⟨E,Y,G,j,H,A,l⟩:=e;cases k with
   | one=>exact⟨none,cs,tvs a t,b,⟨A,_,rfl,l.mono (λ_ _ h=>h) j⟩,rfl⟩
   | agg=>
    obtain⟨arr,q,u⟩:=A;refine⟨some cs.length,cs,tvs a t,b,⟨rfl,co w .agg (tvs a t),?_,l.mono (λ_ _ h=>h) j⟩,rfl⟩;rw[q];have:=pR arr;rw[u]at this;exact this
   | _=>exact b.elim
  | _=>grind
 | cell t T=>
  have e:=h.slot t;simp only[Ab.resOne]at b;split at b
  case h_2=>exact b.elim
  rename_i i J;have L:=n _ _ J;cases B:(i.agg || Nat.beq i.size 1) with
  | false=>grind
  | true=>
   rw[B]at b;simp only[cond_true]at b;cases p:F t with
   | Y k cs=>
    rw[p]at b e;cases k with
    | box=>
     simp only at b;cases D:Nat.beq cs.length i.size with
     | false=>grind
     | true=>
      rw[D]at b;have O:=O3 D;obtain⟨E,Y,G,j,H,⟨g,o,q,Q⟩,l⟩:=e;have c:∀d,d<i.size->cel w g (o+d)=some (co w .box (tvs a t) d):=λd R=>by grind [co]
      have f:=B1 (w:=w) L B c;refine⟨_,cs,_,b,⟨by grind [qZ],_,rfl,l.mono (λ_ _ h=>h) j⟩,?_⟩;have y:a.tmps.getD t undef=.pointer (some ⟨g,o,none⟩):=q;simp only[Fn,y,asAddr];exact f
    | _=>exact b.elim
   | _=>grind
def Mq{ag:Option Nat}{cs:List C}{v:Value}{Y:af}(h:bm w S Y ag cs v):∃u,v.cells.toList=(List.range cs.length).map u/\cw w S Y cs u/\v=mkv ag u:=by
 obtain⟨a,u,rfl,b⟩:=h;refine⟨u,?_,b,rfl⟩;rw[rV (λe=>by subst e;exact b.one (by simp at a;omega)),a]
theorem zU{d e:af}{cs a:List C}{u g:Nat->Value}(h:cw w S d cs u)(h':cw w S e a g)(p:∀b o,d b o->¬e b o) :
  cw w S (λb o=>d b o\/e b o) (cs++a) (λj=>if j<cs.length then u j else g (j - cs.length)):=by
 obtain⟨f,q,r,t⟩:=h;obtain⟨i,k,l,n⟩:=h';refine⟨λj=>if j<cs.length then f j else i (j - cs.length),λj c y=>?_,ψ,ψ⟩
 all_goals grind
theorem bj.resA(h:bj w0 M S0 N S φ F a w)(e:∀t i,TE t=some i->ix P t i):∀{rs:List ResultVar}{seen:List Nat}{K:List (Option Nat)->List C->Prop},resA TE F rs seen K->
  ∃sh cs vs u,K sh cs/\(rs.mapM (Fn a.tmps)).run P w=.ok vs w/\yd sh vs/\sh.length=rs.length/\uN sh=cs.length/\
   (vs.flatMap λv=>v.cells.toList)=(List.range cs.length).map u/\(∀ag,sh=[ag]->∃v,vs=[v]/\bm w S (λb o=>∃t,t∉seen/\φ t b o) ag cs v)/\cw w S (λb o=>∃t,t∉seen/\φ t b o) cs u
 | [],seen,K,c=>⟨[],[],[],λ_=>undef,c,rfl,tV1,rfl,rfl,rfl,ψ,cw.nil _ _ _ _⟩
 | r::rs,seen,K,c=>by
  simp only[Ab.resA]at c;cases d:seen.any (Nat.beq (tH r)) with
  | true=>grind
  | false=>
   rw[d]at c;simp only[cond_false]at c;have J:tH r∉seen:=λX=>by grind [Nat.beq_refl]
   obtain⟨ag,cs,v,c,p,E⟩:=h.resOne e c;obtain⟨sh,f,vs,L,O,q,y,A,Q,hcells,-,g⟩:=bj.resA h e c;obtain⟨u,B,G,k⟩:=Mq p;have R:∀b o,φ (tH r) b o->¬∃t,t∉tH r::seen/\φ t b o:=λb o T ⟨t,Y,D⟩=>h.dis _ _ ψ b o T D
   refine⟨ag::sh,cs++f,v::vs,λj=>if j<cs.length then u j else L (j - cs.length),O,?_,?_,by simp[A],?_,?_,?_,?_⟩
   ·simp_all
   ·obtain⟨U,-⟩:=p
    cases ag with
    | none=>
     refine⟨?_,y⟩;rw[k];have H:(u 0).oneCell'=true:=G.one (by simp at U;omega);show(u 0).cells = #[u 0];cases V:u 0<;>first|(rw[V]at H;cases H;done)|rfl
    | some n=>exact⟨⟨_,by rw[k];rfl,by simp⟩,y⟩
   ·rw[tL,C6,Q,p.1]
   ·simp only[CD,B,hcells,C6]
    apply List.ext_getElem?
    grind
   ·intro W l
    simp only[List.cons.injEq]at l;obtain⟨rfl,rfl⟩:=l;cases vs with
    | cons _ _=>exact y.elim
    | nil=>
     have:f=[]:=IE (by simp_all);subst this;exact⟨v,rfl,by rw[List.append_nil];exact p.mono (λ_ _ h=>h) ψ⟩
   exact(zU G g R).mono (λ_ _ h=>h) ψ
theorem FH:∀{A:List RA}{vs:List Value}(i:Nat),Aq w S A vs->∀t,(lay (Hp i A) t=.dead)\/(∃a v,i<=t/\vs[t - i]? = some v/\lay (Hp i A) t=YG a/\qv w S a v)
 | [],_,i,_,t=>.inl rfl
 | a::A,[],i,h,t=>h.elim
 | a::A,v::vs,i,h,t=>by
  simp only[Hp,lay];cases b:Nat.beq t i with
  | true=>
   have:=O3 b;subst this;exact .inr ⟨a,v,O5 _,by simp,rfl,h.1⟩
  | false=>
   have c:t≠i:=λe=>by simp_all
   rcases FH (i+1) h.2 t with d|⟨f,g,d,j,k⟩
   all_goals grind
theorem qv.slot{A:RA}{v:Value}(h:qv w S A v){tv:Nat->Value} : cP w S F tv NO (YG A) v:=by
 cases A with
 | val f a=>exact bm.slot h
 | ptr a=>obtain⟨g,b,u,c,d,e⟩:=h;exact⟨g,b,u,by rw[c,Nat.add_zero],d,e⟩
 | fn Ok=>exact h
def Pp:∀{A:List RA}{vs:List Value},Aq w S A vs->A.length=vs.length
 | [],[],_=>rfl
 | _::_,_::_,h=>by simp[Pp h.2]
 | [],_::_,h=>h.elim
 | _::_,[],h=>h.elim
theorem Qx{D : Nat -> Array Oper -> ((Nat -> AV) -> Prop) -> (Nat -> AV) -> Prop}{f : Nat}{d : Func}{c : Code}{sh : Bool}{A : List RA}{k : Kd}{rcs : List C}(K : ∀t i, TE t = some i -> ix P t i)(hf : P.funcs[f]? = some d)(hn : (d.name == "runtime.NumGoroutine") = false)(p:d.body=some c){ck:Nat->Array Oper->Bool}(hD:Di P N ck D)(hc:gU ck c=true)(hN:A.length+(d.ntmps - A.length)=N.n)(hkp:N.kp=[])(U:sh=true\/fy rcs)(hp:aw P TE N D c (UV TE d.results.toList k rcs) (lay (Hp 0 A))):am P f sh A k rcs:=by
 refine⟨⟨d,hf,hn,by rw[p];rfl⟩,λw S r hS hA=>?_⟩;have hlen:=Pp hA;refine calls_of_wp hf p ?_;have V:St w NO S N (lay (Hp 0 A)) {tmps:=r.toArray++Array.replicate (d.ntmps - r.toArray.size) undef,defers:=[]} w:=by
  refine⟨S,λ_=>NO,λt=>?_,λ_ _ _ _ _ h=>h.elim,λ_ _ _ h=>h.elim,λ_ _ _ h=>h.elim,λ_ _ h=>h,ψ,Cj _ _,by simp;omega,rfl,ψ⟩;rcases FH 0 hA t with y|⟨A0,v,-,B,G,h4⟩
  ·rw[y];trivial
  rw[G];have hv:tvs {tmps:=r.toArray++Array.replicate (d.ntmps - r.toArray.size) undef,defers:=[]} t=v:=by
   have hlt:=(C4.1 B).1;simp only[tvs,ZC]
   grind
  grind [qv.slot]
 refine jE K hD c hc _ _ _ _ w hp V λe F' J g W Z=>?_
 obtain⟨S',φ',h⟩:=Z;have fin:resA TE F' d.results.toList [] (λsh L=>cF (gT sh) k L rcs)->J.defers=[]/\∃v,(results d J.tmps).run P g=.ok v g/\(∃v',Ending.returned v=.returned v'/\bu NO w g/\∃X S1:af,(∀b o,X b o->b<g.heap.size/\w.heap.size<=b)/\
     (∀b o,S1 b o->(sh=true/\S b o)\/(b<g.heap.size/\w.heap.size<=b))/\(∀b o,X b o->¬S1 b o)/\fZ g NO k rcs.length v'/\cw g S1 X rcs (co g k v')):=by
  intro hr;obtain⟨shs,L,a,u,M,hrun,q,hln,R,hcells,l,O⟩:=h.resA K hr;obtain⟨rfl,hwk⟩:=M.out;refine⟨h.defers,?_⟩;have H:(results d J.tmps).run P g=.ok (if h:a.toArray.size=1 then a.toArray[0] else .tuple a.toArray) g:=by
   have e:results d J.tmps=(do let r <-d.results.mapM (Fn J.tmps);pure (if h:r.size=1 then r[0] else .tuple r)):=by
    unfold results
    congr 1
   rw[e,<-Array.toArray_toList (xs:=d.results),List.mapM_toArray]
   simp_all
  refine⟨_,H,_,rfl,h.old,λb o=>∃t,φ' t b o,λb o=>(sh=true/\S' b o)\/(S' b o/\w.heap.size<=b),λb o ⟨t,p⟩=>⟨(h.ex t b o p).1,(h.ex t b o p).2.resolve_right (λh=>h)⟩,λb o p=>?_,λb o ⟨t,p⟩ hb'=>h.disS t b o p ψ,?_⟩
  ·rcases p with⟨y,B⟩|⟨y,B⟩
   ·rcases(h.sup b o B).2 with G|G|G
    ·grind
    ·exact .inr ⟨(h.sup b o B).1,G⟩
    exact G.elim
   exact .inr ⟨(h.sup b o y).1,B⟩
  have Q:fZ g NO (gT shs) L.length (if h:a.toArray.size=1 then a.toArray[0] else .tuple a.toArray)/\cw g S' (λb o=>∃t,φ' t b o) L (co g (gT shs) (if h:a.toArray.size=1 then a.toArray[0] else .tuple a.toArray)):=by
   have E:∀b o,(∃t,t∉([]:List Nat)/\φ' t b o)->∃t,φ' t b o:=ψ
   match shs,q,l,R with
   | [],q,_,R=>
    cases a with
    | cons _ _=>exact q.elim
    | nil=>
     have:L=[]:=ψ
     subst this;exact⟨⟨_,rfl,tV1,rfl⟩,cw.nil _ _ _ _⟩
   | [T],_,l,_=>
    obtain⟨v,rfl,hv⟩:=l T rfl;have:=(hv.mono (λ_ _ h=>h) E).slot (F:=F') (tv:=tvs J);obtain⟨X1,Y,y,B,G,h4,h5⟩:=this;refine⟨?_,h5.mono (λ_ _ h=>h) B⟩;cases T<;>exact h4
   | T::ag2::sh,q,_,R=>
    have hsz:¬a.toArray.size=1:=by
     match a,q with
     | [],q=>simp
     | [v],q=>cases T<;>cases ag2<;>exact q.2.elim
     | _::_::_,_=>simp
    rw[dif_neg hsz];refine⟨⟨_,rfl,q,R⟩,(O.mono (λ_ _ h=>h) E).congr λj hj=>?_⟩;simp only[co,gT,j8,hcells];simp[List.getD,hj]
  replace Q:=CQ Q.1 (hwk.row Q.2);refine⟨by grind [WK.len],?_⟩;rcases U with y|y
  ·exact Q.2.mono ψ (λ_ _ h=>h)
  exact(Q.2.fresh y).mono (λ_ _ h=>h.elim) (λ_ _ h=>h)
 cases e with
 | normal=>exact fin W
 | ret=>exact fin W
 | _=>exact W.elim
end
def DF(P:Program)(TE:Nat->Option TI)(N:fF)(tb:List (Nat × Nat × List Nat))(id:Nat)(ops:Array Oper)(K:(Nat->AV)->Prop)(F:Nat->AV):Prop:=
 match zE tb (id+1048576) with
 | some (t,offs)=>vT t offs (DD P TE N tb id ops K) F
 | none=>DD P TE N tb id ops K F
variable{P:Program}
def tw{TE:Nat->Option TI}(a:∀t i,TE t=some i->ix P t i)(e:P.follows .mixedOrders=true)(N:fF)(tb:List (Nat × Nat × List Nat)):Di P N (oU tb) (DF P TE N tb):=
 λ_ _ b _ _ _ _ _ _ _ _ c f g=>by
  unfold DF at c;split at c
  ·obtain⟨j,h,d⟩:=B7 c f
   exact BJ a e b h d g
  exact BJ a e b c f g
def zI:C:=.v (.int .i64 0)
def P2:List (Nat × Nat × TI)->Nat->Option TI
 | [],_=>none
 | p::l,t=>bif Nat.beq t p.1 || Nat.beq t p.2.1 then some p.2.2 else P2 l t
def W7(P:Program):List (Nat × Nat × TI)->Prop
 | []=>True
 | p::l=>(ix P p.1 p.2.2/\ix P p.2.1 p.2.2)/\W7 P l
def Jn{P:Program} : ∀{l:List (Nat × Nat × TI)},W7 P l->∀t i,P2 l t=some i->ix P t i
 | [],_,t,i,h=>by cases h
 | p::l,b,t,i,h=>by
  simp only[P2]at h;cases a:(Nat.beq t p.1 || Nat.beq t p.2.1) with
  | true=>
   rw[a]at h;simp only[cond_true,O1]at h;subst h;simp only[IC]at a;rcases a with e|e
   ·rw[O3 e];exact b.1.1
   rw[O3 e];exact b.1.2
  | false=>rw[a]at h;exact Jn b.2 t i h
def Y8:TypeDesc->Prop
 | .struct _=>False
 | .array _ _=>False
 | _=>True
def Zf:TypeDesc->Option (List (Nat × Nat))
 | .struct fs=>some (fs.toList.map (λf=>(f.offset,f.type)))
 | _=>none
section
variable{P:Program}{t e:Nat}{i:TI}
def YY{d:TypeDesc}(k:i.kind=.sc d:=by rfl)(h:P.underlying t=some d:=by kernel_rfl)(a:(P.info? t).map (λx=>(x.zero.map (·.cells.toList),x.size,x.bytes))=some (some (i.zero.map cval),i.size,i.bytes):=by kernel_rfl)(z:lG i.zero:=by repeat' first|exact tV1|refine CQ rfl ?_)(n:Y8 d:=by trivial):ix P t i:=⟨a,z,by rw[k];refine⟨h,?_⟩;revert n;cases d<;>exact id⟩
def Zc(k:i.kind=.sl e:=by rfl)(h:P.underlying t=some (.slice e):=by kernel_rfl)(a:(P.info? t).map (λx=>(x.zero.map (·.cells.toList),x.size,x.bytes))=some (some (i.zero.map cval),i.size,i.bytes):=by kernel_rfl)(z:lG i.zero:=by repeat' first|exact tV1|refine CQ rfl ?_):ix P t i:=⟨a,z,by rw[k];exact h⟩
def Zd{f:List (Nat × Nat)}(k:i.kind=.st f:=by rfl)(h:(P.underlying t).bind Zf=some f:=by kernel_rfl)(a:(P.info? t).map (λx=>(x.zero.map (·.cells.toList),x.size,x.bytes))=some (some (i.zero.map cval),i.size,i.bytes):=by kernel_rfl)(z:lG i.zero:=by repeat' first|exact tV1|refine CQ rfl ?_):ix P t i:=⟨a,z,by
  rw[k];obtain⟨d,b,c⟩:=Option.bind_eq_some_iff.1 h;cases d<;>cases c
  exact⟨_,b,rfl⟩⟩
def YX{v:Value}(k:i.kind=.mp 3 e v:=by rfl)(h:P.underlying t=some (.map 3 e):=by kernel_rfl)(d:P.underlying 3=some (.int .i64):=by kernel_rfl)(a:(P.info? t).map (λx=>(x.zero.map (·.cells.toList),x.size,x.bytes))=some (some (i.zero.map cval),i.size,i.bytes):=by kernel_rfl)(z:lG i.zero:=by repeat' first|exact tV1|refine CQ rfl ?_)(b:(P.info? e).bind (·.zero)=some v:=by kernel_rfl)(c:v.oneCell'=true:=by rfl):ix P t i:=⟨a,z,by rw[k];exact⟨h,d,b,c⟩⟩
end
def tab:List (Nat × Nat × TI):=[(3,2,⟨1,8,[zI],.sc (.int .i64)⟩),(4,4,⟨1,1,[.v (.bool false)],.sc .bool⟩),(5,6,⟨1,1,[.v (.int .u8 0)],.sc (.int .u8)⟩),(7,8,⟨4,24,[zI,zI,.v (.bool false),.v (.int .u8 0)],.st [(0,2),(1,3),(2,4),(3,6)]⟩),(9,10,⟨1,16,[.v (.string ⟨#[]⟩)],.sc .string⟩),(11,11,⟨1,16,[.v (.string ⟨#[]⟩)],.sc .string⟩),(12,150,⟨1,8,[.v (.int .u64 0)],.sc (.int .u64)⟩),(13,14,⟨2,24,[.v (.string ⟨#[]⟩),.v (.int .u64 0)],.st [(0,9),(1,12)]⟩),(21,396,⟨1,4,[.v (.int .i32 0)],.sc (.int .i32)⟩),(22,22,⟨1,24,[.z],.sl 3⟩),(23,24,⟨5,56,[zI,zI,zI,zI,.z],.st [(0,3),(1,3),(2,3),(3,3),(4,22)]⟩),(26,26,⟨1,24,[.z],.sl 82⟩),(28,28,⟨5,56,[zI,zI,zI,zI,.z],.st [(0,3),(1,3),(2,3),(3,3),(4,22)]⟩),(36,36,⟨1,24,[.z],.sl 88⟩),(39,39,⟨1,24,[.z],.sl 22⟩),(40,40,⟨1,24,[.z],.sl 4⟩),(41,42,⟨2,48,[.z,.z],.st [(0,39),(1,40)]⟩),(43,43,⟨1,24,[.z],.sl 142⟩),(44,45,⟨1,24,[.z],.st [(0,43)]⟩),(46,47,⟨3,72,[.z,.z,.z],.st [(0,42),(2,45)]⟩),(48,49,⟨5,104,[.z,.z,.z,zI,.z],.st [(0,47),(3,3),(4,22)]⟩),(50,50,⟨1,24,[.z],.sl 115⟩),(51,51,⟨1,24,[.z],.sl 175⟩),(52,52,⟨1,24,[.z],.sl 191⟩),(53,53,⟨1,24,[.z],.sl 99⟩),(54,54,⟨1,24,[.z],.sl 117⟩),(55,55,⟨1,24,[.z],.sl 195⟩),(56,57,⟨2,48,[.z,.z],.st [(0,55),(1,39)]⟩),(58,58,⟨1,24,[.z],.sl 137⟩),(59,60,⟨2,32,[zI,.z],.st [(0,3),(1,58)]⟩),(61,62,⟨3,40,[zI,zI,.z],.st [(0,3),(1,3),(2,22)]⟩),(63,64,⟨5,56,[zI,zI,.z,zI,zI],.st [(0,62),(3,3),(4,3)]⟩),(65,66,⟨24,400,[.z,.z,.z,zI,.z,.z,.z,.z,.z,.z,.z,.z,zI,.z,zI,zI,zI,zI,.v (.bool false),zI,zI,.z,zI,zI],.st [(0,49),(5,50),(6,51),(7,52),(8,53),(9,54),(10,57),(12,60),(14,3),(15,3),(16,3),(17,3),(18,4),(19,64)]⟩),(67,67,⟨1,24,[.z],.sl 158⟩),(68,69,⟨2,32,[zI,.z],.st [(0,3),(1,67)]⟩),(70,71,⟨26,432,[.z,.z,.z,zI,.z,.z,.z,.z,.z,.z,.z,.z,zI,.z,zI,zI,zI,zI,.v (.bool false),zI,zI,.z,zI,zI,zI,.z],.st [(0,66),(24,69)]⟩),(81,82,⟨3,24,[zI,zI,zI],.st [(0,3),(1,3),(2,3)]⟩),(84,84,⟨1,24,[.z],.sl 9⟩),(87,88,⟨5,40,[zI,zI,zI,zI,zI],.st [(0,3),(1,3),(2,3),(3,3),(4,3)]⟩),(98,99,⟨4,32,[zI,zI,zI,zI],.st [(0,3),(1,3),(2,3),(3,3)]⟩),(114,115,⟨2,16,[zI,zI],.st [(0,3),(1,3)]⟩),(116,117,⟨1,24,[.z],.st [(0,39)]⟩),(136,137,⟨3,24,[zI,zI,zI],.st [(0,3),(1,3),(2,3)]⟩),(141,142,⟨2,16,[zI,zI],.st [(0,3),(1,3)]⟩),(157,158,⟨2,32,[zI,.z],.st [(0,3),(1,22)]⟩),(169,169,⟨1,24,[.z],.sl 177⟩),(174,175,⟨3,24,[zI,zI,zI],.st [(0,3),(1,3),(2,3)]⟩),(176,177,⟨2,16,[zI,zI],.st [(0,3),(1,3)]⟩),(190,191,⟨3,24,[zI,zI,zI],.st [(0,3),(1,3),(2,3)]⟩),(195,195,⟨1,24,[.z],.sl 197⟩),(196,197,⟨2,16,[zI,zI],.st [(0,3),(1,3)]⟩),(201,202,⟨4,32,[zI,zI,zI,zI],.st [(0,3),(1,3),(2,3),(3,3)]⟩),(209,209,⟨1,24,[.z],.sl 213⟩),(224,224,⟨1,8,[.v (.map none)],.mp 3 4 (.bool false)⟩),(228,228,⟨1,8,[.v (.map none)],.mp 3 3 (.int .i64 0)⟩),(232,232,⟨1,8,[zI],.sc (.int .i64)⟩),(239,239,⟨1,4,[.v (.int .u32 0)],.sc (.int .u32)⟩),(241,299,⟨1,8,[.v (.int .u64 0)],.sc (.int .u64)⟩),(243,243,⟨1,24,[.z],.sl 5⟩),(367,368,⟨2,2,[.v (.int .u8 0),.v (.int .u8 0)],.st [(0,5),(1,5)]⟩),(389,390,⟨0,0,[],.st [(0,388)]⟩),(392,393,⟨1,1,[.v (.int .u8 0)],.sc (.int .u8)⟩),(397,397,⟨1,4,[.v (.int .i32 0)],.sc (.int .i32)⟩)]
set_option maxRecDepth 100000 in
def Xz:W7 Tryz.prog tab:=by repeat' first|exact tV1|refine CQ (CQ ?_ ?_) ?_|exact Zc|exact Zd|exact YY|exact YX
def TE:Nat->Option TI:=P2 tab
def qd:∀t i,TE t=some i->ix Tryz.prog t i:=Jn Xz
def Xj:C->Value->C
 | .s .own rows,v=>.s (.tag v) rows
 | .s .suf rows,v=>.s (.tagS v) rows
 | c,_=>c
def Eh(u:Nat->Value):Nat->List C->List C
 | _,[]=>[]
 | j,c::cs=>Xj c (u j)::Eh u (j+1) cs
def zi(u:Nat->Nat->Value):Nat->List MA->List (Nat × AV)
 | _,[]=>[]
 | i,.val a cs::A=>(i,.Y (kZ a) cs)::zi u (i+1) A
 | i,.mut a cs::A=>(i,.Y (kZ a) (Eh (u i) 0 cs))::zi u (i+1) A
 | i,.ptr cs::A=>(i,.Y .box cs)::zi u (i+1) A
def Nu(p:Nat->Value):Nat->List MA->List (Nat × Value)
 | _,[]=>[]
 | i,.ptr _::A=>(i,p i)::Nu p (i+1) A
 | i,_::A=>Nu p (i+1) A
def J6:Nat->List MA->List (Nat × Nat)->List (Option Nat)
 | i,.val _ _::A,_::pl=>none::J6 (i+1) A pl
 | i,.mut _ _::A,p::pl=>some p.1::J6 (i+1) A pl
 | i,.ptr _::A,_::pl=>some i::J6 (i+1) A pl
 | _,_,_=>[]
def M4:List (Option Nat)->Bool
 | []=>true
 | none::l=>M4 l
 | some t::l=>l.all (λx=>match x with|some a=>!Nat.beq t a|none=>true)&&M4 l
def sles:List (Option Nat)->List Nat
 | []=>[]
 | none::l=>sles l
 | some t::l=>t::sles l
def Yp(v:Value)(c y o:C):Prop:=
 match c with
 | .s .own _=>(match y with|.s (.tag v') rows=>v'=v/\o=.s .own rows|_=>False)
 | .s (.tag _) _=>False
 | .s .suf _=>(match y with|.s (.tagS v') rows=>v'=v/\o=.s .suf rows|_=>False)
 | .s (.tagS _) _=>False
 | .m _=>False
 | .it _ _=>False
 | c=>o=c
def Wy(u:Nat->Value):Nat->List C->List C->List C->Prop
 | _,[],_,o=>o=[]
 | j,c::cs,y::xs,o::os=>Yp (u j) c y o/\Wy u (j+1) cs xs os
 | _,_,_,_=>False
def jn(u:Nat->Nat->Value)(F:Nat->AV):Nat->List MA->List (Nat × Nat)->List MA->Prop
 | _,[],_,[]=>True
 | i,.val _ _::A,_::pl,.val _ _::B=>jn u F (i+1) A pl B
 | i,.mut ag cs::A,p::pl,.mut a out::B=>(a=ag/\match F p.1 with|.Y _ xs=>Wy (u i) 0 cs (xs.drop p.2) out|_=>False)/\jn u F (i+1) A pl B
 | i,.ptr _::A,_::pl,.ptr out::B=>(match F i with|.Y .box xs=>xs=out|_=>False)/\jn u F (i+1) A pl B
 | _,_,_,_=>False
inductive aY(k k':Kd)(cs cs':List C)(Q:Prop):Prop
 |mk_ (h:k=k'/\cs=cs'/\Q)
theorem aY.mk{Q:Prop}(h1:k=b)(h2:cs=a)(c:Q):aY k b cs a Q:=by refine .mk_ ?_;grind
def CM:type_of% @aY.mk:=@aY.mk
def aY.out{Q:Prop}(h:aY k b cs a Q):k=b/\cs=a/\Q:=by obtain⟨h⟩:=h;exact h
def WJ(TE:Nat->Option TI)(rs:List ResultVar)(k:Kd)(rcs:List C)(u:Nat->Nat->Value)(A B:List MA)(a:List (Nat × Nat)):Exit->(Nat->AV)->Prop:=λe F=>
 match e with
 | .normal=>resA TE F rs (sles (J6 0 A a)) λb c=>aY (gT b) k c rcs (jn u F 0 A a B)
 | .ret=>resA TE F rs (sles (J6 0 A a)) λb c=>aY (gT b) k c rcs (jn u F 0 A a B)
 | _=>False
section
variable{P:Program}{w0 w w1:World}{M S0 S:af}{N:fF}{φ:Nat->af}{F:Nat->AV}{a:Act}{TE:Nat->Option TI}
theorem cU.tag{Y:af}{c:C}{v:Value}(h:cU w S Y c v):cU w S Y (Xj c v) v:=by
 cases h with
 | nil _ o a l=>cases o with
  | own=>exact .nil _ _ _ rfl
  | suf=>exact .nil _ _ _ rfl
  | _=>exact .nil _ _ _ l
 | own _ o g k n i d u f l B D e A q F G hd t=>cases o with
  | own=>exact .own _ _ g k n i d u f rfl B D e A q F G hd t
  | R=>exact l.elim
  | tag z=>exact .own _ _ g k n i d u f l B D e A q F G hd t
  | suf=>exact l.elim
  | tagS z=>exact l.elim
 | suf _ o g y k n i d u f l B D e q F G hd t=>cases o with
  | suf=>exact .suf _ _ g y k n i d u f rfl B D e q F G hd t
  | tagS z=>exact .suf _ _ g y k n i d u f l B D e q F G hd t
  | own=>exact l.elim
  | R=>exact l.elim
  | tag z=>exact l.elim
 | v _ x J=>exact .v _ _ J
 | x _ u J=>exact .x _ _ J
 | hd _ a n c=>exact .hd _ a n c
 | z _ a=>exact .z _ _
 | R _ g y k n i d u B D e M t=>exact .R _ g y k n i d u B D e M t
 | m _ b j N p q K O L E=>exact .m _ b j N p q K O L E
 | it _ r b since P j seen p cur left q Q K E t L R H=>exact .it _ r b since P j seen p cur left q Q K E t L R H
variable{rows:List (List C)}{Y:af}
def cU.untag{z v:Value}(h:cU w S Y (.s (.tag z) rows) v):v=z/\cU w S Y (.s .own rows) v:=by
 cases h with
 | nil _ o a b=>exact⟨Eq.symm b,.nil _ _ _ tV1⟩
 | own _ o g k n c rows u f b i j d e l p q r t=>exact⟨Eq.symm b,.own _ _ g k n c rows u f tV1 i j d e l p q r t⟩
 | suf _ o g y k n c rows u f b=>exact b.elim
def cU.untagS{z v:Value}(h:cU w S Y (.s (.tagS z) rows) v):v=z/\cU w S Y (.s .suf rows) v:=by
 cases h with
 | nil _ o a b=>exact⟨Eq.symm b,.nil _ _ _ tV1⟩
 | own _ o g k n c rows u f b=>exact b.elim
 | suf _ o g e k n c rows u f b i j d l p q r t=>exact⟨Eq.symm b,.suf _ _ g e k n c rows u f tV1 i j d l p q r t⟩
theorem qT(u:Nat->Value):∀(j:Nat)(cs:List C),(Eh u j cs).length=cs.length
 | _,[]=>rfl
 | j,c::cs=>by simp[Eh,qT u (j+1) cs]
theorem Kh(u:Nat->Value):∀(a:Nat)(cs:List C)(j:Nat),(Eh u a cs)[j]? = (cs[j]?).map λc=>Xj c (u (a+j))
 | _,[],j=>by simp[Eh]
 | a,c::cs,0=>by simp[Eh]
 | a,c::cs,j+1=>by simp only[Eh,List.getElem?_cons_succ];rw[Kh u (a+1) cs j,show a+1+j=a+(j+1) by omega]
variable{u:Nat->Value}
theorem cw.tag{cs:List C}(h:cw w S Y cs u):cw w S Y (Eh u 0 cs) u:=by
 obtain⟨f,i,b,d⟩:=h;refine⟨f,λj c a=>?_,λj a=>b j (by grind [qT]),λj e a g=>d j e (by grind [qT]) (by grind [qT])⟩
 grind [Kh,cU.tag]
def celF(v:Value)(j:Nat):Value:=v.cells.toList.getD j undef
def bm.celF{Y:af}{ag:Option Nat}{cs:List C}{v:Value}(h:bm w S Y ag cs v):cs.length=ag.getD 1/\v=mkv ag (celF v)/\cw w S Y cs (celF v):=by
 obtain⟨b,u,c,d⟩:=h;have g:=rV (ag:=ag) (u:=u) (λe=>by subst e;exact d.one (by simp at b;omega));have f:∀j,j<ag.getD 1->Ab.celF v j=u j:=λj a=>by
  unfold Ab.celF;rw[c,g];simp[List.getD,a]
 exact⟨b,c.trans (ko λj a=>(f j a).symm),d.congr λj a=>f j ω⟩
def Wl(u:Nat->Nat->Value)(i:Nat):MA->AV
 | .val a cs=>.Y (kZ a) cs
 | .mut a cs=>.Y (kZ a) (Eh (u i) 0 cs)
 | .ptr cs=>.Y .box cs
theorem FI{u:Nat->Nat->Value} : ∀{A:List MA}{vs:List Value}{V:Nat->af}(i:Nat),P4 w S V A vs->∀t,(lay (zi u i A) t=.dead)\/(∃m v,i<=t/\vs[t - i]? = some v/\A[t - i]? = some m/\lay (zi u i A) t=Wl u t m/\rx w S (V (t - i)) m v)
 | [],_,_,i,_,t=>.inl rfl
 | m::A,[],_,i,h,t=>h.elim
 | m::A,v::vs,V,i,h,t=>by
  have b:lay (zi u i (m::A)) t=bif Nat.beq t i then Wl u i m else lay (zi u (i+1) A) t:=by cases m<;>rfl
  rw[b];cases c:Nat.beq t i with
  | true=>
   have:=O3 c;subst this;exact .inr ⟨m,v,O5 _,by simp,by simp,rfl,by rw[Nat.sub_self];exact h.1⟩
  | false=>
   have d:t≠i:=λe=>by simp_all
   rcases FI (i+1) h.2 t with a|⟨f,g,a,j,k,l,n⟩
   ·exact .inl a
   grind
def FO:∀{A:List MA}{vs:List Value}{V:Nat->af},P4 w S V A vs->A.length=vs.length
 | [],[],_,_=>rfl
 | _::_,_::_,_,h=>by simp[FO h.2]
 | [],_::_,_,h=>h.elim
 | _::_,[],_,h=>h.elim
theorem P5{p:Nat->Value} : ∀{A:List MA}{i:Nat}{q:Nat × Value},q∈Nu p i A->i<=q.1/\q.1<i+A.length/\q.2=p q.1
 | [],_,_,h=>by simp[Nu]at h
 | m::A,i,q,h=>by
  have a:q∈Nu p (i+1) A->i<=q.1/\q.1<i+(m::A).length/\q.2=p q.1:=λh=>by
   obtain⟨b,c,d⟩:=P5 h
   grind
  cases m with
  | ptr e=>
   rcases List.mem_cons.1 h with rfl|h
   all_goals grind
  | val=>exact a h
  | «mut»=>exact a h
theorem Pd{p:Nat->Value} : ∀{A:List MA}{i n:Nat}{cs:List C},A[n]? = some (.ptr cs)->(i+n,p (i+n))∈Nu p i A
 | [],_,n,_,h=>by simp at h
 | m::A,i,0,cs,h=>by grind [Nu]
 | m::A,i,n+1,cs,h=>by
  have a:=Pd (p:=p) (i:=i+1) (show A[n]? = some (.ptr cs) by simpa using h);rw[show i+1+n=i+(n+1) by omega]at a;cases m with
  | ptr cs=>exact OA _ a
  | val=>exact a
  | «mut»=>exact a
def WI(φ:Nat->af):Option (Option Nat)->af
 | some (some t)=>φ t
 | _=>NO
theorem GS{u:Nat->Value} : ∀{a:Nat}{cs xs os:List C},Wy u a cs xs os->cs.length=os.length/\∀(j:Nat)(c o:C),cs[j]? = some c->os[j]? = some o->∃y,(eR c=true->xs[j]? = some y)/\Yp (u (a+j)) c y o
 | _,[],xs,os,h=>by grind [Wy]
 | _,_::_,[],_,h=>by grind [Wy]
 | _,_::_,_::_,[],h=>by grind [Wy]
 | a,b::cs,d::xs,e::os,h=>by
  simp only[Wy]at h;obtain⟨f,g⟩:=GS h.2
  grind
theorem RL{S' t:af}{E:Nat->Value}{cs xs os:List C}{off:Nat}(i:b8 S w w1)(n:∀b o,S b o->S' b o)(h:cw w S Y cs u)(h':cw w1 S' t xs E)(F:Wy u 0 cs (xs.drop off) os):cw w1 S' t os u:=by
 obtain⟨f,G,Q,R⟩:=h;obtain⟨A,p,H,J⟩:=h';obtain⟨T,K⟩:=GS F;refine⟨λj b o=>off+j<xs.length/\A (off+j) b o,λj c B=>?_,ψ,ψ⟩;have L:=(C4.1 B).1;have k:cs[j]? = some cs[j]:=ψ
 obtain⟨y,d,a⟩:=K j _ c k B;rw[OD]at a;have g:=G j _ k;generalize cs[j]=q at k a g d;have keep:eR q=false->c=q->cU w1 S' (λb o=>off+j<xs.length/\A (off+j) b o) c (u j):=λM e=>by
  subst e;exact((g.bare (F':=NO) M).keep i (λ_ _ h=>h.elim)).mono n (λ_ _ h=>h.elim)
 cases q with
 | v U=>exact keep rfl a
 | x=>exact keep rfl a
 | hd=>exact keep rfl a
 | z=>exact keep rfl a
 | m V=>exact a.elim
 | it=>exact a.elim
 | s o D=>
  cases o with
  | R=>exact keep rfl a
  | tag z=>exact a.elim
  | tagS z=>exact a.elim
  | suf=>
   have d:=d rfl;rw[List.getElem?_drop]at d;have r:=(C4.1 d).1;simp only[Yp]at a;split at a
   case h_2=>exact a.elim
   rename_i N l;obtain⟨rfl,rfl⟩:=a;obtain⟨O,P⟩:=(p _ _ d).untagS
   simp_all
  | own=>
   have d:=d rfl;rw[List.getElem?_drop]at d;have r:=(C4.1 d).1;simp only[Yp]at a;split at a
   case h_2=>exact a.elim
   rename_i N l;obtain⟨rfl,rfl⟩:=a;obtain⟨O,P⟩:=(p _ _ d).untag
   simp_all
theorem bj.backs{C:World}{S':af}{u:Nat->Nat->Value}(h:bj w0 M S0 N S' φ F a C)(d:b8 S w C)(f:∀b o,S b o->S' b o):∀{A:List MA}{g:List (Nat × Nat)}{B:List MA}{vs:List Value}{V:Nat->af}{i:Nat},P4 w S V A vs->
  (∀j v,vs[j]? = some v->u (i+j)=celF v)->(∀j v cs,vs[j]? = some v->A[j]? = some (.ptr cs)->tvs a (i+j)=v)->jn u F i A g B->AY C S' (λn=>WI φ (J6 i A g)[n]?) B vs
 | [],g,B,vs,V,i,l,r,t,c=>by
  cases vs with
  | cons _ _=>exact l.elim
  | nil=>cases B with
   | nil=>trivial
   | cons _ _=>grind [jn]
 | m::A,[],B,vs,V,i,l,r,t,c=>by grind [jn]
 | m::A,p::g,[],vs,V,i,l,r,t,c=>by grind [jn]
 | m::A,p::g,D::B,[],V,i,l,r,t,c=>l.elim
 | m::A,p::g,D::B,v::vs,V,i,l,r,t,c=>by
  have next:jn u F (i+1) A g B->AY C S' (λn=>WI φ (J6 (i+1) A g)[n]?) B vs:=λc=>
   bj.backs h d f l.2 (λj v T=>by rw[show i+1+j=i+(j+1) by omega];simp_all)
    (λj v cs T X=>by rw[show i+1+j=i+(j+1) by omega];simp_all) c
  cases m with
  | val U cs=>
   cases D with
   | val y W=>simp only[jn]at c;exact⟨tV1,next c⟩
   | ptr=>grind [jn]
   | «mut»=>grind [jn]
  | «mut» U cs=>
   cases D with
   | val=>grind [jn]
   | ptr=>grind [jn]
   | «mut» y out=>
    simp only[jn]at c;obtain⟨⟨rfl,e⟩,G⟩:=c;refine⟨?_,next G⟩;have E:=bm.celF (show bm w S (V 0) y cs v from l.1);have H:u i=celF v:=r 0 v (by simp);have q:=h.slot p.1;cases J:F p.1 with
    | Y k xs=>
     rw[J]at e q;simp only at e;rw[H]at e;obtain⟨O,Y,P,K,Q,R,L⟩:=q;refine⟨by grind [GS],celF v,E.2.1,?_⟩;exact(RL d f E.2.2 L e).mono (λ_ _ h=>h) (λb o c=>by simpa[J6,WI] using K b o c)
    | _=>grind
  | ptr cs=>
   cases D with
   | val=>grind [jn]
   | «mut»=>grind [jn]
   | ptr out=>
    simp only[jn]at c;refine⟨?_,next c.2⟩;have E:tvs a i=v:=t 0 v cs (by simp) (by simp);have q:=h.slot i;cases J:F i with
    | Y k xs=>
     cases k with
     | box=>
      rw[J]at c q;have:=c.1;simp only at this;subst this;rw[E]at q;obtain⟨O,Y,P,K,Q,R,L⟩:=q;exact⟨O,Y,λb o c=>by simpa[J6,WI] using P b o c,λb o c=>by simpa[J6,WI] using K b o c,Q,R,L⟩
     | _=>grind
    | _=>grind
theorem wn:∀{l:List (Option Nat)},M4 l=true->∀(i a t c:Nat),i≠a->l[i]? = some (some t)->l[a]? = some (some c)->t≠c
 | [],_,i,a,t,c,_,h,_=>by simp at h
 | none::l,b,i,a,t,c,f,h,d=>by
  cases i with
  | zero=>simp at h
  | succ i=>cases a with
   | zero=>simp at d
   | succ a=>exact wn (l:=l) b i a t c ω (by simpa using h) (by simpa using d)
 | some g::l,b,i,a,t,c,f,h,d=>by
  simp only[M4,I0]at b;have k:∀(n s:Nat),l[n]? = some (some s)->g≠s:=λn s j e=>by
   have:=S7.1 b.1 _ (I3 j)
   simp_all
  cases i with
  | zero=>
   grind
  | succ i=>cases a with
   | zero=>grind
   | succ a=>exact wn b.2 i a t c ω (by simpa using h) (by simpa using d)
theorem zr:∀{l:List (Option Nat)}{i t:Nat},l[i]? = some (some t)->t∈sles l
 | [],i,t,h=>by simp at h
 | none::l,i,t,h=>by
  cases i with
  | zero=>simp at h
  | succ i=>exact zr (l:=l) (i:=i) (by simpa using h)
 | some a::l,i,t,h=>by
  cases i with
  | zero=>grind [sles]
  | succ i=>exact OA _ (zr (l:=l) (i:=i) (by simpa using h))
theorem BR{φ:Nat->af}{x:Option (Option Nat)}{b o:Nat}(h:WI φ x b o):∃t,x=some (some t)/\φ t b o:=by
 match x,h with
 | some (some t),h=>exact⟨t,rfl,h⟩
 | some none,h=>exact h.elim
 | none,h=>exact h.elim
theorem PK{f : Nat}{y : Func}{c : Code}{sh : Bool}{A B : List MA}{k : Kd}{rcs : List C}{mo : List (Nat × List Nat)}{n : Nat}(O : List (Nat × Nat))(hTE : ∀t i, TE t = some i -> ix P t i)(hf : P.funcs[f]? = some y)(hn : (y.name == "runtime.NumGoroutine") = false)(d:y.body=some c){ck:Nat->Array Oper->Bool}{D:fF->Nat->Array Oper->((Nat->AV)->Prop)->(Nat->AV)->Prop}(hD:∀N,Di P N ck (D N))(hc:gU ck c=true)(hN:A.length+(y.ntmps - A.length)=n)(hok:M4 (J6 0 A O)=true)(hsh:sh=true\/fy rcs)(hp:∀(u:Nat->Nat->Value)(p:Nat->Value),aw P TE ⟨n,Nu p 0 A,mo⟩ (D ⟨n,Nu p 0 A,mo⟩) c (WJ TE y.results.toList k rcs u A B O) (lay (zi u 0 A))):aU P f sh A B k rcs:=by
 refine⟨⟨y,hf,hn,by rw[d];rfl⟩,λw S V E hS hV hVd hA=>?_⟩;have hlen:=FO hA;refine calls_of_wp hf d ?_
 let u:Nat->Nat->Value:=λi=>celF (E.getD i undef)
 let p:Nat->Value:=λi=>E.getD i undef
 have htv:∀t v,E[t]? = some v->tvs {tmps:=E.toArray++Array.replicate (y.ntmps - E.toArray.size) undef,defers:=[]} t=v:=λt v r=>by
  have Q:=(C4.1 r).1;simp only[tvs,ZC]
  grind
 have hst:St w (λb o=>∃i,V i b o) S ⟨n,Nu p 0 A,mo⟩ (lay (zi u 0 A)) {tmps:=E.toArray++Array.replicate (y.ntmps - E.toArray.size) undef,defers:=[]} w:=by
  refine⟨S,V,λt=>?_,hVd,ψ,ψ,λ_ _ h=>h,ψ,Cj _ _,by simp;omega,rfl,⟨λq hq=>?_,hS.2⟩⟩
  ·rcases FI (u:=u) 0 hA t with J|⟨m,v,-,r,h2',K,U⟩
   ·rw[J];trivial
   rw[K];rw[Nat.sub_zero]at r U;rw[htv t v r];have hu:u t=celF v:=ψ
   cases m with
   | val M G=>exact(bm.mono (show bm w S NO M G v from U) (λ_ _ h=>h) (λ_ _ h=>h.elim)).slot
   | «mut» M G=>
    obtain⟨e1,e2,e3⟩:=bm.celF (show bm w S (V t) M G v from U);refine bm.slot ⟨by grind [qT],celF v,e2,?_⟩
    grind [cw.tag]
   | ptr G=>exact U
  obtain⟨-,J,r⟩:=P5 hq
  grind
 refine jE hTE (hD _) c hc _ _ _ _ w (hp u p) hst λe F' W l he hs'=>?_
 obtain⟨S',φ',h⟩:=hs';have fin:resA TE F' y.results.toList (sles (J6 0 A O)) (λsh G=>aY (gT sh) k G rcs (jn u F' 0 A O B))->W.defers=[]/\∃v,(results y W.tmps).run P l=.ok v l/\(∃v',Ending.returned v=.returned v'/\bu (λb o=>∃i,V i b o) w l/\∃(X:af)(Z:Nat->af)(S1:af),
     (∀b o,X b o->(∃i,V i b o)\/(b<l.heap.size/\w.heap.size<=b))/\(∀i b o,Z i b o->(∃i,V i b o)\/(b<l.heap.size/\w.heap.size<=b))/\
     (∀b o,S1 b o->(sh=true/\S b o)\/(∃i,V i b o)\/(b<l.heap.size/\w.heap.size<=b))/\
     (∀i i',i≠i'->∀b o,Z i b o->¬Z i' b o)/\(∀i b o,X b o->¬Z i b o)/\(∀b o,X b o->¬S1 b o)/\(∀i b o,Z i b o->¬S1 b o)/\
     fZ l NO k rcs.length v'/\cw l S1 X rcs (co l k v')/\AY l (λb o=>S b o\/S1 b o) Z B E):=by
  intro hr;obtain⟨shs,G,a,u',hfin,hrun,L,hln,hL,hcells,H,hrow⟩:=h.resA hTE hr;obtain⟨rfl,rfl,R⟩:=hfin.out;refine⟨h.defers,?_⟩;have T:(results y W.tmps).run P l=.ok (if h:a.toArray.size=1 then a.toArray[0] else .tuple a.toArray) l:=by
   have e:results y W.tmps=(do let E <-y.results.mapM (Fn W.tmps);pure (if h:E.size=1 then E[0] else .tuple E)):=by
    unfold results
    congr 1
   rw[e,<-Array.toArray_toList (xs:=y.results),List.mapM_toArray]
   simp_all
  have hex:∀t b o,φ' t b o->(∃i,V i b o)\/(b<l.heap.size/\w.heap.size<=b):=λt b o d=>(h.ex t b o d).2.elim (λh'=>.inr ⟨(h.ex t b o d).1,h'⟩) .inl
  have hsameS:b8 S w l:=λb o d=>by
   have Q:=hS.1 b o d;exact⟨h.old.cel b o Q ψ,h.old.fro b o Q ψ⟩
  have hm:=h.backs (u:=u) hsameS h.sub hA ψ (λj v G hj hc=>by
    have:=h.par.1 _ (Pd (p:=p) (i:=0) hc)
    grind) R
  refine⟨_,T,_,rfl,h.old,λb o=>∃t,t∉sles (J6 0 A O)/\φ' t b o,λi=>WI φ' (J6 0 A O)[i]?,λb o=>(sh=true/\S' b o)\/(S' b o/\((∃i,V i b o)\/w.heap.size<=b)),ψ,λi b o d=>?_,λb o d=>?_,λi i' hne b o d g=>?_,λi b o ⟨t,ht,d⟩ g=>?_,λb o ⟨t,_,d⟩ g=>h.disS t b o d ψ,λi b o d g=>?_,?_⟩
  ·grind [BR]
  ·rcases d with⟨J,r⟩|⟨J,r⟩
   ·rcases(h.sup b o r).2 with K|K|K
    ·grind
    ·exact .inr (.inr ⟨(h.sup b o r).1,K⟩)
    grind
   rcases r with r|r
   ·grind
   exact .inr (.inr ⟨(h.sup b o J).1,r⟩)
  ·obtain⟨t,e1,d⟩:=BR d
   obtain⟨t',e2,g⟩:=BR g;exact h.dis t t' (wn hok i i' t t' hne e1 e2) b o d g
  ·obtain⟨t',e2,g⟩:=BR g
   exact h.dis t t' (λe=>ht (by grind [zr])) b o d g
  ·obtain⟨t,-,d⟩:=BR d
   exact h.disS t b o d ψ
  have hk:fZ l NO (gT shs) G.length (if h:a.toArray.size=1 then a.toArray[0] else .tuple a.toArray)/\cw l S' (λb o=>∃t,t∉sles (J6 0 A O)/\φ' t b o) G (co l (gT shs) (if h:a.toArray.size=1 then a.toArray[0] else .tuple a.toArray)):=by
   match shs,L,H,hL with
   | [],L,_,hL=>
    cases a with
    | cons _ _=>exact L.elim
    | nil=>
     have:G=[]:=ψ
     subst this;exact⟨⟨_,rfl,tV1,rfl⟩,cw.nil _ _ _ _⟩
   | [M],_,H,_=>
    obtain⟨v,rfl,hv⟩:=H M rfl;have:=hv.slot (F:=F') (tv:=tvs W);obtain⟨X1,Y,J,r,K,U,h5⟩:=this;refine⟨?_,h5.mono (λ_ _ h=>h) r⟩;cases M<;>exact U
   | M::ag2::sh,L,_,hL=>
    have hsz:¬a.toArray.size=1:=by
     match a,L with
     | [],L=>simp
     | [v],L=>cases M<;>cases ag2<;>exact L.2.elim
     | _::_::_,_=>simp
    rw[dif_neg hsz];refine⟨⟨_,rfl,L,hL⟩,hrow.congr λj hj=>?_⟩;simp only[co,gT,j8,hcells];simp[List.getD,hj]
  refine⟨hk.1,?_,hm.mono λb o d=>?_⟩
  ·rcases hsh with J|J
   ·exact hk.2.mono ψ (λ_ _ h=>h)
   exact(hk.2.fresh J).mono (λ_ _ h=>h.elim) (λ_ _ h=>h)
  rcases(h.sup b o d).2 with K|K|K
  all_goals grind
 cases e with
 | normal=>exact fin he
 | ret=>exact fin he
 | _=>exact he.elim
end
abbrev I(z:Int):C:=.v (.int .i64 z)
abbrev B(b:Bool):C:=.v (.bool b)
def rI(_:ek)(z:Int):List C:=[I z]
def rB(_:ek)(b:Bool):List C:=[B b]
def rj(z:Int):fy (rI .own z):=⟨tV1,tV1⟩
def Jd(b:Bool):fy (rB .own b):=⟨tV1,tV1⟩
def mP(z:Int):Prop:=-9223372036854775808<=z/\z<=9223372036854775807
def YQ(_:Bool):Prop:=True
def X7(s:Nat)(left:Int):Int:=if(s:Int)<=left then left - s else -1
def un : Tryz.prog.follows .mixedOrders=true:=by kernel_rfl
variable{tb: List (Nat × Nat × List Nat)}{rcs: List C}{A: List RA}{mo: List (Nat × List Nat)}{f: Nat}
theorem τ{P:Prop}(h:P:=by simp only;omega):P:=h
theorem ϑ{P:Prop}(h:P:=by assumption):P:=h
theorem ϰ{P:Prop}(h:P:=by rw[Z1];omega):P:=h
theorem ϖ{P:Prop}(h:P:=by kernel_rfl):P:=h
theorem ϕ{P:Prop}(h:P:=by simp):P:=h
theorem ξ{P:Prop}(h:P:=by first|omega|(simp only;omega)|(simp;omega)):P:=h
theorem χ{P:Prop}(h:P:=by simp only[Z1];exact yt kd qs):P:=h
theorem θ{P:Prop}(h:P:=by rw[Z2];omega):P:=h
theorem ζ{P:Prop}(h:P:=by simp[br,eR]):P:=h
theorem υ{P:Prop}(h:P:=by show _*8<=_;simp;omega):P:=h
theorem κ{P:Prop}(h:P:=by first|omega|(simp only at *;omega)):P:=h
theorem ε{P:Prop}(h:P:=by rw[I6];omega):P:=h
theorem η{P:Prop}(h:P:=by simp only[Nat.min_def];split<;>omega):P:=h
abbrev zzA:=am Tryz.prog
abbrev zzB:=aU Tryz.prog
def XK{a : Func}{c : Code}{sh : Bool}(d : Tryz.prog.funcs[f]? = some a)(e : (a.name == "runtime.NumGoroutine") = false)(g : a.body = some c)(h : gU (oU tb) c = true)(i:A.length+(a.ntmps - A.length)=n)(b:sh=true\/fy rcs)(j:aw Tryz.prog TE ⟨n,[],mo⟩ (DF Tryz.prog TE ⟨n,[],mo⟩ tb) c (UV TE a.results.toList k rcs) (lay (Hp 0 A))):zzA f sh A k rcs:=
 Qx qd d e g (tw qd un ⟨n,[],mo⟩ tb) h i rfl b j
def XO{a : Func}{c : Code}{sh : Bool}{A B : List MA}(b : List (Nat × Nat))(g : Tryz.prog.funcs[f]? = some a)(h : (a.name == "runtime.NumGoroutine") = false)(i : a.body = some c)(j : gU (oU tb) c = true)(l:A.length+(a.ntmps - A.length)=n)(d:M4 (J6 0 A b)=true)(e:sh=true\/fy rcs)(o:∀(u:Nat->Nat->Value)(p:Nat->Value),aw Tryz.prog TE ⟨n,Nu p 0 A,mo⟩ (DF Tryz.prog TE ⟨n,Nu p 0 A,mo⟩ tb) c (WJ TE a.results.toList k rcs u A B b) (lay (zi u 0 A))):zzB f sh A B k rcs:=
 PK b qd g h i (λN=>tw qd un N tb) j l d e o
theorem fH{x:Int}(h1 : -9223372036854775808<=x)(h2:x<=9223372036854775807):IntKind.i64.wrap x=x:=IntWalk.i64_in x ω
def Ti:RA->RA->Prop
 | .val ag cs,.val ag' cs'=>ag=ag'/\cs=cs'
 | .ptr cs,.ptr cs'=>cs=cs'
 | A,a=>A=a
theorem Ti.eq{A a:RA}(h:Ti A a):A=a:=by
 unfold Ti at h
 grind
def Fj:List RA->List RA->Prop
 | [],[]=>True
 | A::As,B::Bs=>Ti A B/\Fj As Bs
 | _,_=>False
theorem Fj.eq:∀{A a:List RA},Fj A a->A=a
 | [],[],_=>rfl
 | A::As,B::Bs,h=>by rw[Ti.eq h.1,Fj.eq h.2]
 | [],_::_,h=>h.elim
 | _::_,[],h=>h.elim
theorem Cl.eq{b:Bool}{a:List RA}{K:AV->Prop}(h:am P f false a k rcs)(c:Fj A a)(d:K (.Y k rcs)):Cl P f b A K:=by grind [Fj.eq,CF]
def CL:type_of% @Cl.eq:=@Cl.eq
def yt{b:Nat}(h:n<=1048576)(a:b<=1000):n*b<=140737488355328:=S9 (Nat.mul_le_mul h a) qs
theorem Cl.sz{b:Bool}{K:AV->Prop}{s:Nat}{L:Int}(h:am P f false A .one [I (X7 s L)])(h1:L<s->K (.Y .one [I (-1)]))(h2:(s:Int)<=L->K (.Y .one [I (L - s)])):Cl P f b A K:=by grind [CF,X7]
theorem Bf.NB{a b:Bool}{X Y:Prop}(h1:a≠b->X)(h2:a=b->Y):Bf (a != b) X Y:=by grind [Bf.P]
theorem Rw.one{off k j:Nat}{K:List C->Nat->Prop}{o:ek}{rows:List (List C)}{r:List C}(h1:a[off]? = some (.s o rows))(h2:rows[i]? = some r)(c:r.length=k)(b:K r j):Rw a off [(i,k,j)] K:=
 Rw.mk (r:=r) (j:=j) (by grind [cr]) b
def CK:type_of% @Rw.one:=@Rw.one
theorem oR{l:List α}{r r':α}(h:l[i]? = some r):(l.set i r')[i]? = some r':=ψ
def uD(A B:List α)(i:Nat):List α:=A.take i++B.drop i
section
variable{α:Type}{A B:List α}
def Br:uD A B 0=B:=by simp[uD]
theorem FY(i:Nat)(h:A.length=B.length)(a:i=B.length):uD A B i=A:=by grind [uD]
def Pi(h:A.length=B.length)(i:Nat):(uD A B i).length=B.length:=by simp[uD];omega
theorem H3(h:A.length=B.length)(i:Nat)(a:i<=B.length):(uD A B i)[i]? = B[i]?:=by grind [uD]
theorem uL(h:A.length=B.length){i:Nat}{a:α}(b:A[i]? = some a):(uD A B i).set i a=uD A B (i+1):=by
 have c:=(C4.1 b).1;unfold uD
 grind [List.set_append_right,ZA,List.drop_eq_getElem_cons]
end
def aa{β:Type}{f:α->β}{l:List α}{k:Nat}{x:α}(h:l[k]? = some x):(l.map f)[k]? = some (f x):=by simp[h]
def Vu{z:α}{k:Nat}(h:k<n):(List.replicate n z)[k]? = some z:=by simp[h]
end Go.Proofs.YtfdfgipemcbekaaGreatDoor.Ab
