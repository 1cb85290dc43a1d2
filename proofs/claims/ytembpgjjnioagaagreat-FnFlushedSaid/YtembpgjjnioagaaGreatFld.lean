/- A function's contract out of the abstract run of its body, where something is lent to it. No condition. -/
import Derived.Test.YtembpgjjnioagaaGreatFlc
set_option linter.unusedVariables false
set_option linter.unusedSimpArgs false
set_option linter.constructorNameAsVariable false
namespace Go.Proofs.YtembpgjjnioagaaGreat.Ab
open Go.RowKit
def Qs:C->Value->C
 | .s .own rows,v=>.s (.tag v) rows
 | c,_=>c
def yq(u:Nat->Value):Nat->List C->List C
 | _,[]=>[]
 | j,c::cs=>Qs c (u j)::yq u (j+1) cs
def xD(u:Nat->Nat->Value):Nat->List MA->List (Nat × AV)
 | _,[]=>[]
 | i,.val a cs::A=>(i,.hold (kP a) cs)::xD u (i+1) A
 | i,.mut a cs::A=>(i,.hold (kP a) (yq (u i) 0 cs))::xD u (i+1) A
 | i,.ptr cs::A=>(i,.hold .box cs)::xD u (i+1) A
def GL(p:Nat->Value):Nat->List MA->List (Nat × Value)
 | _,[]=>[]
 | i,.ptr _::A=>(i,p i)::GL p (i+1) A
 | i,_::A=>GL p (i+1) A
def Df:Nat->List MA->List (Nat × Nat)->List (Option Nat)
 | i,.val _ _::A,_::pl=>none::Df (i+1) A pl
 | i,.mut _ _::A,p::pl=>some p.1::Df (i+1) A pl
 | i,.ptr _::A,_::pl=>some i::Df (i+1) A pl
 | _,_,_=>[]
def Gv:List (Option Nat)->Bool
 | []=>true
 | none::l=>Gv l
 | some t::l=>l.all (λx=>match x with|some a=>!Nat.beq t a|none=>true)&&Gv l
def sles:List (Option Nat)->List Nat
 | []=>[]
 | none::l=>sles l
 | some t::l=>t::sles l
def Rm(v:Value)(c y o:C):Prop:=
 match c with
 | .s .own _=>(match y with|.s (.tag v') rows=>v'=v/\o=.s .own rows|_=>False)
 | .s (.tag _) _=>False
 | .m _=>False
 | .it _ _=>False
 | c=>o=c
def PD(u:Nat->Value):Nat->List C->List C->List C->Prop
 | _,[],_,o=>o=[]
 | j,c::cs,y::xs,o::os=>Rm (u j) c y o/\PD u (j+1) cs xs os
 | _,_,_,_=>False
def ij(u:Nat->Nat->Value)(F:Nat->AV):Nat->List MA->List (Nat × Nat)->List MA->Prop
 | _,[],_,[]=>True
 | i,.val _ _::A,_::pl,.val _ _::B=>ij u F (i+1) A pl B
 | i,.mut ag cs::A,p::pl,.mut a out::B=>(a=ag/\match F p.1 with|.hold _ xs=>PD (u i) 0 cs (xs.drop p.2) out|_=>False)/\ij u F (i+1) A pl B
 | i,.ptr _::A,_::pl,.ptr out::B=>(match F i with|.hold .box xs=>xs=out|_=>False)/\ij u F (i+1) A pl B
 | _,_,_,_=>False
inductive aP(k k':Kd)(cs cs':List C)(Q:Prop):Prop
 |mk_ (h:k=k'/\cs=cs'/\Q)
theorem aP.mk{k b:Kd}{cs a:List C}{Q:Prop}(h1:k=b)(c:cs=a)(d:Q):aP k b cs a Q:=by refine .mk_ ?_;exact⟨h1,c,d⟩
theorem CF:type_of% @aP.mk:=@aP.mk
theorem aP.out{k b:Kd}{cs a:List C}{Q:Prop}(h:aP k b cs a Q):k=b/\cs=a/\Q:=by obtain⟨h⟩:=h;exact h
def Qp(TE:Nat->Option TI)(d:List ResultVar)(k:Kd)(rcs:List C)(u:Nat->Nat->Value)(A B:List MA)(a:List (Nat × Nat)):Exit->(Nat->AV)->Prop:=λe F=>
 match e with
 | .normal=>resA TE F d (sles (Df 0 A a)) λb c=>aP (jB b) k c rcs (ij u F 0 A a B)
 | .ret=>resA TE F d (sles (Df 0 A a)) λb c=>aP (jB b) k c rcs (ij u F 0 A a B)
 | _=>False
section
variable{P:Program}{w0 w w1:World}{M S0 S:ac}{N:fp}{φ:Nat->ac}{F:Nat->AV}{a:Act}{TE:Nat->Option TI}
theorem eC.tag{Y:ac}{c:C}{v:Value}(h:eC w S Y c v):eC w S Y (Qs c v) v:=by
 cases h with
 | nil _ o a B=>cases o with
  | own=>exact .nil _ _ _ rfl
  | _=>exact .nil _ _ _ B
 | own _ o g k n l e u f B D E i p t K L M y=>cases o with
  | own=>exact .own _ _ g k n l e u f rfl D E i p t K L M y
  | imm=>exact B.elim
  | tag z=>exact .own _ _ g k n l e u f B D E i p t K L M y
 | v _ x F=>exact .v _ _ F
 | x _ u F=>exact .x _ _ F
 | z _ a=>exact .z _ _
 | imm _ g G k n l e u D E i N y=>exact .imm _ g G k n l e u D E i N y
 | m _ b d O j t H P J q=>exact .m _ b d O j t H P J q
 | it _ r b since Q d seen j cur left t R H q y J T A=>exact .it _ r b since Q d seen j cur left t R H q y J T A
theorem eC.untag{Y:ac}{z v:Value}{rows:List (List C)}(h:eC w S Y (.s (.tag z) rows) v):v=z/\eC w S Y (.s .own rows) v:=by
 cases h with
 | nil _ o a d=>exact⟨Eq.symm d,.nil _ _ _ trivial⟩
 | own _ o g k n e rows u f d i j b c l p q r t=>exact⟨Eq.symm d,.own _ _ g k n e rows u f trivial i j b c l p q r t⟩
theorem ou(u:Nat->Value):∀(j:Nat)(cs:List C),(yq u j cs).length=cs.length
 | _,[]=>rfl
 | j,c::cs=>by simp[yq,ou u (j+1) cs]
theorem D6(u:Nat->Value):∀(a:Nat)(cs:List C)(j:Nat),(yq u a cs)[j]? = (cs[j]?).map λc=>Qs c (u (a+j))
 | _,[],j=>by simp[yq]
 | a,c::cs,0=>by simp[yq]
 | a,c::cs,j+1=>by simp only[yq,List.getElem?_cons_succ];rw[D6 u (a+1) cs j,show a+1+j=a+(j+1) by omega]
theorem cP.tag{Y:ac}{cs:List C}{u:Nat->Value}(h:cP w S Y cs u):cP w S Y (yq u 0 cs) u:=by
 obtain⟨f,e,g,i⟩:=h;refine⟨f,λj c a=>?_,λj a=>g j (by rwa [ou]at a),λj k a b=>i j k (by rwa [ou]at a) (by rwa [ou]at b)⟩;rw[D6,T6]at a;cases d:cs[j]? with
 | none=>rw[d]at a;cases a
 | some l=>
  rw[d]at a;simp only[t5,X0]at a;subst a;exact(e j l d).tag
def celF(v:Value)(j:Nat):Value:=v.cells.toList.getD j undef
theorem bE.celF{Y:ac}{ag:Option Nat}{cs:List C}{v:Value}(h:bE w S Y ag cs v):cs.length=ag.getD 1/\v=mkv ag (celF v)/\cP w S Y cs (celF v):=by
 obtain⟨b,u,c,d⟩:=h;have g:=pf (ag:=ag) (u:=u) (λe=>by subst e;exact d.one (by simp at b;omega));have f:∀j,j<ag.getD 1->Ab.celF v j=u j:=λj a=>by
  unfold Ab.celF;rw[c,g];simp[List.getD,a]
 exact⟨b,c.trans (im λj a=>(f j a).symm),d.congr λj a=>f j ω⟩
def P1(u:Nat->Nat->Value)(i:Nat):MA->AV
 | .val a cs=>.hold (kP a) cs
 | .mut a cs=>.hold (kP a) (yq (u i) 0 cs)
 | .ptr cs=>.hold .box cs
theorem zT{u:Nat->Nat->Value} : ∀{A:List MA}{vs:List Value}{V:Nat->ac}(i:Nat),MQ w S V A vs->∀t,(lay (xD u i A) t=.dead)\/(∃m v,i<=t/\vs[t - i]? = some v/\A[t - i]? = some m/\lay (xD u i A) t=P1 u t m/\pK w S (V (t - i)) m v)
 | [],_,_,i,_,t=>.inl rfl
 | m::A,[],_,i,h,t=>h.elim
 | m::A,v::vs,V,i,h,t=>by
  have c:lay (xD u i (m::A)) t=bif Nat.beq t i then P1 u i m else lay (xD u (i+1) A) t:=by cases m<;>rfl
  rw[c];cases a:Nat.beq t i with
  | true=>
   have:=C2 a;subst this;exact .inr ⟨m,v,z3 _,by simp,by simp,rfl,by rw[Nat.sub_self];exact h.1⟩
  | false=>
   have d:t≠i:=λe=>by subst e;rw[Nat.beq_refl]at a;cases a
   rcases zT (i+1) h.2 t with b|⟨f,g,b,j,k,l,n⟩
   ·exact .inl b
   ·refine .inr ⟨f,g,ω,?_,?_,l,?_⟩
    ·rw[show t - i=(t - (i+1))+1 by omega];simpa using j
    ·rw[show t - i=(t - (i+1))+1 by omega];simpa using k
    ·rw[show t - i=(t - (i+1))+1 by omega];exact n
theorem H5:∀{A:List MA}{vs:List Value}{V:Nat->ac},MQ w S V A vs->A.length=vs.length
 | [],[],_,_=>rfl
 | _::_,_::_,_,h=>by simp[H5 h.2]
 | [],_::_,_,h=>h.elim
 | _::_,[],_,h=>h.elim
theorem Hh{p:Nat->Value} : ∀{A:List MA}{i:Nat}{q:Nat × Value},q∈GL p i A->i<=q.1/\q.1<i+A.length/\q.2=p q.1
 | [],_,_,h=>by simp[GL]at h
 | m::A,i,q,h=>by
  have a:q∈GL p (i+1) A->i<=q.1/\q.1<i+(m::A).length/\q.2=p q.1:=λh=>by
   obtain⟨c,d,b⟩:=Hh h;exact⟨ω,by simp;omega,b⟩
  cases m with
  | ptr e=>
   rcases List.mem_cons.1 h with rfl|h
   ·exact⟨z3 _,by simp,rfl⟩
   ·exact a h
  | val=>exact a h
  | «mut»=>exact a h
theorem GH{p:Nat->Value} : ∀{A:List MA}{i n:Nat}{cs:List C},A[n]? = some (.ptr cs)->(i+n,p (i+n))∈GL p i A
 | [],_,n,_,h=>by simp at h
 | m::A,i,0,cs,h=>by simp at h;subst h;simp[GL]
 | m::A,i,n+1,cs,h=>by
  have a:=GH (p:=p) (i:=i+1) (show A[n]? = some (.ptr cs) by simpa using h);rw[show i+1+n=i+(n+1) by omega]at a;cases m with
  | ptr cs=>exact v5 _ a
  | val=>exact a
  | «mut»=>exact a
def PX(φ:Nat->ac):Option (Option Nat)->ac
 | some (some t)=>φ t
 | _=>NO
theorem B9{u:Nat->Value} : ∀{a:Nat}{cs xs b:List C},PD u a cs xs b->cs.length=b.length/\∀(j:Nat)(c o:C),cs[j]? = some c->b[j]? = some o->∃y,(dH c=true->xs[j]? = some y)/\Rm (u (a+j)) c y o
 | _,[],xs,b,h=>by simp only[PD]at h;subst h;exact⟨rfl,λj c o h=>by simp at h⟩
 | _,_::_,[],_,h=>by simp only[PD]at h
 | _,_::_,_::_,[],h=>by simp only[PD]at h
 | a,p::cs,f::xs,q::b,h=>by
  simp only[PD]at h;obtain⟨g,i⟩:=B9 h.2;refine⟨by simp[g],λj c o d e=>?_⟩;cases j with
  | zero=>simp at d e;subst d e;exact⟨f,λ_=>rfl,h.1⟩
  | succ j=>
   obtain⟨y,k,l⟩:=i j c o (by simpa using d) (by simpa using e);exact⟨y,λn=>by simpa using k n,by rw[show a+(j+1)=a+1+j by omega];exact l⟩
theorem Lg{S' Y F:ac}{u L:Nat->Value}{cs xs G:List C}{off:Nat}(g:bk S w w1)(n:∀b o,S b o->S' b o)(h:cP w S Y cs u)(h':cP w1 S' F xs L)(i:PD u 0 cs (xs.drop off) G):cP w1 S' F G u:=by
 obtain⟨f,M,U,V⟩:=h;obtain⟨H,r,t,A⟩:=h';obtain⟨W,N⟩:=B9 i;refine⟨λj b o=>off+j<xs.length/\H (off+j) b o,λj c q=>?_,λj q b o i=>t _ i.1 b o i.2,λj X q O P b o i p=>A _ _ i.1 p.1 ω b o i.2 p.2⟩;have Q:=(O2.1 q).1;have k:cs[j]? = some cs[j]:=I2 ω;obtain⟨y,l,a⟩:=N j _ c k q;rw[T6]at a;have d:=M j _ k;generalize cs[j]=B at k a d l;have keep:dH B=false->c=B->eC w1 S' (λb o=>off+j<xs.length/\H (off+j) b o) c (u j):=λR e=>by
  subst e;exact((d.bare (F':=NO) R).keep g (λ_ _ h=>h.elim)).mono n (λ_ _ h=>h.elim)
 cases B with
 | v Z=>exact keep rfl a
 | x=>exact keep rfl a
 | z=>exact keep rfl a
 | m es=>exact a.elim
 | it=>exact a.elim
 | s o J=>
  cases o with
  | imm=>exact keep rfl a
  | tag z=>exact a.elim
  | own=>
   have l:=l rfl;rw[List.getElem?_drop]at l;have D:=(O2.1 l).1;simp only[Rm]at a;split at a
   case h_2=>exact a.elim
   rename_i v' E;obtain⟨rfl,rfl⟩:=a;obtain⟨T,K⟩:=(r _ _ l).untag;rw[T]at K;exact K.mono (λ_ _ h=>h) (λb o h=>⟨D,h⟩)
theorem bi.backs{E:World}{S':ac}{u:Nat->Nat->Value}(h:bi w0 M S0 N S' φ F a E)(e:bk S w E)(f:∀b o,S b o->S' b o):∀{A:List MA}{g:List (Nat × Nat)}{B:List MA}{vs:List Value}{V:Nat->ac}{i:Nat},MQ w S V A vs->
  (∀j v,vs[j]? = some v->u (i+j)=celF v)->(∀j v cs,vs[j]? = some v->A[j]? = some (.ptr cs)->tvs a (i+j)=v)->ij u F i A g B->EF E S' (λn=>PX φ (Df i A g)[n]?) B vs
 | [],g,B,vs,V,i,l,q,r,c=>by
  cases vs with
  | cons _ _=>exact l.elim
  | nil=>cases B with
   | nil=>trivial
   | cons _ _=>simp only[ij]at c
 | m::A,[],B,vs,V,i,l,q,r,c=>by cases m<;>simp only[ij]at c
 | m::A,p::g,[],vs,V,i,l,q,r,c=>by cases m<;>simp only[ij]at c
 | m::A,p::g,G::B,[],V,i,l,q,r,c=>l.elim
 | m::A,p::g,G::B,v::vs,V,i,l,q,r,c=>by
  have next:ij u F (i+1) A g B->EF E S' (λn=>PX φ (Df (i+1) A g)[n]?) B vs:=λc=>
   bi.backs h e f l.2 (λj v H=>by rw[show i+1+j=i+(j+1) by omega];exact q (j+1) v (by simpa using H))
    (λj v cs H U=>by rw[show i+1+j=i+(j+1) by omega];exact r (j+1) v cs (by simpa using H) (by simpa using U)) c
  cases m with
  | val W cs=>
   cases G with
   | val C X=>simp only[ij]at c;exact⟨trivial,next c⟩
   | ptr=>simp only[ij]at c
   | «mut»=>simp only[ij]at c
  | «mut» W cs=>
   cases G with
   | val=>simp only[ij]at c
   | ptr=>simp only[ij]at c
   | «mut» C out=>
    simp only[ij]at c;obtain⟨⟨rfl,d⟩,J⟩:=c;refine⟨?_,next J⟩;have D:=bE.celF (show bE w S (V 0) C cs v from l.1);have K:u i=celF v:=q 0 v (by simp);have t:=h.slot p.1;cases y:F p.1 with
    | hold k xs=>
     rw[y]at d t;simp only at d;rw[K]at d;obtain⟨P,Y,Q,L,R,T,O⟩:=t;refine⟨by rw[<-(B9 d).1];exact D.1,celF v,D.2.1,?_⟩;exact(Lg e f D.2.2 O d).mono (λ_ _ h=>h) (λb o c=>by simpa[Df,PX] using L b o c)
    | _=>rw[y]at d;exact d.elim
  | ptr cs=>
   cases G with
   | val=>simp only[ij]at c
   | «mut»=>simp only[ij]at c
   | ptr out=>
    simp only[ij]at c;refine⟨?_,next c.2⟩;have D:tvs a i=v:=r 0 v cs (by simp) (by simp);have t:=h.slot i;cases y:F i with
    | hold k xs=>
     cases k with
     | box=>
      rw[y]at c t;have:=c.1;simp only at this;subst this;rw[D]at t;obtain⟨P,Y,Q,L,R,T,O⟩:=t;exact⟨P,Y,λb o c=>by simpa[Df,PX] using Q b o c,λb o c=>by simpa[Df,PX] using L b o c,R,T,O⟩
     | _=>rw[y]at c;exact c.1.elim
    | _=>rw[y]at c;exact c.1.elim
theorem sv:∀{l:List (Option Nat)},Gv l=true->∀(i a t c:Nat),i≠a->l[i]? = some (some t)->l[a]? = some (some c)->t≠c
 | [],_,i,a,t,c,_,h,_=>by simp at h
 | none::l,b,i,a,t,c,f,h,d=>by
  cases i with
  | zero=>simp at h
  | succ i=>cases a with
   | zero=>simp at d
   | succ a=>exact sv (l:=l) b i a t c ω (by simpa using h) (by simpa using d)
 | some j::l,b,i,a,t,c,f,h,d=>by
  simp only[Gv,I0]at b;have g:∀(n s:Nat),l[n]? = some (some s)->j≠s:=λn s k e=>by
   have:=Y3.1 b.1 _ (Z1 k);simp only[Bool.not_eq_true']at this;rw[e,Nat.beq_refl]at this;cases this
  cases i with
  | zero=>
   simp at h;subst h;cases a with
   | zero=>exact absurd rfl f
   | succ a=>exact g a c (by simpa using d)
  | succ i=>cases a with
   | zero=>simp at d;subst d;exact λe=>g i t (by simpa using h) e.symm
   | succ a=>exact sv b.2 i a t c ω (by simpa using h) (by simpa using d)
theorem wJ:∀{l:List (Option Nat)}{i t:Nat},l[i]? = some (some t)->t∈sles l
 | [],i,t,h=>by simp at h
 | none::l,i,t,h=>by
  cases i with
  | zero=>simp at h
  | succ i=>exact wJ (l:=l) (i:=i) (by simpa using h)
 | some a::l,i,t,h=>by
  cases i with
  | zero=>simp at h;subst h;simp[sles]
  | succ i=>exact v5 _ (wJ (l:=l) (i:=i) (by simpa using h))
theorem wU{φ:Nat->ac}{x:Option (Option Nat)}{b o:Nat}(h:PX φ x b o):∃t,x=some (some t)/\φ t b o:=by
 match x,h with
 | some (some t),h=>exact⟨t,rfl,h⟩
 | some none,h=>exact h.elim
 | none,h=>exact h.elim
theorem JA{f : Nat}{E : Func}{c : Code}{sh : Bool}{A B : List MA}{k : Kd}{rcs : List C}{mo : List (Nat × List Nat)}{n : Nat}(Q : List (Nat × Nat))(hTE : ∀t i, TE t = some i -> cj P t i)(hf : P.funcs[f]? = some E)(hn : (E.name == "runtime.NumGoroutine") = false)(a:E.body=some c){ck:Nat->Array Oper->Bool}{D:fp->Nat->Array Oper->((Nat->AV)->Prop)->(Nat->AV)->Prop}(hD:∀N,vS P N ck (D N))(hc:fT ck c=true)(hN:A.length+(E.ntmps - A.length)=n)(hok:Gv (Df 0 A Q)=true)(hsh:sh=true\/gH rcs)(hp:∀(u:Nat->Nat->Value)(p:Nat->Value),aw P TE ⟨n,GL p 0 A,mo⟩ (D ⟨n,GL p 0 A,mo⟩) c (Qp TE E.results.toList k rcs u A B Q) (lay (xD u 0 A))):aO P f sh A B k rcs:=by
 refine⟨⟨E,hf,hn,by rw[a];rfl⟩,λw S V r hS hV hVd hA=>?_⟩;have hlen:=H5 hA;refine calls_of_wp hf a ?_
 let u:Nat->Nat->Value:=λi=>celF (r.getD i undef)
 let p:Nat->Value:=λi=>r.getD i undef
 have htv:∀t v,r[t]? = some v->tvs {tmps:=r.toArray++Array.replicate (E.ntmps - r.toArray.size) undef,defers:=[]} t=v:=λt v l=>by
  have H:=(O2.1 l).1;simp only[tvs,C6];rw[Array.getElem?_append_left (by simpa using H)];simp only[List.getElem?_toArray];rw[l];rfl
 have hst:St w (λb o=>∃i,V i b o) S ⟨n,GL p 0 A,mo⟩ (lay (xD u 0 A)) {tmps:=r.toArray++Array.replicate (E.ntmps - r.toArray.size) undef,defers:=[]} w:=by
  refine⟨S,V,λt=>?_,hVd,λt b o h=>(hV t b o h).2,λt b o h=>⟨(hV t b o h).1,.inr ⟨t,h⟩⟩,λ_ _ h=>h,λb o h=>⟨hS b o h,.inl h⟩,CX _ _,by simp;omega,rfl,λq hq=>?_⟩
  ·rcases zT (u:=u) 0 hA t with J|⟨m,v,-,l,h2',G,U⟩
   ·rw[J];trivial
   ·rw[G]
    rw[Nat.sub_zero]at l U;rw[htv t v l];have hu:u t=celF v:=by show celF (r.getD t undef)=_;rw[List.getD,l];rfl
    cases m with
    | val O K=>exact(bE.mono (show bE w S NO O K v from U) (λ_ _ h=>h) (λ_ _ h=>h.elim)).slot
    | «mut» O K=>
     obtain⟨e1,e2,e3⟩:=bE.celF (show bE w S (V t) O K v from U);refine bE.slot ⟨by rw[ou];exact e1,celF v,e2,?_⟩;rw[hu];exact e3.tag
    | ptr K=>exact U
  ·obtain⟨-,J,l⟩:=Hh hq
   rw[l];have H:q.1<r.length:=ω
   refine htv _ _ ?_;show r[q.1]? = some (r.getD q.1 undef);rw[List.getD,I2 H];rfl
 refine iz hTE (hD _) c hc _ _ _ _ w (hp u p) hst λe F' W y he hs'=>?_
 obtain⟨S',φ',h⟩:=hs';have fin:resA TE F' E.results.toList (sles (Df 0 A Q)) (λsh K=>aP (jB sh) k K rcs (ij u F' 0 A Q B))->W.defers=[]/\∃v,(results E W.tmps).run P y=.ok v y/\(∃v',Ending.returned v=.returned v'/\bB (λb o=>∃i,V i b o) w y/\∃(X:ac)(Z:Nat->ac)(S1:ac),
     (∀b o,X b o->(∃i,V i b o)\/(b<y.heap.size/\w.heap.size<=b))/\(∀i b o,Z i b o->(∃i,V i b o)\/(b<y.heap.size/\w.heap.size<=b))/\
     (∀b o,S1 b o->(sh=true/\S b o)\/(∃i,V i b o)\/(b<y.heap.size/\w.heap.size<=b))/\
     (∀i i',i≠i'->∀b o,Z i b o->¬Z i' b o)/\(∀i b o,X b o->¬Z i b o)/\(∀b o,X b o->¬S1 b o)/\(∀i b o,Z i b o->¬S1 b o)/\
     fS y NO k rcs.length v'/\cP y S1 X rcs (bY y k v')/\EF y (λb o=>S b o\/S1 b o) Z B r):=by
  intro hr;obtain⟨shs,K,d,u',hfin,hrun,M,hln,hL,hcells,L,hrow⟩:=h.resA hTE hr;obtain⟨rfl,rfl,R⟩:=hfin.out;refine⟨h.defers,?_⟩;have T:(results E W.tmps).run P y=.ok (if h:d.toArray.size=1 then d.toArray[0] else .tuple d.toArray) y:=by
   have e:results E W.tmps=(do let r <-E.results.mapM (DR W.tmps);pure (if h:r.size=1 then r[0] else .tuple r)):=by
    unfold results
    congr 1
   rw[e,<-Array.toArray_toList (xs:=E.results),List.mapM_toArray];simp only[Sem.run_bind,Sem.run_map,hrun,Result.andThen_ok,Sem.run_pure]
  have hex:∀t b o,φ' t b o->(∃i,V i b o)\/(b<y.heap.size/\w.heap.size<=b):=λt b o a=>(h.ex t b o a).2.elim (λh'=>.inr ⟨(h.ex t b o a).1,h'⟩) .inl
  have hsameS:bk S w y:=λb o a=>by
   have H:=hS b o a;exact⟨h.old.cel b o H (λ⟨i,hi⟩=>(hV i b o hi).2 a),h.old.fro b o H (λ⟨i,hi⟩=>(hV i b o hi).2 a)⟩
  have hm:=h.backs (u:=u) hsameS h.sub hA (λj v hj=>by show celF (r.getD (0+j) undef)=_;rw[T6,List.getD,hj];rfl) (λj v K hj hc=>by
    have:=h.par _ (GH (p:=p) (i:=0) hc);rw[this];show r.getD (0+j) undef=v;rw[T6,List.getD,hj];rfl) R
  refine⟨_,T,_,rfl,h.old,λb o=>∃t,t∉sles (Df 0 A Q)/\φ' t b o,λi=>PX φ' (Df 0 A Q)[i]?,λb o=>(sh=true/\S' b o)\/(S' b o/\((∃i,V i b o)\/w.heap.size<=b)),λb o ⟨t,_,a⟩=>hex t b o a,λi b o a=>?_,λb o a=>?_,λi i' hne b o a g=>?_,λi b o ⟨t,ht,a⟩ g=>?_,λb o ⟨t,_,a⟩ g=>h.disS t b o a (g.elim (·.2) (·.1)),λi b o a g=>?_,?_⟩
  ·obtain⟨t,-,a⟩:=wU a
   exact hex t b o a
  ·rcases a with⟨J,l⟩|⟨J,l⟩
   ·rcases(h.sup b o l).2 with G|G|G
    ·exact .inl ⟨J,G⟩
    ·exact .inr (.inr ⟨(h.sup b o l).1,G⟩)
    ·exact .inr (.inl G)
   ·rcases l with l|l
    ·exact .inr (.inl l)
    ·exact .inr (.inr ⟨(h.sup b o J).1,l⟩)
  ·obtain⟨t,e1,a⟩:=wU a
   obtain⟨t',e2,g⟩:=wU g;exact h.dis t t' (sv hok i i' t t' hne e1 e2) b o a g
  ·obtain⟨t',e2,g⟩:=wU g
   exact h.dis t t' (λe=>ht (by rw[e];exact wJ e2)) b o a g
  ·obtain⟨t,-,a⟩:=wU a
   exact h.disS t b o a (g.elim (·.2) (·.1))
  ·have hk:fS y NO (jB shs) K.length (if h:d.toArray.size=1 then d.toArray[0] else .tuple d.toArray)/\cP y S' (λb o=>∃t,t∉sles (Df 0 A Q)/\φ' t b o) K (bY y (jB shs) (if h:d.toArray.size=1 then d.toArray[0] else .tuple d.toArray)):=by
    match shs,M,L,hL with
    | [],M,_,hL=>
     cases d with
     | cons _ _=>exact M.elim
     | nil=>
      have:K=[]:=X6 (by simpa[pO] using hL.symm);subst this;exact⟨⟨_,rfl,trivial,rfl⟩,cP.nil _ _ _ _⟩
    | [O],_,L,_=>
     obtain⟨v,rfl,hv⟩:=L O rfl;have:=hv.slot (F:=F') (tv:=tvs W);obtain⟨X1,Y,J,l,G,U,h5⟩:=this;refine⟨?_,h5.mono (λ_ _ h=>h) l⟩;cases O<;>exact U
    | O::ag2::sh,M,_,hL=>
     have hsz:¬d.toArray.size=1:=by
      match d,M with
      | [],M=>simp
      | [v],M=>cases O<;>cases ag2<;>exact M.2.elim
      | _::_::_,_=>simp
     rw[dif_neg hsz];refine⟨⟨_,rfl,M,hL⟩,hrow.congr λj hj=>?_⟩;simp only[bY,jB,lW,hcells];simp[List.getD,hj]
   refine⟨hk.1,?_,hm.mono λb o a=>?_⟩
   ·rcases hsh with J|J
    ·exact hk.2.mono (λb o a=>.inl ⟨J,a⟩) (λ_ _ h=>h)
    ·exact(hk.2.fresh J).mono (λ_ _ h=>h.elim) (λ_ _ h=>h)
   ·rcases(h.sup b o a).2 with G|G|G
    ·exact .inl G
    ·exact .inr (.inr ⟨a,.inr G⟩)
    ·exact .inr (.inr ⟨a,.inl G⟩)
 cases e with
 | normal=>exact fin he
 | ret=>exact fin he
 | _=>exact he.elim
end
abbrev I(z:Int):C:=.v (.int .i64 z)
abbrev B(b:Bool):C:=.v (.bool b)
def rI(_:d7)(z:Int):List C:=[I z]
def rB(_:d7)(b:Bool):List C:=[B b]
theorem pL(z:Int):gH (rI .own z):=⟨trivial,trivial⟩
theorem DE(b:Bool):gH (rB .own b):=⟨trivial,trivial⟩
def mr(z:Int):Prop:=-9223372036854775808<=z/\z<=9223372036854775807
def Rp(_:Bool):Prop:=True
theorem qm : Tryz.prog.follows .mixedOrders=true:=by kernel_rfl
theorem QG{n f : Nat}{mo : List (Nat × List Nat)}{a : Func}{c : Code}{sh : Bool}{A : List RA}{k : Kd}{rcs : List C}(d : Tryz.prog.funcs[f]? = some a)(e : (a.name == "runtime.NumGoroutine") = false)(g : a.body = some c){tb : List (Nat × Nat × List Nat)}(h : fT (mK tb) c = true)(i:A.length+(a.ntmps - A.length)=n)(b:sh=true\/gH rcs)(j:aw Tryz.prog TE ⟨n,[],mo⟩ (DF Tryz.prog TE ⟨n,[],mo⟩ tb) c (NW TE a.results.toList k rcs) (lay (uH 0 A))):ao Tryz.prog f sh A k rcs:=
 Kg rS d e g (qG rS qm ⟨n,[],mo⟩ tb) h i rfl b j
theorem Q8{n f : Nat}{mo : List (Nat × List Nat)}{a : Func}{c : Code}{sh : Bool}{A B : List MA}{k : Kd}{rcs : List C}(b : List (Nat × Nat))(g : Tryz.prog.funcs[f]? = some a)(h : (a.name == "runtime.NumGoroutine") = false)(i : a.body = some c){tb : List (Nat × Nat × List Nat)}(j : fT (mK tb) c = true)(l:A.length+(a.ntmps - A.length)=n)(d:Gv (Df 0 A b)=true)(e:sh=true\/gH rcs)(o:∀(u:Nat->Nat->Value)(p:Nat->Value),aw Tryz.prog TE ⟨n,GL p 0 A,mo⟩ (DF Tryz.prog TE ⟨n,GL p 0 A,mo⟩ tb) c (Qp TE a.results.toList k rcs u A B b) (lay (xD u 0 A))):aO Tryz.prog f sh A B k rcs:=
 JA b rS g h i (λN=>qG rS qm N tb) j l d e o
theorem QD{n f t : Nat}{mo : List (Nat × List Nat)}{a : Func}{c : Code}{A : List RA}{rcs : List C}(b : Tryz.prog.funcs[f]? = some a)(d : (a.name == "runtime.NumGoroutine") = false)(e : a.body = some c){tb : List (Nat × Nat × List Nat)}(g : fT (mK tb) c = true)(h:A.length+(a.ntmps - A.length)=n)(i:a.results = #[.tmp t])(j:aw Tryz.prog TE ⟨n,[],mo⟩ (DF Tryz.prog TE ⟨n,[],mo⟩ tb) c (QP t rcs) (lay (uH 0 A))):qt Tryz.prog f true A .box rcs:=
 HK rS b d e (qG rS qm ⟨n,[],mo⟩ tb) g h rfl i j
theorem eM{x:Int}(h1 : -9223372036854775808<=x)(a:x<=9223372036854775807):IntKind.i64.wrap x=x:=IntWalk.i64_in x (by constructor<;>assumption)
def Lh:RA->RA->Prop
 | .val ag cs,.val ag' cs'=>ag=ag'/\cs=cs'
 | .ptr cs,.ptr cs'=>cs=cs'
 | A,a=>A=a
theorem Lh.eq{A a:RA}(h:Lh A a):A=a:=by
 unfold Lh at h;split at h
 ·obtain⟨rfl,rfl⟩:=h;rfl
 ·rw[h]
 ·exact h
def Er:List RA->List RA->Prop
 | [],[]=>True
 | A::As,B::Bs=>Lh A B/\Er As Bs
 | _,_=>False
theorem Er.eq:∀{A a:List RA},Er A a->A=a
 | [],[],_=>rfl
 | A::As,B::Bs,h=>by rw[Lh.eq h.1,Er.eq h.2]
 | [],_::_,h=>h.elim
 | _::_,[],h=>h.elim
theorem Cl.eq{P:Program}{f:Nat}{b:Bool}{A a:List RA}{K:AV->Prop}{k:Kd}{rcs:List C}(h:ao P f false a k rcs)(c:Er A a)(d:K (.hold k rcs)):Cl P f b A K:=by rw[c.eq];exact C7 h d
theorem CG:type_of% @Cl.eq:=@Cl.eq
theorem vq{n b:Nat}(h:n<=1048576)(a:b<=1000):n*b<=140737488355328:=V4 (Nat.mul_le_mul h a) (by decide)
theorem Bf.NB{a b:Bool}{X Y:Prop}(h1:a≠b->X)(c:a=b->Y):Bf (a != b) X Y:=by
 refine Bf.P (λh=>h1 ?_) (λh=>c ?_)
 ·simpa using h
 ·simpa using h
theorem Rw.one{a:List C}{off i k j:Nat}{K:List C->Nat->Prop}{o:d7}{rows:List (List C)}{r:List C}(h1:a[off]? = some (.s o rows))(b:rows[i]? = some r)(c:r.length=k)(d:K r j):Rw a off [(i,k,j)] K:=
 Rw.mk (r:=r) (j:=j) (by simp[bW,h1,b,c]) d
theorem CH:type_of% @Rw.one:=@Rw.one
section
variable{α:Type}{A B:List α}
end
theorem aa{α β:Type}{f:α->β}{l:List α}{k:Nat}{x:α}(h:l[k]? = some x):(l.map f)[k]? = some (f x):=by simp[h]
def aF(o:d7)(x:List Int):List C:=[.s o (x.map (rI o))]
theorem dL(x:List Int):dw (aF .own x)=aF .imm x:=by simp[dw,aF,rI,dw]
theorem bJ(x:List Int):gH (aF .own x):=⟨⟨.inl λh=>(by cases h),bg _ _ λy _=>pL y⟩,trivial⟩
def ja(x:List Int):Prop:=x.length<=9223372036854775807/\∀y∈x,mr y
def rF(x:List Int):Prop:=x.length<=1048576
def i9(o:d7)(x:List (List Int)):List C:=[.s o (x.map (aF o))]
theorem zy(x:List (List Int)):dw (i9 .own x)=i9 .imm x:=by simp[dw,i9,dL,<-bR,T5]
def AN(x:List (List Int)):Prop:=x.length<=9223372036854775807/\∀y∈x,ja y
def xG(x:List (List Int)):Prop:=x.length<=1048576/\∀y∈x,rF y
def oP(o:d7)(x:List Bool):List C:=[.s o (x.map (rB o))]
theorem Jd(x:List Bool):dw (oP .own x)=oP .imm x:=by simp[dw,oP,rB,dw]
def Nh(x:List Bool):Prop:=x.length<=9223372036854775807/\∀y∈x,Rp y
def LJ(x:List Bool):Prop:=x.length<=1048576
structure aV where
 Cells:List (List Int)
 Used:List Bool
deriving DecidableEq,Inhabited
def aV.enc(o:d7)(x:aV):List C:=[.s o (x.Cells.map (aF o)),.s o (x.Used.map (rB o))]
theorem aV.enc_fz(x:aV):dw (aV.enc .own x)=aV.enc .imm x:=by simp[dw,aV.enc,rB,dL,<-bR,T5]
theorem aV.enc_fr(x:aV):gH (aV.enc .own x):=⟨⟨.inl λh=>(by cases h),bg _ _ λy _=>bJ y⟩,⟨.inl λh=>(by cases h),bg _ _ λy _=>DE y⟩,trivial⟩
def aV.wf(x:aV):Prop:=AN x.Cells/\Nh x.Used
def aV.sml(x:aV):Prop:=xG x.Cells/\LJ x.Used
structure bf where
 Mode:Int
 Frame:Int
deriving DecidableEq,Inhabited
def bf.enc(o:d7)(x:bf):List C:=[I x.Mode,I x.Frame]
theorem bf.enc_fz(x:bf):dw (bf.enc .own x)=bf.enc .imm x:=by simp[dw,bf.enc]
theorem bf.enc_fr(x:bf):gH (bf.enc .own x):=⟨trivial,trivial,trivial⟩
def bf.wf(x:bf):Prop:=mr x.Mode/\mr x.Frame
def bf.sml(_:bf):Prop:=True
def lR(o:d7)(x:List bf):List C:=[.s o (x.map (bf.enc o))]
theorem E9(x:List bf):dw (lR .own x)=lR .imm x:=by simp[dw,lR,bf.enc_fz,<-bR,T5]
def HR(x:List bf):Prop:=x.length<=9223372036854775807/\∀y∈x,bf.wf y
def Gx(x:List bf):Prop:=x.length<=1048576/\∀y∈x,bf.sml y
structure aH where
 Entries:List bf
deriving DecidableEq,Inhabited
def aH.enc(o:d7)(x:aH):List C:=[.s o (x.Entries.map (bf.enc o))]
theorem aH.enc_fz(x:aH):dw (aH.enc .own x)=aH.enc .imm x:=by simp[dw,aH.enc,bf.enc_fz,<-bR,T5]
theorem CY:type_of% @aH.enc_fz:=@aH.enc_fz
theorem aH.enc_fr(x:aH):gH (aH.enc .own x):=⟨⟨.inl λh=>(by cases h),bg _ _ λy _=>bf.enc_fr y⟩,trivial⟩
def aH.wf(x:aH):Prop:=HR x.Entries
def aH.sml(x:aH):Prop:=Gx x.Entries
structure aR where
 Frames:aV
 Table:aH
deriving DecidableEq,Inhabited
def aR.enc(o:d7)(x:aR):List C:=[.s o (x.Frames.Cells.map (aF o)),.s o (x.Frames.Used.map (rB o)),.s o (x.Table.Entries.map (bf.enc o))]
theorem aR.enc_fz(x:aR):dw (aR.enc .own x)=aR.enc .imm x:=by simp[dw,aR.enc,bf.enc_fz,rB,dL,<-bR,T5]
theorem aR.enc_fr(x:aR):gH (aR.enc .own x):=⟨⟨.inl λh=>(by cases h),bg _ _ λy _=>bJ y⟩,⟨.inl λh=>(by cases h),bg _ _ λy _=>DE y⟩,⟨.inl λh=>(by cases h),bg _ _ λy _=>bf.enc_fr y⟩,trivial⟩
def aR.wf(x:aR):Prop:=aV.wf x.Frames/\aH.wf x.Table
def aR.sml(x:aR):Prop:=aV.sml x.Frames/\aH.sml x.Table
structure af where
 Machine:aR
 Calls:Int
 Refuse:List Int
deriving DecidableEq,Inhabited
def af.enc(o:d7)(x:af):List C:=[.s o (x.Machine.Frames.Cells.map (aF o)),.s o (x.Machine.Frames.Used.map (rB o)),.s o (x.Machine.Table.Entries.map (bf.enc o)),I x.Calls,.s o (x.Refuse.map (rI o))]
theorem af.enc_fz(x:af):dw (af.enc .own x)=af.enc .imm x:=by simp[dw,af.enc,bf.enc_fz,rB,rI,dL,<-bR,T5]
theorem CP:type_of% @af.enc_fz:=@af.enc_fz
theorem af.enc_fr(x:af):gH (af.enc .own x):=⟨⟨.inl λh=>(by cases h),bg _ _ λy _=>bJ y⟩,⟨.inl λh=>(by cases h),bg _ _ λy _=>DE y⟩,⟨.inl λh=>(by cases h),bg _ _ λy _=>bf.enc_fr y⟩,trivial,⟨.inl λh=>(by cases h),bg _ _ λy _=>pL y⟩,trivial⟩
def af.wf(x:af):Prop:=aR.wf x.Machine/\mr x.Calls/\ja x.Refuse
def af.sml(x:af):Prop:=aR.sml x.Machine/\rF x.Refuse
structure ax where
 At:Int
 Len:Int
deriving DecidableEq,Inhabited
def ax.enc(o:d7)(x:ax):List C:=[I x.At,I x.Len]
theorem ax.enc_fz(x:ax):dw (ax.enc .own x)=ax.enc .imm x:=by simp[dw,ax.enc]
theorem ax.enc_fr(x:ax):gH (ax.enc .own x):=⟨trivial,trivial,trivial⟩
def ax.wf(x:ax):Prop:=mr x.At/\mr x.Len
def ax.sml(_:ax):Prop:=True
def b8(o:d7)(x:List ax):List C:=[.s o (x.map (ax.enc o))]
theorem d8(x:List ax):dw (b8 .own x)=b8 .imm x:=by simp[dw,b8,ax.enc_fz,<-bR,T5]
theorem kX(x:List ax):gH (b8 .own x):=⟨⟨.inl λh=>(by cases h),bg _ _ λy _=>ax.enc_fr y⟩,trivial⟩
def HQ(x:List ax):Prop:=x.length<=9223372036854775807/\∀y∈x,ax.wf y
def gp(x:List ax):Prop:=x.length<=1048576/\∀y∈x,ax.sml y
structure ar where
 Page:Int
 Class:Int
 Bits:Int
deriving DecidableEq,Inhabited
def ar.enc(o:d7)(x:ar):List C:=[I x.Page,I x.Class,I x.Bits]
theorem ar.enc_fz(x:ar):dw (ar.enc .own x)=ar.enc .imm x:=by simp[dw,ar.enc]
theorem ar.enc_fr(x:ar):gH (ar.enc .own x):=⟨trivial,trivial,trivial,trivial⟩
def ar.wf(x:ar):Prop:=mr x.Page/\mr x.Class/\mr x.Bits
def ar.sml(_:ar):Prop:=True
def ci(o:d7)(x:List ar):List C:=[.s o (x.map (ar.enc o))]
theorem fB(x:List ar):dw (ci .own x)=ci .imm x:=by simp[dw,ci,ar.enc_fz,<-bR,T5]
theorem FF(x:List ar):gH (ci .own x):=⟨⟨.inl λh=>(by cases h),bg _ _ λy _=>ar.enc_fr y⟩,trivial⟩
def LX(x:List ar):Prop:=x.length<=9223372036854775807/\∀y∈x,ar.wf y
def du(x:List ar):Prop:=x.length<=1048576/\∀y∈x,ar.sml y
structure a7 where
 Page:Int
 Pages:Int
 Size:Int
deriving DecidableEq,Inhabited
def a7.enc(o:d7)(x:a7):List C:=[I x.Page,I x.Pages,I x.Size]
theorem a7.enc_fz(x:a7):dw (a7.enc .own x)=a7.enc .imm x:=by simp[dw,a7.enc]
theorem a7.enc_fr(x:a7):gH (a7.enc .own x):=⟨trivial,trivial,trivial,trivial⟩
def a7.wf(x:a7):Prop:=mr x.Page/\mr x.Pages/\mr x.Size
def a7.sml(_:a7):Prop:=True
def bU(o:d7)(x:List a7):List C:=[.s o (x.map (a7.enc o))]
theorem jt(x:List a7):dw (bU .own x)=bU .imm x:=by simp[dw,bU,a7.enc_fz,<-bR,T5]
def Jn(x:List a7):Prop:=x.length<=9223372036854775807/\∀y∈x,a7.wf y
def dr(x:List a7):Prop:=x.length<=1048576/\∀y∈x,a7.sml y
structure bK where
 Id:Int
 Addr:Int
 Size:Int
 Thread:Int
deriving DecidableEq,Inhabited
def bK.enc(o:d7)(x:bK):List C:=[I x.Id,I x.Addr,I x.Size,I x.Thread]
theorem bK.enc_fz(x:bK):dw (bK.enc .own x)=bK.enc .imm x:=by simp[dw,bK.enc]
theorem bK.enc_fr(x:bK):gH (bK.enc .own x):=⟨trivial,trivial,trivial,trivial,trivial⟩
def bK.wf(x:bK):Prop:=mr x.Id/\mr x.Addr/\mr x.Size/\mr x.Thread
def bK.sml(_:bK):Prop:=True
def mu(o:d7)(x:List bK):List C:=[.s o (x.map (bK.enc o))]
theorem yY(x:List bK):dw (mu .own x)=mu .imm x:=by simp[dw,mu,bK.enc_fz,<-bR,T5]
def Pi(x:List bK):Prop:=x.length<=9223372036854775807/\∀y∈x,bK.wf y
def Mp(x:List bK):Prop:=x.length<=1048576/\∀y∈x,bK.sml y
structure aA where
 Lists:List (List Int)
deriving DecidableEq,Inhabited
def aA.enc(o:d7)(x:aA):List C:=[.s o (x.Lists.map (aF o))]
theorem aA.enc_fz(x:aA):dw (aA.enc .own x)=aA.enc .imm x:=by simp[dw,aA.enc,dL,<-bR,T5]
theorem aA.enc_fr(x:aA):gH (aA.enc .own x):=⟨⟨.inl λh=>(by cases h),bg _ _ λy _=>bJ y⟩,trivial⟩
def aA.wf(x:aA):Prop:=AN x.Lists
def aA.sml(x:aA):Prop:=xG x.Lists
def gN(o:d7)(x:List aA):List C:=[.s o (x.map (aA.enc o))]
theorem E4(x:List aA):dw (gN .own x)=gN .imm x:=by simp[dw,gN,aA.enc_fz,<-bR,T5]
def HM(x:List aA):Prop:=x.length<=9223372036854775807/\∀y∈x,aA.wf y
def wL(x:List aA):Prop:=x.length<=1048576/\∀y∈x,aA.sml y
structure di where
 To:Int
 Addr:Int
deriving DecidableEq,Inhabited
def di.enc(o:d7)(x:di):List C:=[I x.To,I x.Addr]
theorem di.enc_fz(x:di):dw (di.enc .own x)=di.enc .imm x:=by simp[dw,di.enc]
theorem di.enc_fr(x:di):gH (di.enc .own x):=⟨trivial,trivial,trivial⟩
def di.wf(x:di):Prop:=mr x.To/\mr x.Addr
def di.sml(_:di):Prop:=True
def cz(o:d7)(x:List di):List C:=[.s o (x.map (di.enc o))]
theorem nr(x:List di):dw (cz .own x)=cz .imm x:=by simp[dw,cz,di.enc_fz,<-bR,T5]
theorem q7(x:List di):gH (cz .own x):=⟨⟨.inl λh=>(by cases h),bg _ _ λy _=>di.enc_fr y⟩,trivial⟩
def MH(x:List di):Prop:=x.length<=9223372036854775807/\∀y∈x,di.wf y
def Jf(x:List di):Prop:=x.length<=1048576/\∀y∈x,di.sml y
def mc(o:d7)(x:List (List di)):List C:=[.s o (x.map (cz o))]
theorem D1(x:List (List di)):dw (mc .own x)=mc .imm x:=by simp[dw,mc,nr,<-bR,T5]
def HY(x:List (List di)):Prop:=x.length<=9223372036854775807/\∀y∈x,MH y
def F5(x:List (List di)):Prop:=x.length<=1048576/\∀y∈x,Jf y
structure aI where
 Buffers:List (List di)
 Inbox:List (List Int)
deriving DecidableEq,Inhabited
def aI.enc(o:d7)(x:aI):List C:=[.s o (x.Buffers.map (cz o)),.s o (x.Inbox.map (aF o))]
theorem aI.enc_fz(x:aI):dw (aI.enc .own x)=aI.enc .imm x:=by simp[dw,aI.enc,nr,dL,<-bR,T5]
theorem aI.enc_fr(x:aI):gH (aI.enc .own x):=⟨⟨.inl λh=>(by cases h),bg _ _ λy _=>q7 y⟩,⟨.inl λh=>(by cases h),bg _ _ λy _=>bJ y⟩,trivial⟩
def aI.wf(x:aI):Prop:=HY x.Buffers/\AN x.Inbox
def aI.sml(x:aI):Prop:=F5 x.Buffers/\xG x.Inbox
structure aK where
 Addr:Int
 Class:Int
 Since:Int
deriving DecidableEq,Inhabited
def aK.enc(o:d7)(x:aK):List C:=[I x.Addr,I x.Class,I x.Since]
theorem aK.enc_fz(x:aK):dw (aK.enc .own x)=aK.enc .imm x:=by simp[dw,aK.enc]
theorem aK.enc_fr(x:aK):gH (aK.enc .own x):=⟨trivial,trivial,trivial,trivial⟩
def aK.wf(x:aK):Prop:=mr x.Addr/\mr x.Class/\mr x.Since
def aK.sml(_:aK):Prop:=True
def cq(o:d7)(x:List aK):List C:=[.s o (x.map (aK.enc o))]
theorem uj(x:List aK):dw (cq .own x)=cq .imm x:=by simp[dw,cq,aK.enc_fz,<-bR,T5]
theorem lh(x:List aK):gH (cq .own x):=⟨⟨.inl λh=>(by cases h),bg _ _ λy _=>aK.enc_fr y⟩,trivial⟩
def JH(x:List aK):Prop:=x.length<=9223372036854775807/\∀y∈x,aK.wf y
def kv(x:List aK):Prop:=x.length<=1048576/\∀y∈x,aK.sml y
structure bu where
 Room:Int
 Lst:List aK
deriving DecidableEq,Inhabited
def bu.enc(o:d7)(x:bu):List C:=[I x.Room,.s o (x.Lst.map (aK.enc o))]
theorem bu.enc_fz(x:bu):dw (bu.enc .own x)=bu.enc .imm x:=by simp[dw,bu.enc,aK.enc_fz,<-bR,T5]
theorem bu.enc_fr(x:bu):gH (bu.enc .own x):=⟨trivial,⟨.inl λh=>(by cases h),bg _ _ λy _=>aK.enc_fr y⟩,trivial⟩
def bu.wf(x:bu):Prop:=mr x.Room/\JH x.Lst
def bu.sml(x:bu):Prop:=kv x.Lst
structure cv where
 Keep:Int
 Move:Int
 Cells:List Int
deriving DecidableEq,Inhabited
def cv.enc(o:d7)(x:cv):List C:=[I x.Keep,I x.Move,.s o (x.Cells.map (rI o))]
theorem cv.enc_fz(x:cv):dw (cv.enc .own x)=cv.enc .imm x:=by simp[dw,cv.enc,rI,<-bR,T5]
theorem cv.enc_fr(x:cv):gH (cv.enc .own x):=⟨trivial,trivial,⟨.inl λh=>(by cases h),bg _ _ λy _=>pL y⟩,trivial⟩
def cv.wf(x:cv):Prop:=mr x.Keep/\mr x.Move/\ja x.Cells
def cv.sml(x:cv):Prop:=rF x.Cells
structure cG where
 Plan:cv
 Phase:Int
 Next:Int
deriving DecidableEq,Inhabited
def cG.enc(o:d7)(x:cG):List C:=[I x.Plan.Keep,I x.Plan.Move,.s o (x.Plan.Cells.map (rI o)),I x.Phase,I x.Next]
theorem cG.enc_fz(x:cG):dw (cG.enc .own x)=cG.enc .imm x:=by simp[dw,cG.enc,rI,<-bR,T5]
theorem cG.enc_fr(x:cG):gH (cG.enc .own x):=⟨trivial,trivial,⟨.inl λh=>(by cases h),bg _ _ λy _=>pL y⟩,trivial,trivial,trivial⟩
def cG.wf(x:cG):Prop:=cv.wf x.Plan/\mr x.Phase/\mr x.Next
def cG.sml(x:cG):Prop:=cv.sml x.Plan
structure ab where
 Kernel:af
 Free:List ax
 Spans:List ar
 Larges:List a7
 Objs:List bK
 Caches:List aA
 Mail:aI
 Quar:bu
 Seed:Int
 Clock:Int
 Limit:Int
 Next:Int
 Meshing:Bool
 Job:cG
deriving DecidableEq,Inhabited
def ab.enc(o:d7)(x:ab):List C:=[.s o (x.Kernel.Machine.Frames.Cells.map (aF o)),.s o (x.Kernel.Machine.Frames.Used.map (rB o)),.s o (x.Kernel.Machine.Table.Entries.map (bf.enc o)),I x.Kernel.Calls,.s o (x.Kernel.Refuse.map (rI o)),.s o (x.Free.map (ax.enc o)),.s o (x.Spans.map (ar.enc o)),.s o (x.Larges.map (a7.enc o)),.s o (x.Objs.map (bK.enc o)),.s o (x.Caches.map (aA.enc o)),.s o (x.Mail.Buffers.map (cz o)),.s o (x.Mail.Inbox.map (aF o)),I x.Quar.Room,.s o (x.Quar.Lst.map (aK.enc o)),I x.Seed,I x.Clock,I x.Limit,I x.Next,B x.Meshing,I x.Job.Plan.Keep,I x.Job.Plan.Move,.s o (x.Job.Plan.Cells.map (rI o)),I x.Job.Phase,I x.Job.Next]
theorem ab.enc_fz(x:ab):dw (ab.enc .own x)=ab.enc .imm x:=by simp[dw,ab.enc,aA.enc_fz,bf.enc_fz,a7.enc_fz,bK.enc_fz,ax.enc_fz,ar.enc_fz,aK.enc_fz,rB,nr,rI,dL,<-bR,T5]
theorem ab.enc_fr(x:ab):gH (ab.enc .own x):=⟨⟨.inl λh=>(by cases h),bg _ _ λy _=>bJ y⟩,⟨.inl λh=>(by cases h),bg _ _ λy _=>DE y⟩,⟨.inl λh=>(by cases h),bg _ _ λy _=>bf.enc_fr y⟩,trivial,⟨.inl λh=>(by cases h),bg _ _ λy _=>pL y⟩,⟨.inl λh=>(by cases h),bg _ _ λy _=>ax.enc_fr y⟩,⟨.inl λh=>(by cases h),bg _ _ λy _=>ar.enc_fr y⟩,⟨.inl λh=>(by cases h),bg _ _ λy _=>a7.enc_fr y⟩,⟨.inl λh=>(by cases h),bg _ _ λy _=>bK.enc_fr y⟩,⟨.inl λh=>(by cases h),bg _ _ λy _=>aA.enc_fr y⟩,⟨.inl λh=>(by cases h),bg _ _ λy _=>q7 y⟩,⟨.inl λh=>(by cases h),bg _ _ λy _=>bJ y⟩,trivial,⟨.inl λh=>(by cases h),bg _ _ λy _=>aK.enc_fr y⟩,trivial,trivial,trivial,trivial,trivial,trivial,trivial,⟨.inl λh=>(by cases h),bg _ _ λy _=>pL y⟩,trivial,trivial,trivial⟩
def ab.wf(x:ab):Prop:=af.wf x.Kernel/\HQ x.Free/\LX x.Spans/\Jn x.Larges/\Pi x.Objs/\HM x.Caches/\aI.wf x.Mail/\bu.wf x.Quar/\mr x.Seed/\mr x.Clock/\mr x.Limit/\mr x.Next/\Rp x.Meshing/\cG.wf x.Job
def ab.sml(x:ab):Prop:=af.sml x.Kernel/\gp x.Free/\du x.Spans/\dr x.Larges/\Mp x.Objs/\wL x.Caches/\aI.sml x.Mail/\bu.sml x.Quar/\cG.sml x.Job
structure iW where
 Kind:Int
 Index:Int
 Slot:Int
 Offset:Int
deriving DecidableEq,Inhabited
def iW.enc(o:d7)(x:iW):List C:=[I x.Kind,I x.Index,I x.Slot,I x.Offset]
theorem iW.enc_fr(x:iW):gH (iW.enc .own x):=⟨trivial,trivial,trivial,trivial,trivial⟩
structure Ru where
 Id:Int
 Size:Int
 Sum:Int
deriving DecidableEq,Inhabited
structure b9 where
 Id:Int
 Cells:List Int
deriving DecidableEq,Inhabited
def b9.enc(o:d7)(x:b9):List C:=[I x.Id,.s o (x.Cells.map (rI o))]
theorem b9.enc_fz(x:b9):dw (b9.enc .own x)=b9.enc .imm x:=by simp[dw,b9.enc,rI,<-bR,T5]
theorem b9.enc_fr(x:b9):gH (b9.enc .own x):=⟨trivial,⟨.inl λh=>(by cases h),bg _ _ λy _=>pL y⟩,trivial⟩
def b9.sml(x:b9):Prop:=rF x.Cells
def sX(o:d7)(x:List b9):List C:=[.s o (x.map (b9.enc o))]
theorem AY(x:List b9):dw (sX .own x)=sX .imm x:=by simp[dw,sX,b9.enc_fz,<-bR,T5]
def EA(x:List b9):Prop:=x.length<=1048576/\∀y∈x,b9.sml y
structure ay where
 Next:Int
 Objs:List b9
deriving DecidableEq,Inhabited
def ay.enc(o:d7)(x:ay):List C:=[I x.Next,.s o (x.Objs.map (b9.enc o))]
theorem ay.enc_fz(x:ay):dw (ay.enc .own x)=ay.enc .imm x:=by simp[dw,ay.enc,b9.enc_fz,<-bR,T5]
theorem CZ:type_of% @ay.enc_fz:=@ay.enc_fz
theorem ay.enc_fr(x:ay):gH (ay.enc .own x):=⟨trivial,⟨.inl λh=>(by cases h),bg _ _ λy _=>b9.enc_fr y⟩,trivial⟩
def ay.sml(x:ay):Prop:=EA x.Objs
structure bD where
 Heap:ab
 Ref:ay
deriving DecidableEq,Inhabited
def bD.enc(o:d7)(x:bD):List C:=[.s o (x.Heap.Kernel.Machine.Frames.Cells.map (aF o)),.s o (x.Heap.Kernel.Machine.Frames.Used.map (rB o)),.s o (x.Heap.Kernel.Machine.Table.Entries.map (bf.enc o)),I x.Heap.Kernel.Calls,.s o (x.Heap.Kernel.Refuse.map (rI o)),.s o (x.Heap.Free.map (ax.enc o)),.s o (x.Heap.Spans.map (ar.enc o)),.s o (x.Heap.Larges.map (a7.enc o)),.s o (x.Heap.Objs.map (bK.enc o)),.s o (x.Heap.Caches.map (aA.enc o)),.s o (x.Heap.Mail.Buffers.map (cz o)),.s o (x.Heap.Mail.Inbox.map (aF o)),I x.Heap.Quar.Room,.s o (x.Heap.Quar.Lst.map (aK.enc o)),I x.Heap.Seed,I x.Heap.Clock,I x.Heap.Limit,I x.Heap.Next,B x.Heap.Meshing,I x.Heap.Job.Plan.Keep,I x.Heap.Job.Plan.Move,.s o (x.Heap.Job.Plan.Cells.map (rI o)),I x.Heap.Job.Phase,I x.Heap.Job.Next,I x.Ref.Next,.s o (x.Ref.Objs.map (b9.enc o))]
theorem bD.enc_fr(x:bD):gH (bD.enc .own x):=⟨⟨.inl λh=>(by cases h),bg _ _ λy _=>bJ y⟩,⟨.inl λh=>(by cases h),bg _ _ λy _=>DE y⟩,⟨.inl λh=>(by cases h),bg _ _ λy _=>bf.enc_fr y⟩,trivial,⟨.inl λh=>(by cases h),bg _ _ λy _=>pL y⟩,⟨.inl λh=>(by cases h),bg _ _ λy _=>ax.enc_fr y⟩,⟨.inl λh=>(by cases h),bg _ _ λy _=>ar.enc_fr y⟩,⟨.inl λh=>(by cases h),bg _ _ λy _=>a7.enc_fr y⟩,⟨.inl λh=>(by cases h),bg _ _ λy _=>bK.enc_fr y⟩,⟨.inl λh=>(by cases h),bg _ _ λy _=>aA.enc_fr y⟩,⟨.inl λh=>(by cases h),bg _ _ λy _=>q7 y⟩,⟨.inl λh=>(by cases h),bg _ _ λy _=>bJ y⟩,trivial,⟨.inl λh=>(by cases h),bg _ _ λy _=>aK.enc_fr y⟩,trivial,trivial,trivial,trivial,trivial,trivial,trivial,⟨.inl λh=>(by cases h),bg _ _ λy _=>pL y⟩,trivial,trivial,trivial,⟨.inl λh=>(by cases h),bg _ _ λy _=>b9.enc_fr y⟩,trivial⟩
structure gS where
 Pages:Int
 Mapped:Int
 Frames:Int
 Held:Int
 Live:Int
 Cached:Int
 Stale:Int
 Posted:Int
deriving DecidableEq,Inhabited
def gS.enc(o:d7)(x:gS):List C:=[I x.Pages,I x.Mapped,I x.Frames,I x.Held,I x.Live,I x.Cached,I x.Stale,I x.Posted]
theorem gS.enc_fr(x:gS):gH (gS.enc .own x):=⟨trivial,trivial,trivial,trivial,trivial,trivial,trivial,trivial,trivial⟩
theorem Lm{α β:Type}{f:α->β}{l:List α}{K:Nat->Prop}(h:K l.length):Ln (l.map f).length K:=Ln.mk (Z0 ..) h
theorem Wm{z:Int}{K:Int->Prop}(h : -9223372036854775808<=z/\z<=9223372036854775807)(a:K z):Wr .i64 z K:=CK (eM h.1 h.2) a
theorem dT{p:Prop}[Decidable p]{X Y:Prop}(h:p)(a:p->X):Bf (decide p) X Y:=.D a λe=>absurd h e
theorem dF{p:Prop}[Decidable p]{X Y:Prop}(h:¬p)(a:¬p->Y):Bf (decide p) X Y:=.D (λe=>absurd e h) a
theorem nT{a b:Int}{X Y:Prop}(h:a≠b)(c:a≠b->X):Bf (a != b) X Y:=.N c λe=>absurd e h
theorem nF{a b:Int}{X Y:Prop}(h:a=b)(c:a=b->Y):Bf (a != b) X Y:=.N (λe=>absurd h e) c
theorem eT{a b:Int}{X Y:Prop}(h:a=b)(c:a=b->X):Bf (a == b) X Y:=.E c λe=>absurd h e
theorem eF{a b:Int}{X Y:Prop}(h:a≠b)(c:a≠b->Y):Bf (a == b) X Y:=.E (λe=>absurd e h) c
theorem Bn{b:Bool}{X Y:Prop}(h:Bf b Y X):Bf (!b) X Y:=.not h
theorem Bt{X Y:Prop}(h:X):Bf true X Y:=.t rfl h
theorem Bu{X Y:Prop}(h:Y):Bf false X Y:=.f rfl h
theorem Fm{k b:Kd}{cs a:List C}(h1:k=b)(h:cs=a):j9 k b cs a:=.mk h1 h
theorem dV{p:Prop}[Decidable p]{X Y:Prop}(h:p)(a:X):Bf (decide p) X Y:=.D (λ_=>a) λe=>absurd h e
theorem dW{p:Prop}[Decidable p]{X Y:Prop}(h:¬p)(a:Y):Bf (decide p) X Y:=.D (λe=>absurd e h) λ_=>a
theorem nV{a b:Int}{X Y:Prop}(h:a≠b)(c:X):Bf (a != b) X Y:=.N (λ_=>c) λe=>absurd e h
theorem nW{a b:Int}{X Y:Prop}(h:a=b)(c:Y):Bf (a != b) X Y:=.N (λe=>absurd h e) λ_=>c
theorem eV{a b:Int}{X Y:Prop}(h:a=b)(c:X):Bf (a == b) X Y:=.E (λ_=>c) λe=>absurd h e
theorem eW{a b:Int}{X Y:Prop}(h:a≠b)(c:Y):Bf (a == b) X Y:=.E (λe=>absurd e h) λ_=>c
structure PY(Y:Prop):Prop where
 out:Y
theorem gO{X Y:Prop}(y:Y)(h:PY Y->X:=by intro y;(conv=>whnf);(first|with_reducible (first|refine Lm ?_|refine Wm ω ?_|refine Bn ?_|refine Fm rfl ?_)|refine Bt ?_|refine Bu ?_|fail);exact y.out):X:=h ⟨y⟩
theorem gD{X Y:Prop}(y:Y)(h:PY Y->X:=by intro y;(conv=>whnf);(first|with_reducible (first|refine Lm ?_|refine Wm ω ?_|refine dV ω ?_|refine dW ω ?_|refine Bn ?_|refine Fm rfl ?_)|refine Bt ?_|refine Bu ?_|fail);exact y.out):X:=h ⟨y⟩
theorem gA{X Y:Prop}(y:Y)(h:PY Y->X:=by intro y;(conv=>whnf);(first|with_reducible (first|refine Lm ?_|refine Wm ω ?_|refine dV ω ?_|refine dW ω ?_|refine nV ω ?_|refine nW ω ?_|refine eV ω ?_|refine eW ω ?_|refine Bn ?_|refine Fm rfl ?_)|refine Bt ?_|refine Bu ?_|fail);exact y.out):X:=h ⟨y⟩
theorem Q4{z1 z2:Int}(h:z1=z2):NG (I z1) (I z2):=by subst h;rfl
theorem Re(c:C):NG c c:=(km [c]).1
theorem wA{X:Prop}(h:X:=by repeat'(first|exact trivial|rfl|refine CJ ?_ ?_)):X:=h
theorem wB{X:Prop}(h:X:=by repeat'(first|exact trivial|rfl|refine CJ ?_ ?_|(exact Q4 (by first|omega|(simp only;omega)|(simp;omega))))):X:=h
theorem wC{X:Prop}(h:X:=by repeat'(first|exact trivial|rfl|exact Re _|refine CJ ?_ ?_|(exact Q4 (by first|omega|(simp only;omega)|(simp;omega))))):X:=h
theorem fO(n : Nat){f : Nat}{a : Func}{c : Code}{sh : Bool}{A : List RA}{k : Kd}{rcs : List C}(tb : List (Nat × Nat × List Nat))(d : Tryz.prog.funcs[f]? = some a)(e : a.body = some c)(g : aw Tryz.prog TE ⟨n, [], []⟩ (DF Tryz.prog TE ⟨n, [], []⟩ tb) c (NW TE a.results.toList k rcs) (lay (uH 0 A)))(b : sh = true \/ gH rcs := by exact .inr ⟨trivial, trivial⟩)(h : (a.name == "runtime.NumGoroutine") = false := by kernel_rfl)(i : fT (mK tb) c = true := by kernel_rfl)(j : A.length + (a.ntmps - A.length) = n := by rfl) : ao Tryz.prog f sh A k rcs := QG d h e i j b g
theorem fP(n : Nat){f : Nat}{a : Func}{c : Code}{sh : Bool}{A : List RA}{k : Kd}{rcs : List C}(mo : List (Nat × List Nat))(tb : List (Nat × Nat × List Nat))(d : Tryz.prog.funcs[f]? = some a)(e : a.body = some c)(g : aw Tryz.prog TE ⟨n, [], mo⟩ (DF Tryz.prog TE ⟨n, [], mo⟩ tb) c (NW TE a.results.toList k rcs) (lay (uH 0 A)))(b : sh = true \/ gH rcs := by exact .inr ⟨trivial, trivial⟩)(h : (a.name == "runtime.NumGoroutine") = false := by kernel_rfl)(i : fT (mK tb) c = true := by kernel_rfl)(j : A.length + (a.ntmps - A.length) = n := by rfl) : ao Tryz.prog f sh A k rcs := QG d h e i j b g
theorem fM(n : Nat){f : Nat}{a : Func}{c : Code}{sh : Bool}{A B : List MA}{k : Kd}{rcs : List C}(mo : List (Nat × List Nat))(tb : List (Nat × Nat × List Nat))(b : List (Nat × Nat))(g : Tryz.prog.funcs[f]? = some a)(h : a.body = some c)(i : ∀(u : Nat -> Nat -> Value)(p : Nat -> Value), aw Tryz.prog TE ⟨n, GL p 0 A, mo⟩ (DF Tryz.prog TE ⟨n, GL p 0 A, mo⟩ tb) c (Qp TE a.results.toList k rcs u A B b) (lay (xD u 0 A)))(d : sh = true \/ gH rcs := by exact .inr ⟨trivial, trivial⟩)(j : (a.name == "runtime.NumGoroutine") = false := by kernel_rfl)(l : fT (mK tb) c = true := by kernel_rfl)(o : A.length + (a.ntmps - A.length) = n := by rfl)(e : Gv (Df 0 A b) = true := by rfl) : aO Tryz.prog f sh A B k rcs := Q8 b g j h l o e d i
section
variable{α:Type}{l:List α}{p:α->Bool}{i:Nat}{x:α}
theorem cL(h:l[i]? = some x)(a:(l.take i).all p=true)(b:p x=true):(l.take (i+1)).all p=true:=by
 rw[C5,h,List.all_append,a];simp[b]
theorem eD(h:l[i]? = some x)(a:p x=false):l.all p=false:=by
 rw[List.all_eq_false];exact⟨x,Z1 h,by simp[a]⟩
theorem gu(a:l.length<=i)(b:(l.take i).all p=true):l.all p=true:=by
 rwa [V6 a]at b
end
theorem vp{α β:Type}{a:List α}{b:List β}{i:Nat}{x:α}{y:β}(h1:a[i]? = some x)(c:b[i]? = some y):(a.zip b)[i]? = some (x,y):=by
 rw[List.getElem?_zip_eq_some];exact⟨h1,c⟩
def nth{α:Type}[Inhabited α](xs:List α)(i:Nat):α:=xs.getD i default
theorem ah{α:Type}[Inhabited α]{xs:List α}{i:Nat}(h:i<xs.length):xs[i]? = some (nth xs i):=by
 unfold nth;rw[W2,I2 h];rfl
theorem bq{α:Type}[Inhabited α]{xs:List α}{i:Nat}{y:α}(h:xs[i]? = some y):nth xs i=y:=by
 unfold nth;rw[W2,h];rfl
theorem am{α:Type}[Inhabited α]{xs:List α}{i:Nat}(h:i<xs.length):nth xs i∈xs:=Z1 (ah h)
def cS(n:Nat)(p:Nat->Bool):Bool:=(List.range n).all p
theorem cn{n:Nat}{p:Nat->Bool} : cS n p=true↔∀j,j<n->p j=true:=by
 unfold cS;simp
theorem bL{n:Nat}{p:Nat->Bool}(h:cS n p=true)(a:p n=true):cS (n+1) p=true:=by
 rw[cn]at *;grind
theorem cr{n i:Nat}{p:Nat->Bool}(a:i<n)(b:p i=false):cS n p=false:=by
 by_cases h:cS n p=true
 ·rw[cn]at h;grind
 ·simpa using h
theorem dI{n i:Nat}{p:Nat->Bool}(h:cS n p=true)(a:i<n):p i=true:=cn.1 h i a
def iO(u:Bool)(v:Int):Bool:=decide (0<=v/\v<=999)&&(u || decide (v=0))
def ir(r:List Int)(u:Bool):Bool:=decide (r.length=16)&&r.all (iO u)
def cN(f:aV):Bool:=decide (1<=f.Cells.length/\f.Cells.length<=32)&&(decide (f.Used.length=f.Cells.length)&&(f.Cells.zip f.Used).all λq=>ir q.1 q.2)
theorem iv{f:aV}{i:Nat}{r:List Int}{u:Bool}(h1:f.Cells[i]? = some r)(a:f.Used[i]? = some u)(b:ir r u=false):cN f=false:=by
 unfold cN;rw[eD (p:=λq=>ir q.1 q.2) (vp h1 a) b];simp
theorem re{r:List Int}{u:Bool}{k:Nat}{v:Int}(h1:r[k]? = some v)(a:iO u v=false):ir r u=false:=by
 unfold ir;rw[eD h1 a];simp
theorem Ba{f:aV}(h:cN f=true):1<=f.Cells.length/\f.Cells.length<=32/\f.Used.length=f.Cells.length:=by
 unfold cN at h;simp only[I0,C0]at h;exact⟨h.1.1,h.1.2,h.2.1⟩
def ku(a:Int)(e:bf):Bool:=decide (0<=e.Mode/\e.Mode<=2/\(e.Mode=0->e.Frame=0)/\(e.Mode≠0->0<=e.Frame/\e.Frame<a))
def fZ(t:aH)(a:Int):Bool:=cS t.Entries.length (λi=>ku a (nth t.Entries i))&&decide (1<=t.Entries.length/\t.Entries.length<=32)
def Kj(t:aH)(f:Int)(i:Nat):Bool:=decide ((nth t.Entries i).Mode≠0/\(nth t.Entries i).Frame=f)
def jq(t:aH)(f:Int)(n:Nat):List Int:=((List.range n).filter (Kj t f)).map λ(i:Nat)=>(i:Int)
def pagesOn(t:aH)(f:Int):List Int:=jq t f t.Entries.length
theorem zE{t:aH}{f:Int}{n:Nat}(h:Kj t f n=true):jq t f (n+1)=jq t f n++[(n:Int)]:=by
 unfold jq;rw[List.range_succ,List.filter_append,O5];simp[h]
theorem DI{t:aH}{f:Int}{n:Nat}(h:Kj t f n=false):jq t f (n+1)=jq t f n:=by
 unfold jq;rw[List.range_succ,List.filter_append,O5];simp[h]
theorem sC(t:aH)(f:Int)(n:Nat):(jq t f n).length<=n:=by
 unfold jq;rw[Z0];exact V4 (List.length_filter_le ..) (by simp)
def au(t:aH)(p:Int):bf:=if 0<=p/\p<t.Entries.length then nth t.Entries p.toNat else⟨0,0⟩
def oR(m:aR)(i:Nat):Bool:=nth m.Frames.Used i == decide (0<(pagesOn m.Table (i:Int)).length)
def dv(m:aR):Bool:=(cN m.Frames&&fZ m.Table m.Frames.Used.length)&&cS m.Frames.Used.length (oR m)
def aB(k:af):Bool:=(cS k.Refuse.length (λi=>decide (0<=nth k.Refuse i))&&dv k.Machine)&&decide (0<=k.Calls/\k.Calls<=100000/\k.Refuse.length<=40)
def rangeIn(pages:Int)(r:ax):Bool:=decide (1<=r.Len/\r.Len<=pages/\0<=r.At/\r.At<=pages - r.Len)
def fU(pages:Int)(xs:List ax)(i:Nat):Bool:=rangeIn pages (nth xs i)&&decide (i=0\/(nth xs (i - 1)).At+(nth xs (i - 1)).Len<(nth xs i).At)
def bt(pages:Int)(xs:List ax):Bool:=cS xs.length (fU pages xs)&&decide (1<=pages/\pages<=32)
def qN(page:Int)(r:ax):Bool:=decide (r.At<=page)&&decide (page<IntKind.i64.wrap (r.At+r.Len))
def lim(k:Int):Int:=if k=0 then 65535 else if k=1 then 255 else if k=2 then 15 else if k=3 then 3 else 0
def slots(k:Int):Int:=if k=0 then 16 else if k=1 then 8 else if k=2 then 4 else if k=3 then 2 else 0
def aY(s:ar):Bool:=decide (0<=s.Page/\s.Page<=31/\0<=s.Class/\s.Class<=3/\0<=s.Bits/\s.Bits<=lim s.Class)
def fe(n:Int):Int:=if 9<=n/\n<=1000 then(n+15) / 16 else 0
def bQ(l:a7):Bool:=decide (9<=l.Size/\l.Size<=1000/\l.Pages=(l.Size+15) / 16/\0<=l.Page/\l.Page<=32 - l.Pages)
def lpgs(l:a7)(n:Nat):List Int:=(List.range n).map λ(i:Nat)=>l.Page+i
def pgs(sp:List ar)(la:List a7):List Int:=sp.map (·.Page)++la.flatMap λl=>lpgs l l.Pages.toNat
def bh(sp:List ar)(la:List a7):Bool:=(sp.all aY&&la.all bQ)&&decide (pgs sp la).Nodup
def cm(s:ar)(a:Int):Bool:=aY s&&decide (16*s.Page<=a/\a<=16*s.Page+15)
def aU(b i:Int):Bool:=decide (0<=b/\0<=i/\i<=15/\b / 2 ^ i.toNat % 2=1)
def bo(l:a7)(a:Int):Bool:=bQ l&&decide (16*l.Page<=a/\a<=16*l.Page+l.Size - 1)
def csz(k:Int):Int:=if 0<=k/\k<=3 then 2 ^ k.toNat else 0
def iD(s:ar)(a:Int):Int × Int:=if cm s a then((a - 16*s.Page) / csz s.Class,(a - 16*s.Page) % csz s.Class) else(-1,-1)
def mV(i:Nat)(s:ar)(a:Int):iW:=⟨if aU s.Bits ((a - 16*s.Page) / csz s.Class) then 1 else 2,i,(a - 16*s.Page) / csz s.Class,(a - 16*s.Page) % csz s.Class⟩
def denotes(sp:List ar)(la:List a7)(a:Int):iW:=
 match sp.findIdx? (cm · a) with
 | some i=>mV i (nth sp i) a
 | none=>match la.findIdx? (bo · a) with
  | some i=>⟨3,i,0,a - 16*(nth la i).Page⟩
  | none=>⟨0,0,0,0⟩
theorem vb{α:Type}{pr:α->Bool}{xs:List α}{i:Nat}{y:α}(a:xs[i]? = some y)(b:pr y=true)(c:∀(j:Nat)(z:α),j<i->xs[j]? = some z->pr z=false):xs.findIdx? pr=some i:=by
 obtain⟨d,rfl⟩:=O2.1 a;exact U6.2 ⟨d,b,λj e=>by
   have:=c j _ e (I2 ω);simp[this]⟩
theorem wa{α:Type}{pr:α->Bool}{xs:List α}{i:Nat}(d:xs.length<=i)(b:∀(j:Nat)(z:α),j<i->xs[j]? = some z->pr z=false):xs.findIdx? pr=none:=
 List.findIdx?_eq_none_iff.2 λz c=>by
  obtain⟨j,a⟩:=List.mem_iff_getElem?.1 c;exact b j z (by have:=(O2.1 a).1;omega) a
theorem dC{α:Type}{pr:α->Bool}{xs:List α}{i:Nat}{y:α}(c:xs[i]? = some y)(d:pr y=false)(e:∀(j:Nat)(z:α),j<i->xs[j]? = some z->pr z=false):∀(j:Nat)(z:α),j<i+1->xs[j]? = some z->pr z=false:=by
 intro j z f a;rcases Nat.lt_or_ge j i with b|b
 ·exact e j z b a
 ·obtain rfl:j=i:=ω
  rw[c]at a;cases a;exact d
def dP{α:Type}(pr:α->Bool)(xs:List α):Int:=match xs.findIdx? pr with|some i=>(i:Nat)|none=>-1
theorem eI{α:Type}{pr:α->Bool}{xs:List α}{i:Nat}{y:α}(a:xs[i]? = some y)(b:pr y=true)(c:∀(j:Nat)(z:α),j<i->xs[j]? = some z->pr z=false):dP pr xs=(i:Nat):=by
 unfold dP;rw[vb a b c]
theorem gk{α:Type}{pr:α->Bool}{xs:List α}{i:Nat}(a:xs.length<=i)(b:∀(j:Nat)(z:α),j<i->xs[j]? = some z->pr z=false):dP pr xs = -1:=by
 unfold dP;rw[wa a b]
theorem lX{α:Type}(pr:α->Bool)(xs:List α):decide (dP pr xs≥0)=xs.any pr:=by
 unfold dP;cases h:xs.findIdx? pr with
 | none=>
  have:=List.findIdx?_eq_none_iff.1 h;have a:xs.any pr=false:=by rw[List.any_eq_false];intro y b;simp[this y b]
  rw[a];rfl
 | some i=>
  obtain⟨c,d,-⟩:=U6.1 h;have a:xs.any pr=true:=X3.2 ⟨_,List.getElem_mem c,d⟩;rw[a];simp
def meshable(s t:ar):Bool:=(aY s&&aY t)&&decide (s.Class=t.Class/\s.Page≠t.Page/\s.Bits.toNat &&& t.Bits.toNat=0)
def mL(n:Int)(p:di):Bool:=decide (0<=p.To/\p.To<=n - 1/\0<=p.Addr)
def Pe(z:Int):Bool:=decide (0<=z)
def gC(m:aI)(i:Nat):Bool:=(nth m.Buffers i).all (mL m.Buffers.length)&&(nth m.Inbox i).all Pe
def br(m:aI):Nat->Int
 | 0=>0
 | i+1=>br m i+((nth m.Buffers i).length+(nth m.Inbox i).length)
def bI(m:aI):Bool:=(decide (1<=m.Buffers.length/\m.Buffers.length<=4/\m.Inbox.length=m.Buffers.length)&&cS m.Buffers.length (gC m))&&decide (br m m.Buffers.length<=30)
def aE(m:aI):List Int:=if bI m then(m.Buffers.flatMap λl=>l.map (·.Addr))++m.Inbox.flatten else []
def ep(a:Int)(y:aK):Bool:=decide (y.Addr=a)
def je(xs:List aK)(i:Nat):Bool:=decide (0<=(nth xs i).Class/\(nth xs i).Class<=3/\0<=(nth xs i).Addr/\0<=(nth xs i).Since/\(i=0\/(nth xs (i - 1)).Since<=(nth xs i).Since))&&!(xs.take i).any (ep (nth xs i).Addr)
def quarCells(xs:List aK):Nat->Int
 | 0=>0
 | i+1=>quarCells xs i+csz (nth xs i).Class
def eQ(q:bu):Bool:=cS q.Lst.length (je q.Lst)&&decide (0<=q.Room/\q.Room<=500/\quarCells q.Lst q.Lst.length<=q.Room)
def mJ(xs:List Int)(i:Nat):Bool:=decide (0<=nth xs i/\nth xs i<=15/\(i=0\/nth xs (i - 1)<nth xs i))
def fj(p:cv):Bool:=cS p.Cells.length (mJ p.Cells)&&decide (0<=p.Keep/\p.Keep<=31/\0<=p.Move/\p.Move<=31/\p.Keep≠p.Move)
def jx(j:cG):Bool:=fj j.Plan&&decide (0<=j.Phase/\j.Phase<=5/\0<=j.Next/\j.Next<=j.Plan.Cells.length)
def qX(j:cG):Bool:=decide (j.Plan.Keep=0/\j.Plan.Move=0/\j.Plan.Cells.length=0/\j.Phase=0/\j.Next=0)
def aT(h:ab)(p:Int):List Int:=if(au h.Kernel.Machine.Table p).Mode=0 then [] else pagesOn h.Kernel.Machine.Table (au h.Kernel.Machine.Table p).Frame
def iS(p:Int)(s:ar):Bool:=decide (s.Page=p)
def eB(h:ab)(p:Int):Int:=dP (iS p) h.Spans
def aL(n:Int):Int:=if n<1 then -1 else if n<=1 then 0 else if n<=2 then 1 else if n<=4 then 2 else if n<=8 then 3 else -1
set_option maxRecDepth 20000
set_option maxHeartbeats 2000000
theorem aG(n lo a:Int):ao Tryz.prog 152 false [.val none [I n],.val none [I lo],.val none [I a]] .one [B (decide (lo<=n/\n<=a))]:=by
 refine fO 15 [] Tryz.func152 rfl ?_
 repeat'(first|refine gO ?_|(conv=>whnf);first|with_reducible refine Bf.D (λb=>?_) (λb=>?_))
 all_goals exact W0 (λz=>[B z]) (by simp;try omega)
theorem aN(n lo a:Int):ao Tryz.prog 76 false [.val none [I n],.val none [I lo],.val none [I a]] .one [B (decide (lo<=n/\n<=a))]:=by
 refine fO 15 [] Tryz.func76 rfl ?_
 repeat'(first|refine gO ?_|(conv=>whnf);first|with_reducible refine Bf.D (λb=>?_) (λb=>?_))
 all_goals exact W0 (λz=>[B z]) (by simp;try omega)
theorem eS(k:Int):ao Tryz.prog 167 false [.val none [I k]] .one [B (decide (0<=k/\k<=3))]:=by
 refine fO 5 [] Tryz.func167 rfl ?_
 repeat'(first|refine gO ?_|(conv=>whnf);first|refine C7 (aN k 0 3) ?_)
 rfl
theorem cJ(k:Int):ao Tryz.prog 89 false [.val none [I k]] .one [I (csz k)]:=by
 by_cases b:0<=k/\k<=3
 ·obtain rfl|rfl|rfl|rfl:k=0\/k=1\/k=2\/k=3:=ω
  all_goals
   refine fO 8 [] Tryz.func89 rfl ?_
   repeat'(first|refine gD ?_|(conv=>whnf);first|with_reducible refine Bf.D (λa=>?_) (λa=>?_)|refine C7 (eS _) ?_|refine CM (by decide) ?_|refine CK rfl ?_)
   exact W0 (λz=>[I z]) (by decide)
 ·refine fO 8 [] Tryz.func89 rfl ?_
  repeat'(first|refine gD ?_|(conv=>whnf);first|with_reducible refine Bf.D (λa=>?_) (λa=>?_)|refine C7 (eS _) ?_)
  exact W0 (λz=>[I z]) (by unfold csz;rw[C8 b])
theorem de(k:Int):ao Tryz.prog 274 false [.val none [I k]] .one [I (csz k)]:=by
 by_cases b:0<=k/\k<=3
 ·obtain rfl|rfl|rfl|rfl:k=0\/k=1\/k=2\/k=3:=ω
  all_goals
   refine fO 9 [] Tryz.func274 rfl ?_
   repeat'(first|refine gD ?_|(conv=>whnf);first|with_reducible refine Bf.D (λa=>?_) (λa=>?_)|refine C7 (aG _ 0 3) ?_|refine CM (by decide) ?_|refine CK rfl ?_)
   exact W0 (λz=>[I z]) (by decide)
 ·refine fO 9 [] Tryz.func274 rfl ?_
  repeat'(first|refine gD ?_|(conv=>whnf);first|with_reducible refine Bf.D (λa=>?_) (λa=>?_)|refine C7 (aG _ 0 3) ?_)
  exact W0 (λz=>[I z]) (by unfold csz;rw[C8 b])
theorem lZ(xs:List Int)(a:Int)(j:xs.length<=9223372036854775807):ao Tryz.prog 268 false [.val none (aF .imm xs),.val none [I a]] .one [B (decide (a∈xs))]:=by
 refine fO 18 [] Tryz.func268 rfl ?_
 repeat'(first|refine gO ?_|fail)
 (conv=>whnf)
 refine CE (ι:=Nat) (λi=>[(0,.hold .one (aF .imm xs)),(1,.hold .one [I a]),(5,.hold .one [I (i:Nat)])]) (λi=>i<=xs.length/\a∉xs.take i) (λi=>xs.length - i) 0 ?_ ⟨U0 _,by simp⟩ λi g=>?_
 ·exact wB
 ·obtain⟨g,b⟩:=g
  by_cases c:i<xs.length
  ·obtain⟨y,d⟩ : ∃y,xs[i]? = some y:=⟨_,I2 c⟩
   repeat'(first|refine gD ?_|(conv=>whnf);first|with_reducible (first|refine CB (aa d) ?_|refine Bf.E (λh=>?_) (λh=>?_)))
   ·exact W0 (λz=>[B z]) (by symm;simp;rw[<-‹y=a›];exact Z1 d)
   ·(conv=>whnf)
    refine CD (i+1) ⟨ω,?_⟩ ω ?_
    ·rw[C5,d]
     simp only[Option.toList_some,v3,I1,not_or];exact⟨b,λe=>‹y≠a› e.symm⟩
    ·exact wB
  ·repeat'(first|refine gD ?_|fail)
   rw[V6 ω]at b;exact W0 (λz=>[B z]) (by symm;simpa using b)
set_option maxHeartbeats 4000000
def good(k:Int)(s:List Int)(a:Int):Prop:=0<=a/\a<=511/\a.tmod (csz k)=0/\a∉s
instance (k:Int) (s:List Int) (a:Int):Decidable (good k s a):=by unfold good;exact inferInstance
def qQ(k:Int):List Int->List Int->Option (List Int)
 | s,[]=>some s
 | s,a::l=>if good k s a then qQ k (s++[a]) l else none
def eH(k:Nat)(s l:List Int):Option (List Int):=if l.length<=8/\k<=3 then qQ k s l else none
def gd:Nat->List Int->List (List Int)->Option (List Int)
 | _,s,[]=>some s
 | k,s,l::ls=>(eH k s l).bind λa=>gd (k+1) a ls
def bn(c:aA):Bool:=decide (c.Lists.length=4)&&(gd 0 [] c.Lists).isSome
theorem qH(k:Int):∀(a s b:List Int),qQ k s (a++b)=(qQ k s a).bind λc=>qQ k c b
 | [],s,b=>rfl
 | x::a,s,b=>by
  simp only[List.cons_append,qQ];split
  ·exact qH k a _ b
  ·rfl
theorem oI:∀(a:List (List Int))(k:Nat)(s:List Int)(b:List (List Int)),gd k s (a++b)=(gd k s a).bind λc=>gd (k+a.length) c b
 | [],k,s,b=>rfl
 | l::a,k,s,b=>by
  simp only[List.cons_append,gd,Option.bind_assoc,List.length_cons]
  congr 1;funext c
  rw[oI a (k+1) c b,show k+1+a.length=k+(a.length+1) by omega]
theorem Ha{k:Int}{l b s:List Int}{j:Nat}{a:Int}(c:l[j]? = some a)(h:qQ k b (l.take j)=some s)(d:good k s a):qQ k b (l.take (j+1))=some (s++[a]):=by
 rw[C5,c,Option.toList_some,qH,h];simp[qQ,d]
theorem Lk{k:Nat}{l c s:List Int}{j:Nat}{a:Int}(d:l[j]? = some a)(h:qQ k c (l.take j)=some s)(e:¬good k s a):eH k c l=none:=by
 unfold eH;split
 ·have:l=l.take j++(a::l.drop (j+1)):=by
   obtain⟨b,rfl⟩:=O2.1 d;rw[<-List.drop_eq_getElem_cons b,List.take_append_drop]
  rw[this,qH,h];simp[qQ,e]
 ·rfl
theorem A4{k:Int} : ∀{l s b:List Int},qQ k s l=some b->b.length=s.length+l.length
 | [],s,b,h=>by simp only[qQ,X0]at h;subst h;simp
 | a::l,s,b,h=>by
  simp only[qQ]at h;split at h
  ·have:=A4 h;simp at this |-;omega
  ·cases h
theorem sr{a:List (List Int)}{i:Nat}{l s:List Int}(b:a[i]? = some l)(h:gd 0 [] (a.take i)=some s):gd 0 [] (a.take (i+1))=eH i s l:=by
 have c:=(O2.1 b).1;rw[C5,b,Option.toList_some,oI,h];simp only[Option.bind_some,gd,T6,U1,Nat.min_eq_left (Nat.le_of_lt c)];cases eH i s l<;>rfl
theorem kF{c:aA}{i:Nat}{l s:List Int}(b:c.Lists[i]? = some l)(h:gd 0 [] (c.Lists.take i)=some s)(d:eH i s l=none):bn c=false:=by
 have a:=sr b h;rw[d]at a;have e:gd 0 [] c.Lists=none:=by
  rw[<-List.take_append_drop (i+1) c.Lists,oI,a];rfl
 unfold bn;rw[e];simp
theorem EW:∀{b:List (List Int)}{k:Nat}{s a:List Int},gd k s b=some a->a.length<=s.length+8*b.length
 | [],k,s,a,h=>by simp only[gd,X0]at h;subst h;simp
 | l::b,k,s,a,h=>by
  simp only[gd]at h;unfold eH at h;split at h
  ·cases c:qQ k s l with
   | none=>rw[c]at h;cases h
   | some d=>
    rw[c]at h;have e:=A4 c;have f:=EW (show gd (k+1) d b=some a from h);simp only[List.length_cons];omega
  ·cases h
theorem KI{i:Nat}(h:i<=3):csz (i:Int)≠0:=by
 obtain rfl|rfl|rfl|rfl:i=0\/i=1\/i=2\/i=3:=ω
 all_goals decide
theorem co{l:List Int} : ∀r∈l.map (rI .own),r.length=1:=by
 intro r a;obtain⟨z,-,rfl⟩:=z4.1 a;rfl
theorem nl(c:aA)(u:aA.sml c):ao Tryz.prog 208 false [.val (some 1) (aA.enc .imm c)] .one [B (bn c)]:=by
 have H:=u.1;refine fO 60 [] Tryz.func208 rfl ?_
 repeat'(first|refine gO ?_|(conv=>whnf);first|with_reducible refine Bf.N (λe=>?_) (λe=>?_))
 ·exact W0 (λz=>[B z]) (by symm;unfold bn;rw[T0 ω];rfl)
 have w:c.Lists.length=4:=ω
 (conv=>whnf)
 refine CE (ι:=Nat × List Int) (λi=>[(1,.hold .box (aA.enc .imm c)),(3,.hold .one (aF .own i.2)),(4,.hold .one [I (i.1:Nat)])]) (λi=>i.1<=4/\gd 0 [] (c.Lists.take i.1)=some i.2) (λi=>4 - i.1) (0,[]) ?_ ⟨U0 _,rfl⟩ λi k=>?_
 ·exact wB
 ·obtain⟨i,s⟩:=i
  obtain⟨k,b⟩:=k;simp only at k b |-;have g:=EW b;rw[U1]at g;simp only[List.length_nil]at g;by_cases E:i<4
  ·obtain⟨l,d⟩ : ∃l,c.Lists[i]? = some l:=⟨_,I2 ω⟩
   have F:l.length<=1048576:=u.2 l (Z1 d)
   repeat'(first|refine gD ?_|(conv=>whnf);first|with_reducible (first|refine CB (aa d) ?_|refine Bf.D (λe=>?_) (λe=>?_)))
   ·exact W0 (λz=>[B z]) (kF d b (by unfold eH;rw[C8 ω])).symm
   have n:l.length<=8:=ω
   (conv=>whnf)
   refine CE (ι:=Nat × List Int) (λj=>[(1,.hold .box (aA.enc .imm c)),(3,.hold .one (aF .own j.2)),(4,.hold .one [I (i:Nat)]),(5,.hold .one [I (j.1:Nat)])]) (λj=>j.1<=l.length/\qQ i s (l.take j.1)=some j.2) (λj=>l.length - j.1) (0,s) ?_ ⟨U0 _,rfl⟩ λj o=>?_
   ·exact wB
   ·obtain⟨j,p⟩:=j
    obtain⟨o,a⟩:=o;simp only at o a |-;have h:=A4 a;rw[U1]at h;by_cases q:j<l.length
    ·obtain⟨y,t⟩ : ∃y,l[j]? = some y:=⟨_,I2 q⟩
     repeat'(first|refine gD ?_|(conv=>whnf);first|with_reducible (first|refine CB (aa d) ?_|refine CB (aa t) ?_|refine Bf.D (λe=>?_) (λe=>?_)|refine Bf.N (λe=>?_) (λe=>?_))|refine C7 (aG y 0 511) ?_|refine C7 (de (i:Nat)) ?_|refine CM (KI ω) ?_|refine CS rfl ?_|refine CG (lZ p y ω) ⟨⟨rfl,dL _⟩,⟨rfl,rfl⟩,trivial⟩ ?_|refine CQ co (λr G=>by rw[I1.1 G];rfl) (by simp[aX,dH]) (by simp;omega) (by simp only[Z0];exact vq (by simp;omega) (by decide)) rfl ?_)
     all_goals first
      | exact W0 (λz=>[B z]) (kF d b (Lk t a λ⟨J,K,L,M⟩=>by first|contradiction|omega)).symm
      | ((conv=>whnf)
         refine CD (j+1,p++[y]) ⟨(by simp only;omega),Ha t a ⟨ω,ω,(by assumption),(by assumption)⟩⟩ (by simp only;omega) ?_
         (repeat'(first|exact trivial|rfl|exact CJ rfl (CJ (W0 (C.s d7.own) (by simp[rI])) trivial)|refine CJ ?_ ?_)))
    ·repeat'(first|refine gD ?_|(conv=>whnf);first|with_reducible refine CB (aa d) ?_)
     (conv=>whnf)
     rw[V6 ω]at a;refine CD (i+1,p) ⟨(by simp only;omega),(by rw[sr d b];unfold eH;rw[C9 ⟨n,ω⟩];exact a)⟩ (by simp only;omega) ?_;exact wB
  ·repeat'(first|refine gD ?_|fail)
   rw[V6 ω]at b;exact W0 (λz=>[B z]) (by symm;unfold bn;rw[b,O0 w];rfl)
def fx(s:List Int):List (Int × Value):=s.map λa=>(a,.bool true)
theorem mI(a:Int):∀(s:List Int),mlook (fx s) a (.bool false)=.bool (decide (a∈s))
 | []=>by simp[fx,mlook]
 | x::s=>by
  have b:=mI a s;simp only[fx,U5,mlook]at b |-;by_cases h:x=a
  ·rw[C9 h];simp[h]
  ·rw[C8 h,b]
   congr 1
   simp[show ¬a=x from λe=>h e.symm]
theorem sW{a:Int} : ∀{s:List Int},a∉s->fx (s++[a])=mput (fx s) a (.bool true)
 | [],_=>rfl
 | x::s,h=>by
  simp only[List.mem_cons,not_or]at h;have b:=sW h.2;simp only[fx,List.cons_append,U5,mput]at b |-;rw[C8 λe=>h.1 e.symm,b]
theorem jI(c:aA)(u:aA.sml c):ao Tryz.prog 72 false [.val (some 1) (aA.enc .imm c)] .one [B (bn c)]:=by
 have C:=u.1;refine fO 54 [] Tryz.func72 rfl ?_
 repeat'(first|refine gO ?_|fail)
 (conv=>whnf)
 refine CE (ι:=Nat × List Int) (λi=>[(1,.hold .box (aA.enc .imm c)),(3,.hold .one [.m (fx i.2)]),(10,.hold .one (i9 .imm c.Lists)),(11,.hold .one [I c.Lists.length]),(12,.hold .one [I (i.1:Nat)])]) (λi=>i.1<=c.Lists.length/\gd 0 [] (c.Lists.take i.1)=some i.2) (λi=>c.Lists.length - i.1) (0,[]) ?_ ⟨U0 _,rfl⟩ λi h=>?_
 ·exact wB
 ·obtain⟨i,s⟩:=i
  obtain⟨h,b⟩:=h;simp only at h b |-;by_cases k:i<c.Lists.length
  ·obtain⟨l,d⟩ : ∃l,c.Lists[i]? = some l:=⟨_,I2 k⟩
   have w:l.length<=1048576:=u.2 l (Z1 d)
   repeat'(first|refine gD ?_|(conv=>whnf);first|with_reducible (first|refine CB (aa d) ?_|refine Bf.D (λe=>?_) (λe=>?_))|refine C7 (eS (i:Nat)) ?_)
   ·exact W0 (λz=>[B z]) (kF d b (by unfold eH;rw[C8 ω])).symm
   rotate_left
   ·exact W0 (λz=>[B z]) (kF d b (by unfold eH;rw[C8 ω])).symm
   have n:l.length<=8:=ω
   have o:i<=3:=ω
   (conv=>whnf)
   refine CE (ι:=Nat × List Int) (λj=>[(1,.hold .box (aA.enc .imm c)),(3,.hold .one [.m (fx j.2)]),(4,.hold .one [I (i:Nat)]),(10,.hold .one (i9 .imm c.Lists)),(11,.hold .one [I c.Lists.length]),(12,.hold .one [I (i:Nat)]),(25,.hold .one (aF .imm l)),(26,.hold .one [I l.length]),(27,.hold .one [I (j.1:Nat)])]) (λj=>j.1<=l.length/\qQ i s (l.take j.1)=some j.2) (λj=>l.length - j.1) (0,s) ?_ ⟨U0 _,rfl⟩ λj p=>?_
   ·exact wB
   ·obtain⟨j,q⟩:=j
    obtain⟨p,a⟩:=p;simp only at p a |-;by_cases r:j<l.length
    ·obtain⟨y,t⟩ : ∃y,l[j]? = some y:=⟨_,I2 r⟩
     repeat'(first|refine gD ?_|(conv=>whnf);first|with_reducible (first|refine CB (aa d) ?_|refine CB (aa t) ?_|refine Bf.D (λe=>?_) (λe=>?_)|refine Bf.N (λe=>?_) (λe=>?_))|refine C7 (aN y 0 511) ?_|refine C7 (cJ (i:Nat)) ?_|refine CM (KI ω) ?_|refine CS rfl ?_|refine Ml.mk (mI y q) ?_|refine Mu.mk (sW (by assumption)) ?_)
     all_goals first
      | exact W0 (λz=>[B z]) (kF d b (Lk t a λ⟨E,F,G,H⟩=>by first|contradiction|omega)).symm
      | ((conv=>whnf)
         refine CD (j+1,q++[y]) ⟨(by simp only;omega),Ha t a ⟨ω,ω,(by assumption),(by assumption)⟩⟩ (by simp only;omega) ?_
         (exact wA))
    ·repeat'(first|refine gD ?_|fail)
     (conv=>whnf)
     rw[V6 ω]at a;refine CD (i+1,q) ⟨(by simp only;omega),(by rw[sr d b];unfold eH;rw[C9 ⟨n,o⟩];exact a)⟩ (by simp only;omega) ?_;exact wB
  ·repeat'(first|refine gD ?_|fail)
   rw[V6 ω]at b;have g:((c.Lists.length:Int) == 4)=decide (c.Lists.length=4):=by
    by_cases g:c.Lists.length=4
    ·simp[g]
    ·rw[T0 g];simp;omega
   exact W0 (λz=>[B z]) (g.trans (by unfold bn;rw[b];simp))
def cK:Nat->List (List Int)->Int
 | _,[]=>0
 | k,l::ls=>l.length*csz k+cK (k+1) ls
def bj(c:aA):Int:=if bn c then cK 0 c.Lists else 0
theorem n9:∀(a:List (List Int))(k:Nat)(l:List Int),cK k (a++[l])=cK k a+l.length*csz (k+a.length:Nat)
 | [],k,l=>by simp[cK]
 | x::a,k,l=>by
  simp only[List.cons_append,cK,List.length_cons];rw[n9 a (k+1) l,show k+1+a.length=k+(a.length+1) by omega];omega
theorem lE{a:List (List Int)}{i:Nat}{l:List Int}(b:a[i]? = some l):cK 0 (a.take (i+1))=cK 0 (a.take i)+l.length*csz i:=by
 have c:=(O2.1 b).1;rw[C5,b,Option.toList_some,n9];simp only[T6,U1,Nat.min_eq_left (Nat.le_of_lt c)]
theorem Hx:∀{b:List (List Int)}{k:Nat}{s c:List Int},gd k s b=some c->∀l∈b,l.length<=8
 | [],k,s,c,h,l,a=>by simp at a
 | x::b,k,s,c,h,l,a=>by
  simp only[gd]at h;unfold eH at h;split at h
  ·rename_i e
   rcases List.mem_cons.1 a with rfl|a
   ·exact e.1
   ·cases d:qQ k s x with
    | none=>rw[d]at h;cases h
    | some f=>rw[d]at h;exact Hx (show gd (k+1) f b=some c from h) l a
  ·cases h
theorem kV{c:aA}(h:bn c=true):c.Lists.length=4/\∀l∈c.Lists,l.length<=8:=by
 unfold bn at h;simp only[I0,C0]at h;obtain⟨s,a⟩:=Option.isSome_iff_exists.1 h.2;exact⟨h.1,Hx a⟩
theorem Lc(i:Nat):0<=csz (i:Int)/\csz (i:Int)<=8:=by
 by_cases h:i<=3
 ·obtain rfl|rfl|rfl|rfl:i=0\/i=1\/i=2\/i=3:=ω
  all_goals decide
 ·unfold csz;rw[C8 ω];decide
theorem Hq{n:Nat}{k:Int}(b:n<=8)(a:0<=k)(c:k<=8):0<=(n:Int)*k/\(n:Int)*k<=64:=by
 refine⟨Int.mul_nonneg ω a,?_⟩;have d:(n:Int)*k<=8*k:=Int.mul_le_mul_of_nonneg_right ω a;omega
theorem pQ(f:aV)(n:aV.sml f):ao Tryz.prog 63 false [.val (some 2) (aV.enc .imm f)] .one [B (cN f)]:=by
 have C:=n.1.1;have E:f.Used.length<=1048576:=n.2;refine fO 61 [] Tryz.func63 rfl ?_
 repeat'(first|refine gO ?_|(conv=>whnf);first|with_reducible (first|refine Bf.D (λa=>?_) (λa=>?_)|refine Bf.N (λa=>?_) (λa=>?_))|refine C7 (aG f.Cells.length 1 32) ?_)
 ·exact W0 (λz=>[B z]) (by symm;unfold cN;rw[T0 (by omega:¬(f.Used.length=f.Cells.length))];simp)
 rotate_left
 ·exact W0 (λz=>[B z]) (by symm;unfold cN;rw[T0 (by omega:¬(1<=f.Cells.length/\f.Cells.length<=32))];rfl)
 have h:1<=f.Cells.length/\f.Cells.length<=32:=ω
 have j:f.Used.length=f.Cells.length:=ω
 (conv=>whnf)
 refine CE (ι:=Nat) (λi=>[(1,.hold .box (aV.enc .imm f)),(3,.hold .one [I (i:Nat)])]) (λi=>i<=f.Cells.length/\((f.Cells.zip f.Used).take i).all (λq=>ir q.1 q.2)=true) (λi=>f.Cells.length - i) 0 ?_ ⟨U0 _,rfl⟩ λi o=>?_
 ·exact wB
 ·obtain⟨o,t⟩:=o
  by_cases l:i<f.Cells.length
  ·obtain⟨r,c⟩ : ∃r,f.Cells[i]? = some r:=⟨_,I2 l⟩
   obtain⟨u,b⟩ : ∃u,f.Used[i]? = some u:=⟨_,I2 ω⟩
   repeat'(first|refine gD ?_|(conv=>whnf);first|with_reducible (first|refine CB (aa c) ?_|refine Bf.N (λa=>?_) (λa=>?_)))
   ·exact W0 (λz=>[B z]) (iv c b (by unfold ir;rw[T0 ω];rfl)).symm
   have g:r.length=16:=ω
   (conv=>whnf)
   refine CE (ι:=Nat) (λk=>[(1,.hold .box (aV.enc .imm f)),(3,.hold .one [I (i:Nat)]),(4,.hold .one [I (k:Nat)])]) (λk=>k<=16/\(r.take k).all (iO u)=true) (λk=>16 - k) 0 ?_ ⟨U0 _,rfl⟩ λk w=>?_
   ·exact wB
   ·obtain⟨w,d⟩:=w
    by_cases y:k<16
    ·obtain⟨v,e⟩ : ∃v,r[k]? = some v:=⟨_,I2 ω⟩
     cases u with
     | true=>
      repeat'(first|refine gD ?_|(conv=>whnf);first|with_reducible (first|refine CB (aa c) ?_|refine CB (aa b) ?_|refine CB (aa e) ?_|refine Bf.D (λa=>?_) (λa=>?_)|refine Bf.N (λa=>?_) (λa=>?_))|refine C7 (aG v 0 999) ?_)
      all_goals first
       | exact W0 (λz=>[B z]) (iv c b (re e (by first|(unfold iO;rw[T0 ω];rfl)|(unfold iO;rw[T0 (p:=v=0) ω];simp)))).symm
       | ((conv=>whnf)
          refine CD (ι:=Nat) (k+1) ⟨ω,cL e d (by unfold iO;first|(rw[O0 ω];rfl)|(rw[O0 (p:=0<=v/\v<=999) ω,O0 (p:=v=0) ω];rfl))⟩ ω ?_
          (exact wA))
     | false=>
      repeat'(first|refine gD ?_|(conv=>whnf);first|with_reducible (first|refine CB (aa c) ?_|refine CB (aa b) ?_|refine CB (aa e) ?_|refine Bf.D (λa=>?_) (λa=>?_)|refine Bf.N (λa=>?_) (λa=>?_))|refine C7 (aG v 0 999) ?_)
      all_goals first
       | exact W0 (λz=>[B z]) (iv c b (re e (by first|(unfold iO;rw[T0 ω];rfl)|(unfold iO;rw[T0 (p:=v=0) ω];simp)))).symm
       | ((conv=>whnf)
          refine CD (ι:=Nat) (k+1) ⟨ω,cL e d (by unfold iO;first|(rw[O0 ω];rfl)|(rw[O0 (p:=0<=v/\v<=999) ω,O0 (p:=v=0) ω];rfl))⟩ ω ?_
          (exact wA))
    ·repeat'(first|refine gD ?_|fail)
     (conv=>whnf)
     refine CD (i+1) ⟨ω,cL (vp c b) t (by unfold ir;rw[gu ω d];simp[g])⟩ ω ?_;exact wB
  ·repeat'(first|refine gD ?_|fail)
   exact W0 (λz=>[B z]) (by symm;unfold cN;rw[gu (by rw[List.length_zip];omega) t];simp[h,j])
theorem qh(f:aV)(h:aV.sml f):ao Tryz.prog 153 false [.val (some 2) (aV.enc .imm f)] .one [B (cN f)]:=by
 have C:=h.1.1;have E:f.Used.length<=1048576:=h.2;refine fO 55 [] Tryz.func153 rfl ?_
 repeat'(first|refine gO ?_|(conv=>whnf);first|with_reducible (first|refine Bf.D (λa=>?_) (λa=>?_)|refine Bf.N (λa=>?_) (λa=>?_))|refine C7 (aN f.Cells.length 1 32) ?_)
 ·exact W0 (λz=>[B z]) (by symm;unfold cN;rw[T0 (by omega:¬(f.Used.length=f.Cells.length))];simp)
 rotate_left
 ·exact W0 (λz=>[B z]) (by symm;unfold cN;rw[T0 (by omega:¬(1<=f.Cells.length/\f.Cells.length<=32))];rfl)
 have j:1<=f.Cells.length/\f.Cells.length<=32:=ω
 have l:f.Used.length=f.Cells.length:=ω
 (conv=>whnf)
 refine CE (ι:=Nat) (λi=>[(1,.hold .box (aV.enc .imm f)),(22,.hold .one (i9 .imm f.Cells)),(23,.hold .one [I (f.Cells.length)]),(24,.hold .one [I ((i:Nat):Int)])]) (λi=>i<=f.Cells.length/\((f.Cells.zip f.Used).take i).all (λq=>ir q.1 q.2)=true) (λi=>f.Cells.length - i) (0) ?_ (⟨U0 _,rfl⟩) λi o=>?_
 ·exact wB
 obtain⟨o,p⟩:=o;by_cases n:i<f.Cells.length
 ·obtain⟨r,c⟩ : ∃r,f.Cells[i]? = some r:=⟨_,I2 n⟩
  obtain⟨u,b⟩ : ∃u,f.Used[i]? = some u:=⟨_,I2 ω⟩
  have y:r.length<=1048576:=h.1.2 r (Z1 c)
  repeat'(first|refine gD ?_|(conv=>whnf);first|with_reducible (first|refine CB (aa c) ?_|refine Bf.N (λa=>?_) (λa=>?_)))
  ·exact W0 (λz=>[B z]) (iv c b (by unfold ir;rw[T0 ω];rfl)).symm
  have g:r.length=16:=ω
  (conv=>whnf)
  refine CE (ι:=Nat) (λk=>[(1,.hold .box (aV.enc .imm f)),(3,.hold .one [I ((i:Nat):Int)]),(22,.hold .one (i9 .imm f.Cells)),(23,.hold .one [I (f.Cells.length)]),(24,.hold .one [I ((i:Nat):Int)]),(32,.hold .one (aF .imm r)),(33,.hold .one [I (r.length)]),(34,.hold .one [I ((k:Nat):Int)])]) (λk=>k<=r.length/\(r.take k).all (iO u)=true) (λk=>r.length - k) (0) ?_ (⟨U0 _,rfl⟩) λk t=>?_
  ·exact wB
  obtain⟨t,d⟩:=t;by_cases w:k<r.length
  ·obtain⟨v,e⟩ : ∃v,r[k]? = some v:=⟨_,I2 ω⟩
   cases u with
   | true=>
    repeat'(first|refine gD ?_|(conv=>whnf);first|with_reducible (first|refine CB (aa c) ?_|refine CB (aa b) ?_|refine CB (aa e) ?_|refine Bf.D (λa=>?_) (λa=>?_)|refine Bf.N (λa=>?_) (λa=>?_))|refine C7 (aN v 0 999) ?_)
    all_goals first
     | exact W0 (λz=>[B z]) (iv c b (re e (by unfold iO;grind))).symm
     | ((conv=>whnf)
        refine CD (ι:=Nat) (k+1) ⟨ω,cL e d (by unfold iO;grind)⟩ ω ?_
        (exact wA))
   | false=>
    repeat'(first|refine gD ?_|(conv=>whnf);first|with_reducible (first|refine CB (aa c) ?_|refine CB (aa b) ?_|refine CB (aa e) ?_|refine Bf.D (λa=>?_) (λa=>?_)|refine Bf.N (λa=>?_) (λa=>?_))|refine C7 (aN v 0 999) ?_)
    all_goals first
     | exact W0 (λz=>[B z]) (iv c b (re e (by unfold iO;grind))).symm
     | ((conv=>whnf)
        refine CD (ι:=Nat) (k+1) ⟨ω,cL e d (by unfold iO;grind)⟩ ω ?_
        (exact wA))
  ·repeat'(first|refine gD ?_|fail)
   (conv=>whnf)
   refine CD (i+1) ⟨ω,cL (vp c b) p (by unfold ir;rw[gu ω d];simp[g])⟩ ω ?_;exact wB
 ·repeat'(first|refine gD ?_|fail)
  exact W0 (λz=>[B z]) (by symm;unfold cN;rw[gu (by rw[List.length_zip];omega) p];simp[j,l])
theorem AA(t:aH)(b:Int)(g:aH.sml t):ao Tryz.prog 327 false [.val (some 1) (aH.enc .imm t),.val none [I b]] .one [B (fZ t b)]:=by
 have k:=g.1;refine fO 54 [] Tryz.func327 rfl ?_
 repeat'(first|refine gO ?_|fail)
 (conv=>whnf)
 refine CE (ι:=Nat) (λi=>[(1,.hold .one [I (b)]),(2,.hold .box (aH.enc .imm t)),(5,.hold .one [I ((i:Nat):Int)])]) (λi=>i<=t.Entries.length/\cS i (λj=>ku b (nth t.Entries j))=true) (λi=>t.Entries.length - i) 0 ?_ ⟨U0 _,rfl⟩ λi c=>?_
 ·exact wB
 obtain⟨c,d⟩:=c;by_cases e:i<t.Entries.length
 ·have h:=ah e
  repeat'(first|refine gD ?_|(conv=>whnf);first|with_reducible (first|refine CB (aa h) ?_|refine Bf.D (λa=>?_) (λa=>?_)|refine Bf.N (λa=>?_) (λa=>?_)|refine Bf.E (λa=>?_) (λa=>?_))|refine C7 (aG _ 0 2) ?_)
  all_goals first
   | exact W0 (λz=>[B z]) ((by symm;unfold fZ;rw[cr e (T0 (by grind))];rfl))
   | ((conv=>whnf);refine CD (i+1) ⟨ω,bL d (O0 (by grind))⟩ ω ?_;(exact wB))
 ·repeat'(first|refine gD ?_|(conv=>whnf);first|refine C7 (aG _ 1 32) ?_)
  obtain rfl:i=t.Entries.length:=ω
  exact W0 (λz=>[B z]) ((by unfold fZ;rw[d,Bool.true_and];exact decide_eq_decide.2 ω))
theorem B0(t:aH)(b:Int)(g:aH.sml t):ao Tryz.prog 236 false [.val (some 1) (aH.enc .imm t),.val none [I b]] .one [B (fZ t b)]:=by
 have k:=g.1;refine fO 49 [] Tryz.func236 rfl ?_
 repeat'(first|refine gO ?_|fail)
 (conv=>whnf)
 refine CE (ι:=Nat) (λi=>[(1,.hold .one [I (b)]),(2,.hold .box (aH.enc .imm t)),(8,.hold .one (lR .imm t.Entries)),(9,.hold .one [I (t.Entries.length)]),(10,.hold .one [I ((i:Nat):Int)])]) (λi=>i<=t.Entries.length/\cS i (λj=>ku b (nth t.Entries j))=true) (λi=>t.Entries.length - i) 0 ?_ ⟨U0 _,rfl⟩ λi c=>?_
 ·exact wB
 obtain⟨c,d⟩:=c;by_cases e:i<t.Entries.length
 ·have h:=ah e
  repeat'(first|refine gD ?_|(conv=>whnf);first|with_reducible (first|refine CB (aa h) ?_|refine Bf.D (λa=>?_) (λa=>?_)|refine Bf.N (λa=>?_) (λa=>?_)|refine Bf.E (λa=>?_) (λa=>?_))|refine C7 (aN _ 0 2) ?_)
  all_goals first
   | exact W0 (λz=>[B z]) ((by symm;unfold fZ;rw[cr e (T0 (by grind))];rfl))
   | ((conv=>whnf);refine CD (i+1) ⟨ω,bL d (O0 (by grind))⟩ ω ?_;(exact wB))
 ·repeat'(first|refine gD ?_|(conv=>whnf);first|refine C7 (aN _ 1 32) ?_)
  obtain rfl:i=t.Entries.length:=ω
  exact W0 (λz=>[B z]) ((by unfold fZ;rw[d,Bool.true_and];exact decide_eq_decide.2 ω))
theorem gx(t:aH)(f:Int)(c:aH.sml t):ao Tryz.prog 111 false [.val (some 1) (aH.enc .imm t),.val none [I f]] .one (aF .own (pagesOn t f)):=by
 have j:=c.1;refine fO 37 [] Tryz.func111 rfl ?_ (.inr (bJ _))
 repeat'(first|refine gO ?_|fail)
 (conv=>whnf)
 refine CE (ι:=Nat) (λi=>[(1,.hold .one [I (f)]),(2,.hold .box (aH.enc .imm t)),(5,.hold .one (aF .own (jq t f i))),(6,.hold .one [I ((i:Nat):Int)])]) (λi=>i<=t.Entries.length) (λi=>t.Entries.length - i) (0) ?_ (U0 _) λi k=>?_
 ·exact wB
 have d:=sC t f i;by_cases e:i<t.Entries.length
 ·have g:=ah e
  repeat'(first|refine gD ?_|(conv=>whnf);first|with_reducible (first|refine CB (aa g) ?_|refine Bf.D (λb=>?_) (λb=>?_)|refine Bf.N (λb=>?_) (λb=>?_)|refine Bf.E (λb=>?_) (λb=>?_))|refine CQ co (λr h=>by rw[I1.1 h];rfl) (by simp[aX,dH]) (by simp;omega) (by simp only[Z0];exact vq (by simp;omega) (by decide)) rfl ?_)
  all_goals first
   |(have a:Kj t f i=true:=O0 (by grind)
     (conv=>whnf)
     refine CD (i+1) ω ω ?_;rw[zE a]
     (repeat'(first|exact trivial|rfl|exact CJ rfl (CJ (W0 (C.s d7.own) (by simp[rI])) trivial)|refine CJ ?_ ?_)))
   |(have a:Kj t f i=false:=T0 (by grind)
     (conv=>whnf)
     refine CD (i+1) ω ω ?_;rw[DI a]
     (exact wA))
 ·repeat'(first|refine gD ?_|fail)
  obtain rfl:i=t.Entries.length:=ω
  rfl
theorem jW(t:aH)(f:Int)(c:aH.sml t):ao Tryz.prog 98 false [.val (some 1) (aH.enc .imm t),.val none [I f]] .one (aF .own (pagesOn t f)):=by
 have j:=c.1;refine fO 32 [] Tryz.func98 rfl ?_ (.inr (bJ _))
 repeat'(first|refine gO ?_|fail)
 (conv=>whnf)
 refine CE (ι:=Nat) (λi=>[(1,.hold .one [I (f)]),(5,.hold .one (aF .own (jq t f i))),(10,.hold .one (lR .imm t.Entries)),(11,.hold .one [I (t.Entries.length)]),(12,.hold .one [I ((i:Nat):Int)])]) (λi=>i<=t.Entries.length) (λi=>t.Entries.length - i) (0) ?_ (U0 _) λi k=>?_
 ·exact wB
 have d:=sC t f i;by_cases e:i<t.Entries.length
 ·have g:=ah e
  repeat'(first|refine gD ?_|(conv=>whnf);first|with_reducible (first|refine CB (aa g) ?_|refine Bf.D (λb=>?_) (λb=>?_)|refine Bf.N (λb=>?_) (λb=>?_)|refine Bf.E (λb=>?_) (λb=>?_))|refine CQ co (λr h=>by rw[I1.1 h];rfl) (by simp[aX,dH]) (by simp;omega) (by simp only[Z0];exact vq (by simp;omega) (by decide)) rfl ?_)
  all_goals first
   |(have a:Kj t f i=true:=O0 (by grind)
     (conv=>whnf)
     refine CD (i+1) ω ω ?_;rw[zE a]
     (repeat'(first|exact trivial|rfl|exact CJ rfl (CJ (W0 (C.s d7.own) (by simp[rI])) trivial)|refine CJ ?_ ?_)))
   |(have a:Kj t f i=false:=T0 (by grind)
     (conv=>whnf)
     refine CD (i+1) ω ω ?_;rw[DI a]
     (exact wA))
 ·repeat'(first|refine gD ?_|fail)
  obtain rfl:i=t.Entries.length:=ω
  rfl
theorem cY(t:aH)(p:Int)(b:aH.sml t):ao Tryz.prog 110 false [.val (some 1) (aH.enc .imm t),.val none [I p]] .agg (bf.enc .own (au t p)):=by
 have d:=b.1;refine fO 18 [] Tryz.func110 rfl ?_ (.inr (bf.enc_fr _));by_cases a:0<=p/\p<t.Entries.length
 ·have c:=ah (xs:=t.Entries) (i:=p.toNat) ω
  repeat'(first|refine gD ?_|(conv=>whnf);first|refine C7 (aG _ 0 _) ?_|refine CL a.1 (aa c) ?_)
  all_goals(unfold au;rw[C9 a];rfl)
 ·repeat'(first|refine gD ?_|(conv=>whnf);first|refine C7 (aG _ 0 _) ?_)
  all_goals(unfold au;rw[C8 a];rfl)
theorem kE(t:aH)(p:Int)(b:aH.sml t):ao Tryz.prog 97 false [.val (some 1) (aH.enc .imm t),.val none [I p]] .agg (bf.enc .own (au t p)):=by
 have d:=b.1;refine fO 18 [] Tryz.func97 rfl ?_ (.inr (bf.enc_fr _));by_cases a:0<=p/\p<t.Entries.length
 ·have c:=ah (xs:=t.Entries) (i:=p.toNat) ω
  repeat'(first|refine gD ?_|(conv=>whnf);first|refine C7 (aN _ 0 _) ?_|refine CL a.1 (aa c) ?_)
  all_goals(unfold au;rw[C9 a];rfl)
 ·repeat'(first|refine gD ?_|(conv=>whnf);first|refine C7 (aN _ 0 _) ?_)
  all_goals(unfold au;rw[C8 a];rfl)
theorem ql(t:aH)(f:Int):(pagesOn t f).length<=t.Entries.length:=sC ..
theorem nR(m:aR)(b:aR.sml m):ao Tryz.prog 266 false [.val (some 3) (aR.enc .imm m)] .one [B (dv m)]:=by
 have q:m.Frames.Used.length<=1048576:=b.1.2;have l:m.Frames.Cells.length<=1048576:=b.1.1.1;have c:=pQ m.Frames b.1;have e:=AA m.Table m.Frames.Cells.length b.2;cases a:cN m.Frames with
 | false=>
  rw[a]at c;refine fO 39 [(6,13,[26,27,28,29,30,31,32,33,34,35,36,37,38])] Tryz.func266 rfl ?_
  repeat'(first|refine gO ?_|(conv=>whnf);first|refine C7 c ?_)
  exact W0 (λz=>[B z]) ((by unfold dv;rw[a];rfl))
 | true=>
  have g:=Ba a;rw[a]at c;cases d:fZ m.Table m.Frames.Used.length with
  | false=>
   rw[show(m.Frames.Cells.length:Int)=m.Frames.Used.length by omega,d]at e;refine fO 39 [(6,13,[26,27,28,29,30,31,32,33,34,35,36,37,38])] Tryz.func266 rfl ?_
   repeat'(first|refine gO ?_|(conv=>whnf);first|refine C7 c ?_|refine C7 ((show(m.Frames.Cells.length:Int)=m.Frames.Used.length by omega) ▸ e) ?_)
   exact W0 (λz=>[B z]) ((by unfold dv;rw[a,d];rfl))
  | true=>
   rw[show(m.Frames.Cells.length:Int)=m.Frames.Used.length by omega,d]at e;refine fO 39 [(6,13,[26,27,28,29,30,31,32,33,34,35,36,37,38])] Tryz.func266 rfl ?_
   repeat'(first|refine gO ?_|(conv=>whnf);first|refine C7 c ?_|refine C7 ((show(m.Frames.Cells.length:Int)=m.Frames.Used.length by omega) ▸ e) ?_)
   (conv=>whnf)
   refine CE (ι:=Nat) (λi=>[(1,.hold .box (aR.enc .imm m)),(3,.hold .one [I ((i:Nat):Int)])]) (λi=>i<=m.Frames.Used.length/\cS i (oR m)=true) (λi=>m.Frames.Used.length - i) 0 ?_ ⟨U0 _,rfl⟩ λi h=>?_
   ·exact wB
   obtain⟨h,j⟩:=h;by_cases k:i<m.Frames.Used.length
   ·have n:=ah k
    have o:=ql m.Table (i:Nat)
    repeat'(first|refine gD ?_|(conv=>whnf);first|with_reducible (first|refine CB (aa n) ?_|refine Bf.NB (λp=>?_) (λp=>?_))|refine C7 (gx m.Table (i:Nat) b.2) ?_)
    all_goals first
     | exact W0 (λz=>[B z]) ((by symm;unfold dv;rw[a,d,cr k (by unfold oR;grind)];rfl))
     | ((conv=>whnf);refine CD (i+1) ⟨ω,bL j (by unfold oR;grind)⟩ ω ?_;(exact wB))
   ·repeat'(first|refine gD ?_|fail)
    obtain rfl:i=m.Frames.Used.length:=ω
    exact W0 (λz=>[B z]) ((by unfold dv;rw[a,d,j];rfl))
theorem vT(m:aR)(d:aR.sml m):ao Tryz.prog 144 false [.val (some 3) (aR.enc .imm m)] .one [B (dv m)]:=by
 have o:m.Frames.Used.length<=1048576:=d.1.2;have b:=qh m.Frames d.1;have e:=B0 m.Table m.Frames.Used.length d.2;cases a:cN m.Frames with
 | false=>
  rw[a]at b;refine fO 37 [] Tryz.func144 rfl ?_
  repeat'(first|refine gO ?_|(conv=>whnf);first|refine C7 b ?_)
  exact W0 (λz=>[B z]) ((by unfold dv;rw[a];rfl))
 | true=>
  rw[a]at b;cases c:fZ m.Table m.Frames.Used.length with
  | false=>
   rw[c]at e;refine fO 37 [] Tryz.func144 rfl ?_
   repeat'(first|refine gO ?_|(conv=>whnf);first|refine C7 b ?_|refine C7 e ?_)
   exact W0 (λz=>[B z]) ((by unfold dv;rw[a,c];rfl))
  | true=>
   rw[c]at e;refine fO 37 [] Tryz.func144 rfl ?_
   repeat'(first|refine gO ?_|(conv=>whnf);first|refine C7 b ?_|refine C7 e ?_)
   (conv=>whnf)
   refine CE (ι:=Nat) (λi=>[(1,.hold .box (aR.enc .imm m)),(21,.hold .one (oP .imm m.Frames.Used)),(22,.hold .one [I (m.Frames.Used.length)]),(23,.hold .one [I ((i:Nat):Int)])]) (λi=>i<=m.Frames.Used.length/\cS i (oR m)=true) (λi=>m.Frames.Used.length - i) 0 ?_ ⟨U0 _,rfl⟩ λi g=>?_
   ·exact wB
   obtain⟨g,h⟩:=g;by_cases j:i<m.Frames.Used.length
   ·have k:=ah j
    have l:=ql m.Table (i:Nat)
    repeat'(first|refine gD ?_|(conv=>whnf);first|with_reducible (first|refine CB (aa k) ?_|refine Bf.NB (λn=>?_) (λn=>?_))|refine C7 (jW m.Table (i:Nat) d.2) ?_)
    all_goals first
     | exact W0 (λz=>[B z]) ((by symm;unfold dv;rw[a,c,cr j (by unfold oR;grind)];rfl))
     | ((conv=>whnf);refine CD (i+1) ⟨ω,bL h (by unfold oR;grind)⟩ ω ?_;(exact wB))
   ·repeat'(first|refine gD ?_|fail)
    obtain rfl:i=m.Frames.Used.length:=ω
    exact W0 (λz=>[B z]) ((by unfold dv;rw[a,c,h];rfl))
theorem lO(k:af)(d:af.sml k):ao Tryz.prog 201 false [.val (some 5) (af.enc .imm k)] .one [B (aB k)]:=by
 have n:k.Refuse.length<=1048576:=d.2;have a:=nR k.Machine d.1;refine fO 31 [] Tryz.func201 rfl ?_
 repeat'(first|refine gO ?_|fail)
 (conv=>whnf)
 refine CE (ι:=Nat) (λi=>[(1,.hold .box (af.enc .imm k)),(3,.hold .one [I ((i:Nat):Int)])]) (λi=>i<=k.Refuse.length/\cS i (λj=>decide (0<=nth k.Refuse j))=true) (λi=>k.Refuse.length - i) 0 ?_ ⟨U0 _,rfl⟩ λi e=>?_
 ·exact wB
 obtain⟨e,g⟩:=e;by_cases h:i<k.Refuse.length
 ·have l:=ah h
  repeat'(first|refine gD ?_|(conv=>whnf);first|with_reducible (first|refine CB (aa l) ?_|refine Bf.D (λc=>?_) (λc=>?_)))
  all_goals first
   | exact W0 (λz=>[B z]) ((by symm;unfold aB;rw[cr h (T0 ω)];rfl))
   | ((conv=>whnf);refine CD (i+1) ⟨ω,bL g (O0 ω)⟩ ω ?_;(exact wB))
 ·obtain rfl:i=k.Refuse.length:=ω
  cases b:dv k.Machine with
  | false=>
   rw[b]at a
   repeat'(first|refine gD ?_|(conv=>whnf);first|refine C7 a ?_)
   all_goals exact W0 (λz=>[B z]) ((by unfold aB;rw[b];simp))
  | true=>
   rw[b]at a
   repeat'(first|refine gD ?_|(conv=>whnf);first|with_reducible refine Bf.D (λc=>?_) (λc=>?_)|refine C7 a ?_|refine C7 (aG _ 0 100000) ?_)
   all_goals exact W0 (λz=>[B z]) ((by unfold aB;rw[b,g];simp only[Bool.true_and];first|exact decide_eq_decide.2 ω|(symm;exact T0 ω)|(symm;exact O0 ω)))
theorem pN(k:af)(b:af.sml k):ao Tryz.prog 57 false [.val (some 5) (af.enc .imm k)] .one [B (aB k)]:=by
 have l:k.Refuse.length<=1048576:=b.2;have g:=vT k.Machine b.1;refine fO 29 [] Tryz.func57 rfl ?_
 repeat'(first|refine gO ?_|fail)
 (conv=>whnf)
 refine CE (ι:=Nat) (λi=>[(1,.hold .box (af.enc .imm k)),(6,.hold .one (aF .imm k.Refuse)),(7,.hold .one [I (k.Refuse.length)]),(8,.hold .one [I ((i:Nat):Int)])]) (λi=>i<=k.Refuse.length/\cS i (λj=>decide (0<=nth k.Refuse j))=true) (λi=>k.Refuse.length - i) 0 ?_ ⟨U0 _,rfl⟩ λi c=>?_
 ·exact wB
 obtain⟨c,d⟩:=c;by_cases e:i<k.Refuse.length
 ·have h:=ah e
  repeat'(first|refine gD ?_|(conv=>whnf);first|with_reducible (first|refine CB (aa h) ?_|refine Bf.D (λa=>?_) (λa=>?_)))
  all_goals first
   | exact W0 (λz=>[B z]) ((by symm;unfold aB;rw[cr e (T0 ω)];rfl))
   | ((conv=>whnf);refine CD (i+1) ⟨ω,bL d (O0 ω)⟩ ω ?_;(exact wB))
 ·obtain rfl:i=k.Refuse.length:=ω
  repeat'(first|refine gD ?_|(conv=>whnf);first|with_reducible refine Bf.D (λa=>?_) (λa=>?_)|refine C7 g ?_|refine C7 (aN _ 0 100000) ?_)
  all_goals exact W0 (λz=>[B z]) ((by unfold aB;rw[d];cases dv k.Machine<;>simp only[Bool.true_and,Bool.false_and]<;>first|rfl|exact decide_eq_decide.2 ω|(symm;exact T0 ω)|(symm;exact O0 ω)))
theorem w8(pages:Int)(r:ax)(b:0<=pages/\pages<=1048576):ao Tryz.prog 267 false [.val none [I pages],.val (some 2) (ax.enc .imm r)] .one [B (rangeIn pages r)]:=by
 refine fO 18 [] Tryz.func267 rfl ?_
 repeat'(first|refine gO ?_|(conv=>whnf);first|with_reducible refine Bf.D (λa=>?_) (λa=>?_)|refine C7 (aG _ 1 _) ?_|refine C7 (aG _ 0 _) ?_)
 all_goals exact W0 (λz=>[B z]) ((by unfold rangeIn;first|(symm;exact T0 ω)|exact decide_eq_decide.2 ω))
theorem wD(pages:Int)(r:ax)(b:0<=pages/\pages<=1048576):ao Tryz.prog 159 false [.val none [I pages],.val (some 2) (ax.enc .imm r)] .one [B (rangeIn pages r)]:=by
 refine fO 18 [] Tryz.func159 rfl ?_
 repeat'(first|refine gO ?_|(conv=>whnf);first|with_reducible refine Bf.D (λa=>?_) (λa=>?_)|refine C7 (aN _ 1 _) ?_|refine C7 (aN _ 0 _) ?_)
 all_goals exact W0 (λz=>[B z]) ((by unfold rangeIn;first|(symm;exact T0 ω)|exact decide_eq_decide.2 ω))
theorem nj(k:Int):ao Tryz.prog 194 false [.val none [I k]] .one [I (slots k)]:=by
 by_cases b:0<=k/\k<=3
 ·obtain rfl|rfl|rfl|rfl:k=0\/k=1\/k=2\/k=3:=ω
  all_goals
   refine fO 9 [] Tryz.func194 rfl ?_
   repeat'(first|refine gD ?_|(conv=>whnf);first|with_reducible refine Bf.D (λa=>?_) (λa=>?_)|refine C7 (aG _ 0 3) ?_|refine CM (by decide) ?_|refine CK rfl ?_|refine CS rfl ?_)
   exact W0 (λz=>[I z]) (by decide)
 ·refine fO 9 [] Tryz.func194 rfl ?_
  repeat'(first|refine gD ?_|(conv=>whnf);first|with_reducible refine Bf.D (λa=>?_) (λa=>?_)|refine C7 (aG _ 0 3) ?_)
  exact W0 (λz=>[I z]) (by unfold slots;rw[C8 ω,C8 ω,C8 ω,C8 ω])
theorem iF(k:Int):ao Tryz.prog 172 false [.val none [I k]] .one [I (slots k)]:=by
 by_cases b:0<=k/\k<=3
 ·obtain rfl|rfl|rfl|rfl:k=0\/k=1\/k=2\/k=3:=ω
  all_goals
   refine fO 9 [] Tryz.func172 rfl ?_
   repeat'(first|refine gD ?_|(conv=>whnf);first|with_reducible refine Bf.D (λa=>?_) (λa=>?_)|refine C7 (eS _) ?_|refine C7 (cJ _) ?_|refine CM (by decide) ?_|refine CK rfl ?_|refine CS rfl ?_)
   exact W0 (λz=>[I z]) (by decide)
 ·refine fO 9 [] Tryz.func172 rfl ?_
  repeat'(first|refine gD ?_|(conv=>whnf);first|with_reducible refine Bf.D (λa=>?_) (λa=>?_)|refine C7 (eS _) ?_)
  exact W0 (λz=>[I z]) (by unfold slots;rw[C8 ω,C8 ω,C8 ω,C8 ω])
def L2(k b:Int):Bool:=decide (0<=k/\k<=3/\0<=b/\b<=lim k)
theorem pW(k b:Int):ao Tryz.prog 193 false [.val none [I (slots k)],.val none [I b]] .one [B (L2 k b)]:=by
 by_cases d:0<=k/\k<=3
 ·obtain rfl|rfl|rfl|rfl:k=0\/k=1\/k=2\/k=3:=ω
  all_goals
   first|rw[show slots 0=16 from rfl]|rw[show slots 1=8 from rfl]|rw[show slots 2=4 from rfl]|rw[show slots 3=2 from rfl]
   refine fO 15 [] Tryz.func193 rfl ?_
   repeat'(first|refine gD ?_|(conv=>whnf);first|with_reducible refine Bf.D (λa=>?_) (λa=>?_)|refine C7 (aG _ 1 16) ?_|refine C7 (aG _ 0 _) ?_|refine CM (by decide) ?_|refine CK (show _=(65536:Int) by decide) ?_|refine CK (show _=(65535:Int) by decide) ?_|refine CK (show _=(256:Int) by decide) ?_|refine CK (show _=(255:Int) by decide) ?_|refine CK (show _=(16:Int) by decide) ?_|refine CK (show _=(15:Int) by decide) ?_|refine CK (show _=(4:Int) by decide) ?_|refine CK (show _=(8:Int) by decide) ?_|refine CK (show _=(2:Int) by decide) ?_|refine CK (show _=(3:Int) by decide) ?_)
   all_goals exact W0 (λz=>[B z]) ((decide_eq_decide.2 (by simp[lim])))
 ·have c:slots k=0:=by unfold slots;rw[C8 ω,C8 ω,C8 ω,C8 ω]
  rw[c];refine fO 15 [] Tryz.func193 rfl ?_
  repeat'(first|refine gD ?_|(conv=>whnf);first|with_reducible refine Bf.D (λa=>?_) (λa=>?_)|refine C7 (aG _ 1 16) ?_)
  exact W0 (λz=>[B z]) ((by symm;exact T0 ω))
theorem y9(k b:Int):ao Tryz.prog 244 false [.val none [I (slots k)],.val none [I b]] .one [B (L2 k b)]:=by
 by_cases d:0<=k/\k<=3
 ·obtain rfl|rfl|rfl|rfl:k=0\/k=1\/k=2\/k=3:=ω
  all_goals
   first|rw[show slots 0=16 from rfl]|rw[show slots 1=8 from rfl]|rw[show slots 2=4 from rfl]|rw[show slots 3=2 from rfl]
   refine fO 14 [] Tryz.func244 rfl ?_
   repeat'(first|refine gD ?_|(conv=>whnf);first|with_reducible refine Bf.D (λa=>?_) (λa=>?_)|refine C7 (aN _ 1 16) ?_|refine C7 (aN _ 0 _) ?_|refine CM (by decide) ?_|refine CK (eM (by decide) (by decide)) ?_)
   all_goals exact W0 (λz=>[B z]) ((decide_eq_decide.2 (by simp[lim,IntKind.bits])))
 ·have c:slots k=0:=by unfold slots;rw[C8 ω,C8 ω,C8 ω,C8 ω]
  rw[c];refine fO 14 [] Tryz.func244 rfl ?_
  repeat'(first|refine gD ?_|(conv=>whnf);first|with_reducible refine Bf.D (λa=>?_) (λa=>?_)|refine C7 (aN _ 1 16) ?_)
  exact W0 (λz=>[B z]) ((by symm;exact T0 ω))
theorem f6(s:ar):ao Tryz.prog 113 false [.val (some 3) (ar.enc .imm s)] .one [B (aY s)]:=by
 refine fO 14 [(1,12,[3,4,5,6,7,8,9,10,11,12,13,2])] Tryz.func113 rfl ?_
 repeat'(first|refine gO ?_|(conv=>whnf);first|with_reducible refine Bf.D (λa=>?_) (λa=>?_)|refine C7 (aG _ 0 31) ?_|refine C7 (nj _) ?_|refine C7 (pW _ _) ?_)
 all_goals exact W0 (λz=>[B z]) ((by unfold aY;first|(symm;exact T0 ω)|exact decide_eq_decide.2 ω))
theorem ge(s:ar):ao Tryz.prog 161 false [.val (some 3) (ar.enc .imm s)] .one [B (aY s)]:=by
 refine fO 19 [(1,17,[3,4,5,6,7,8,9,10,11,12,13,14,15,16,17,18,2])] Tryz.func161 rfl ?_
 repeat'(first|refine gO ?_|(conv=>whnf);first|with_reducible refine Bf.D (λa=>?_) (λa=>?_)|refine C7 (aN _ 0 31) ?_|refine C7 (eS _) ?_|refine C7 (iF _) ?_|refine C7 (y9 _ _) ?_)
 all_goals exact W0 (λz=>[B z]) ((by unfold aY;first|(symm;exact T0 ω)|exact decide_eq_decide.2 ω))
section
variable{α:Type}{xs:List α}{p:α->Bool}{i:Nat}{y:α}
theorem AW(h:xs[i]? = some y)(a:p y=true):xs.any p=true:=X3.2 ⟨y,Z1 h,a⟩
theorem v6(h:xs[i]? = some y)(a:(xs.take i).any p=false)(b:p y=false):(xs.take (i+1)).any p=false:=by
 rw[C5,h,List.any_append,a];simp[b]
theorem GV(a:xs.length<=i)(b:(xs.take i).any p=false):xs.any p=false:=by
 rwa [V6 a]at b
theorem fX[Inhabited α](a:0<i)(b:i<xs.length):xs[((i:Int) - 1).toNat]? = some (nth xs (i - 1)):=by
 rw[show((i:Int) - 1).toNat=i - 1 by omega];exact ah ω
end
theorem wt{pages:Int}{xs:List ax}{i n:Nat}(a:cS n (fU pages xs)=true)(b:i<n):1<=(nth xs i).Len/\(nth xs i).Len<=pages/\0<=(nth xs i).At/\(nth xs i).At<=pages - (nth xs i).Len:=by
 have:=dI a b;unfold fU rangeIn at this;simp only[I0,C0]at this;exact this.1
theorem lI(pages:Int)(xs:List ax)(e:0<=pages/\pages<=1048576)(k:gp xs):ao Tryz.prog 202 false [.val none [I pages],.val none (b8 .imm xs)] .one [B (bt pages xs)]:=by
 have n:=k.1;refine fO 46 [(4,32,[12,13,14,15,16,17,18,19,20,21,22,23,24,25,26,27,28,29,30,31,32,33,34,35,36,37,38,39,40,41,42,43])] Tryz.func202 rfl ?_
 repeat'(first|refine gO ?_|fail)
 (conv=>whnf)
 refine CE (ι:=Nat) (λi=>[(0,.hold .one [I (pages)]),(1,.hold .one (b8 .imm xs)),(5,.hold .one [I ((i:Nat):Int)])]) (λi=>i<=xs.length/\cS i (fU pages xs)=true) (λi=>xs.length - i) 0 ?_ ⟨U0 _,rfl⟩ λi g=>?_
 ·exact wB
 obtain⟨g,d⟩:=g;by_cases c:i<xs.length
 ·have j:=ah c
  have o:0<i->1<=(nth xs (i - 1)).Len/\(nth xs (i - 1)).Len<=pages/\0<=(nth xs (i - 1)).At/\(nth xs (i - 1)).At<=pages - (nth xs (i - 1)).Len:=λh=>wt d ω
  cases a:rangeIn pages (nth xs i) with
  | false=>
   have b:=w8 pages (nth xs i) e;rw[a]at b
   repeat'(first|refine gD ?_|(conv=>whnf);first|with_reducible refine CB (aa j) ?_|refine C7 b ?_)
   exact W0 (λz=>[B z]) ((by symm;unfold bt;rw[cr c (by unfold fU;rw[a];rfl)];rfl))
  | true=>
   have b:=w8 pages (nth xs i) e;rw[a]at b
   repeat'(first|refine gD ?_|(conv=>whnf);first|with_reducible (first|refine CB (aa j) ?_|refine Bf.D (λl=>?_) (λl=>?_))|refine C7 b ?_|refine CL ω (aa (fX ω c)) ?_)
   all_goals first
    | exact W0 (λz=>[B z]) ((by symm;unfold bt;rw[cr c (by unfold fU;rw[a,T0 ω];rfl)];rfl))
    | ((conv=>whnf);refine CD (i+1) ⟨ω,bL d (by unfold fU;rw[a,O0 ω];rfl)⟩ ω ?_;(exact wB))
 ·repeat'(first|refine gD ?_|(conv=>whnf);first|refine C7 (aG pages 1 32) ?_)
  obtain rfl:i=xs.length:=ω
  exact W0 (λz=>[B z]) ((by unfold bt;rw[d];rfl))
theorem pT(pages:Int)(xs:List ax)(j:0<=pages/\pages<=1048576)(k:gp xs):ao Tryz.prog 67 false [.val none [I pages],.val none (b8 .imm xs)] .one [B (bt pages xs)]:=by
 have n:=k.1;refine fO 43 [(4,26,[14,15,16,17,18,19,20,21,22,23,24,25,26,27,28,29,30,31,32,33,34,35,36,37,38,39])] Tryz.func67 rfl ?_
 repeat'(first|refine gO ?_|fail)
 (conv=>whnf)
 refine CE (ι:=Nat) (λi=>[(0,.hold .one [I (pages)]),(1,.hold .one (b8 .imm xs)),(7,.hold .one (b8 .imm xs)),(8,.hold .one [I (xs.length)]),(9,.hold .one [I ((i:Nat):Int)])]) (λi=>i<=xs.length/\cS i (fU pages xs)=true) (λi=>xs.length - i) 0 ?_ ⟨U0 _,rfl⟩ λi e=>?_
 ·exact wB
 obtain⟨e,d⟩:=e;by_cases b:i<xs.length
 ·have g:=ah b
  have o:0<i->1<=(nth xs (i - 1)).Len/\(nth xs (i - 1)).Len<=pages/\0<=(nth xs (i - 1)).At/\(nth xs (i - 1)).At<=pages - (nth xs (i - 1)).Len:=λh=>wt d ω
  have c:=wD pages (nth xs i) j;cases a:rangeIn pages (nth xs i) with
  | false=>
   rw[a]at c
   repeat'(first|refine gD ?_|(conv=>whnf);first|with_reducible refine CB (aa g) ?_|refine C7 c ?_)
   exact W0 (λz=>[B z]) ((by symm;unfold bt;rw[cr b (by unfold fU;rw[a];rfl)];rfl))
  | true=>
   rw[a]at c
   repeat'(first|refine gD ?_|(conv=>whnf);first|with_reducible (first|refine CB (aa g) ?_|refine Bf.D (λl=>?_) (λl=>?_))|refine C7 c ?_|refine CL ω (aa (fX ω b)) ?_)
   all_goals first
    | exact W0 (λz=>[B z]) ((by symm;unfold bt;rw[cr b (by unfold fU;rw[a,T0 ω];rfl)];rfl))
    | ((conv=>whnf);refine CD (i+1) ⟨ω,bL d (by unfold fU;rw[a,O0 ω];rfl)⟩ ω ?_;(exact wB))
 ·repeat'(first|refine gD ?_|(conv=>whnf);first|refine C7 (aN pages 1 32) ?_)
  obtain rfl:i=xs.length:=ω
  exact W0 (λz=>[B z]) ((by unfold bt;rw[d];rfl))
theorem yc(xs:List ax)(page:Int)(g:xs.length<=9223372036854775807):ao Tryz.prog 270 false [.val none (b8 .imm xs),.val none [I page]] .one [B (xs.any (qN page))]:=by
 refine fO 34 [(4,22,[12,13,14,15,16,17,18,19,20,21,22,23,24,25,26,27,28,29,30,31,32,33])] Tryz.func270 rfl ?_
 repeat'(first|refine gO ?_|fail)
 (conv=>whnf)
 refine CE (ι:=Nat) (λi=>[(0,.hold .one (b8 .imm xs)),(1,.hold .one [I (page)]),(5,.hold .one [I ((i:Nat):Int)])]) (λi=>i<=xs.length/\(xs.take i).any (qN page)=false) (λi=>xs.length - i) (0) ?_ (⟨U0 _,rfl⟩) λi b=>?_
 ·exact wB
 obtain⟨b,c⟩:=b;by_cases d:i<xs.length
 ·have a:=ah d
  repeat'(first|refine gD ?_|(conv=>whnf);first|with_reducible (first|refine CB (aa a) ?_|refine Bf.D (λe=>?_) (λe=>?_))|refine CK rfl ?_)
  all_goals first
   | exact W0 (λz=>[B z]) ((AW a (by unfold qN;rw[O0 (by assumption),O0 (by assumption)];rfl)).symm)
   | ((conv=>whnf);refine CD (i+1) ⟨ω,v6 a c (by unfold qN;first|(rw[T0 (by assumption:¬(nth xs i).At<=page)];rfl)|(rw[T0 (by assumption:¬page<_)];simp))⟩ ω ?_;(exact wB))
 ·repeat'(first|refine gD ?_|fail)
  exact W0 (λz=>[B z]) ((GV ω c).symm)
theorem tdiv16{z:Int}(h:0<=z):z.tdiv 16=z / 16:=Int.tdiv_eq_ediv_of_nonneg h
theorem lz(z:Int):ao Tryz.prog 293 false [.val none [I z]] .one [I (fe z)]:=by
 refine fO 10 [] Tryz.func293 rfl ?_;by_cases b:9<=z/\z<=1000
 ·repeat'(first|refine gD ?_|(conv=>whnf);first|with_reducible refine Bf.D (λa=>?_) (λa=>?_)|refine C7 (aG z 9 1000) ?_|refine CM (by decide) ?_|refine CK ((W0 _ (tdiv16 ω)).trans (eM ω ω)) ?_)
  all_goals exact W0 (λz=>[I z]) (by unfold fe;rw[C9 b];omega)
 ·repeat'(first|refine gD ?_|(conv=>whnf);first|with_reducible refine Bf.D (λa=>?_) (λa=>?_)|refine C7 (aG z 9 1000) ?_)
  all_goals exact W0 (λz=>[I z]) (by unfold fe;rw[C8 b])
theorem yr(z:Int):ao Tryz.prog 217 false [.val none [I z]] .one [I (fe z)]:=by
 refine fO 10 [] Tryz.func217 rfl ?_;by_cases b:9<=z/\z<=1000
 ·repeat'(first|refine gD ?_|(conv=>whnf);first|with_reducible refine Bf.D (λa=>?_) (λa=>?_)|refine C7 (aN z 9 1000) ?_|refine CM (by decide) ?_|refine CK ((W0 _ (tdiv16 ω)).trans (eM ω ω)) ?_)
  all_goals exact W0 (λz=>[I z]) (by unfold fe;rw[C9 b];omega)
 ·repeat'(first|refine gD ?_|(conv=>whnf);first|with_reducible refine Bf.D (λa=>?_) (λa=>?_)|refine C7 (aN z 9 1000) ?_)
  all_goals exact W0 (λz=>[I z]) (by unfold fe;rw[C8 b])
theorem nq(l:a7):ao Tryz.prog 269 false [.val (some 3) (a7.enc .imm l)] .one [B (bQ l)]:=by
 have b:=lz l.Size;by_cases c:9<=l.Size/\l.Size<=1000
 ·rw[show fe l.Size=(l.Size+15) / 16 from C9 c]at b
  refine fO 22 [] Tryz.func269 rfl ?_
  repeat'(first|refine gO ?_|(conv=>whnf);first|with_reducible (first|refine Bf.D (λa=>?_) (λa=>?_)|refine Bf.E (λa=>?_) (λa=>?_))|refine C7 b ?_|refine C7 (aG _ 0 _) ?_)
  all_goals exact W0 (λz=>[B z]) ((by unfold bQ;first|(symm;exact T0 ω)|exact decide_eq_decide.2 ω))
 ·rw[show fe l.Size=0 from C8 c]at b
  refine fO 22 [] Tryz.func269 rfl ?_
  repeat'(first|refine gD ?_|(conv=>whnf);first|with_reducible refine Bf.D (λa=>?_) (λa=>?_)|refine C7 b ?_)
  all_goals exact W0 (λz=>[B z]) ((by unfold bQ;symm;exact T0 ω))
theorem sj(l:a7):ao Tryz.prog 162 false [.val (some 3) (a7.enc .imm l)] .one [B (bQ l)]:=by
 have b:=yr l.Size;by_cases c:9<=l.Size/\l.Size<=1000
 ·rw[show fe l.Size=(l.Size+15) / 16 from C9 c]at b
  refine fO 22 [(1,20,[3,4,5,6,7,8,9,10,11,12,13,14,15,16,17,18,19,20,21,2])] Tryz.func162 rfl ?_
  repeat'(first|refine gD ?_|(conv=>whnf);first|with_reducible (first|refine Bf.D (λa=>?_) (λa=>?_)|refine Bf.E (λa=>?_) (λa=>?_))|refine C7 b ?_|refine C7 (aN _ 9 1000) ?_|refine C7 (aN _ 0 _) ?_)
  all_goals exact W0 (λz=>[B z]) ((by unfold bQ;first|(symm;exact T0 ω)|exact decide_eq_decide.2 ω))
 ·refine fO 22 [(1,20,[3,4,5,6,7,8,9,10,11,12,13,14,15,16,17,18,19,20,21,2])] Tryz.func162 rfl ?_
  repeat'(first|refine gD ?_|(conv=>whnf);first|with_reducible refine Bf.D (λa=>?_) (λa=>?_)|refine C7 (aN _ 9 1000) ?_)
  all_goals exact W0 (λz=>[B z]) ((by unfold bQ;symm;exact T0 ω))
theorem np{z:Int}(h:0<=z/\z<=9223372036854775807):(BitVec.ofInt IntKind.i64.bits z).toNat=z.toNat:=by
 show(BitVec.ofInt 64 z).toNat=z.toNat;rw[BitVec.toNat_ofInt]
 congr 1
 exact Int.emod_eq_of_lt h.1 (by show z<((2 ^ 64:Nat):Int);have:=h.2;norm_cast;omega)
theorem and64{z1 z2:Int}(h1:0<=z1/\z1<=9223372036854775807)(a:0<=z2/\z2<=9223372036854775807):IntKind.i64.wrap ((BitVec.ofInt IntKind.i64.bits z1 &&& BitVec.ofInt IntKind.i64.bits z2).toNat:Nat)=((z1.toNat &&& z2.toNat:Nat):Int):=by
 rw[BitVec.toNat_and,np h1,np a];have:z1.toNat &&& z2.toNat<=z1.toNat:=Nat.and_le_left;exact eM ω ω
theorem Gn(k:Int):lim k<=65535:=by
 unfold lim
 (repeat' split)<;>decide
theorem eg{s:ar}(h:aY s=true):0<=s.Bits/\s.Bits<=9223372036854775807:=by
 unfold aY at h;simp only[C0]at h;have:=Gn s.Class;omega
theorem l8(b c:ar):ao Tryz.prog 40 false [.val (some 3) (ar.enc .imm b),.val (some 3) (ar.enc .imm c)] .one [B (meshable b c)]:=by
 have g:=f6 b;have h:=f6 c;cases d:aY b<;>rw[d]at g<;>cases e:aY c<;>rw[e]at h
 all_goals
  refine fO 33 [] Tryz.func40 rfl ?_
  repeat'(first|refine gO ?_|(conv=>whnf);first|with_reducible (first|refine Bf.D (λa=>?_) (λa=>?_)|refine Bf.N (λa=>?_) (λa=>?_)|refine Bf.E (λa=>?_) (λa=>?_))|refine C7 g ?_|refine C7 h ?_|refine CK (and64 (eg d) (eg e)) ?_)
  all_goals exact W0 (λz=>[B z]) ((by unfold meshable;rw[d,e];first|rfl|(symm;exact T0 ω)|(rw[U4];simp;omega)))
theorem y3(b c:ar):ao Tryz.prog 165 false [.val (some 3) (ar.enc .imm b),.val (some 3) (ar.enc .imm c)] .one [B (meshable b c)]:=by
 have g:=ge b;have h:=ge c;cases d:aY b<;>rw[d]at g<;>cases e:aY c<;>rw[e]at h
 all_goals
  refine fO 33 [] Tryz.func165 rfl ?_
  repeat'(first|refine gO ?_|(conv=>whnf);first|with_reducible (first|refine Bf.D (λa=>?_) (λa=>?_)|refine Bf.N (λa=>?_) (λa=>?_)|refine Bf.E (λa=>?_) (λa=>?_))|refine C7 g ?_|refine C7 h ?_|refine CK (and64 (eg d) (eg e)) ?_)
  all_goals exact W0 (λz=>[B z]) ((by unfold meshable;rw[d,e];first|rfl|(symm;exact T0 ω)|(rw[U4];simp;omega)))
theorem Ki(k:Int):ao Tryz.prog 247 false [.val none [I k]] .one [B (decide (0<=k/\k<=15))]:=by
 refine fO 5 [] Tryz.func247 rfl ?_
 repeat'(first|refine gO ?_|(conv=>whnf);first|refine C7 (aN k 0 15) ?_)
 rfl
theorem uk(p:cv)(e:cv.sml p):ao Tryz.prog 279 false [.val (some 3) (cv.enc .imm p)] .one [B (fj p)]:=by
 have h:p.Cells.length<=1048576:=e;refine fO 51 [(4,25,[11,12,13,14,15,16,17,18,19,20,21,22,23,24,25,26,27,28,29,30,31,32,33,34,35])] Tryz.func279 rfl ?_
 repeat'(first|refine gO ?_|fail)
 (conv=>whnf)
 refine CE (ι:=Nat) (λi=>[(1,.hold .box (cv.enc .imm p)),(3,.hold .one [I ((i:Nat):Int)])]) (λi=>i<=p.Cells.length/\cS i (mJ p.Cells)=true) (λi=>p.Cells.length - i) 0 ?_ ⟨U0 _,rfl⟩ λi c=>?_
 ·exact wB
 obtain⟨c,d⟩:=c;by_cases b:i<p.Cells.length
 ·have g:=ah b
  repeat'(first|refine gD ?_|(conv=>whnf);first|with_reducible (first|refine CB (aa g) ?_|refine Bf.D (λa=>?_) (λa=>?_))|refine C7 (aG _ 0 15) ?_|refine CL ω (aa (fX ω b)) ?_)
  all_goals first
   | exact W0 (λz=>[B z]) ((by symm;unfold fj;rw[cr b (T0 ω)];rfl))
   | ((conv=>whnf);refine CD (i+1) ⟨ω,bL d (O0 ω)⟩ ω ?_;(exact wB))
 ·obtain rfl:i=p.Cells.length:=ω
  repeat'(first|refine gD ?_|(conv=>whnf);first|with_reducible (first|refine Bf.D (λa=>?_) (λa=>?_)|refine Bf.NB (λa=>?_) (λa=>?_)|refine Bf.N (λa=>?_) (λa=>?_))|refine C7 (aG _ 0 31) ?_)
  all_goals exact W0 (λz=>[B z]) ((by unfold fj;rw[d];simp only[Bool.true_and];first|(symm;exact T0 ω)|exact decide_eq_decide.2 ω|(rw[U4];simp;omega)))
theorem Ef(p:cv)(e:cv.sml p):ao Tryz.prog 171 false [.val (some 3) (cv.enc .imm p)] .one [B (fj p)]:=by
 have h:p.Cells.length<=1048576:=e;refine fO 46 [] Tryz.func171 rfl ?_
 repeat'(first|refine gO ?_|fail)
 (conv=>whnf)
 refine CE (ι:=Nat) (λi=>[(1,.hold .box (cv.enc .imm p)),(6,.hold .one (aF .imm p.Cells)),(7,.hold .one [I (p.Cells.length)]),(8,.hold .one [I ((i:Nat):Int)])]) (λi=>i<=p.Cells.length/\cS i (mJ p.Cells)=true) (λi=>p.Cells.length - i) 0 ?_ ⟨U0 _,rfl⟩ λi c=>?_
 ·exact wB
 obtain⟨c,d⟩:=c;by_cases b:i<p.Cells.length
 ·have g:=ah b
  repeat'(first|refine gD ?_|(conv=>whnf);first|with_reducible (first|refine CB (aa g) ?_|refine Bf.D (λa=>?_) (λa=>?_))|refine C7 (Ki _) ?_|refine CL ω (aa (fX ω b)) ?_)
  all_goals first
   | exact W0 (λz=>[B z]) ((by symm;unfold fj;rw[cr b (T0 ω)];rfl))
   | ((conv=>whnf);refine CD (i+1) ⟨ω,bL d (O0 ω)⟩ ω ?_;(exact wB))
 ·obtain rfl:i=p.Cells.length:=ω
  repeat'(first|refine gD ?_|(conv=>whnf);first|with_reducible (first|refine Bf.D (λa=>?_) (λa=>?_)|refine Bf.NB (λa=>?_) (λa=>?_)|refine Bf.N (λa=>?_) (λa=>?_))|refine C7 (aN _ 0 31) ?_)
  all_goals exact W0 (λz=>[B z]) ((by unfold fj;rw[d];simp only[Bool.true_and];first|(symm;exact T0 ω)|exact decide_eq_decide.2 ω|(rw[U4];simp;omega)))
theorem v7(j:cG)(a:cG.sml j):ao Tryz.prog 212 false [.val (some 5) (cG.enc .imm j)] .one [B (jx j)]:=by
 have e:j.Plan.Cells.length<=1048576:=a;have b:=uk j.Plan a;cases c:fj j.Plan<;>rw[c]at b
 all_goals
  refine fO 20 [] Tryz.func212 rfl ?_
  repeat'(first|refine gO ?_|(conv=>whnf);first|with_reducible refine Bf.D (λd=>?_) (λd=>?_)|refine C7 b ?_|refine C7 (aG _ 0 5) ?_|refine C7 (aG _ 0 _) ?_)
  all_goals exact W0 (λz=>[B z]) ((by unfold jx;rw[c];first|rfl|(symm;exact T0 ω)|(rw[U4];simp;omega)))
theorem Gz(j:cG)(a:cG.sml j):ao Tryz.prog 77 false [.val (some 5) (cG.enc .imm j)] .one [B (jx j)]:=by
 have e:j.Plan.Cells.length<=1048576:=a;have b:=Ef j.Plan a;cases c:fj j.Plan<;>rw[c]at b
 all_goals
  refine fO 20 [] Tryz.func77 rfl ?_
  repeat'(first|refine gO ?_|(conv=>whnf);first|with_reducible refine Bf.D (λd=>?_) (λd=>?_)|refine C7 b ?_|refine C7 (aN _ 0 5) ?_|refine C7 (aN _ 0 _) ?_)
  all_goals exact W0 (λz=>[B z]) ((by unfold jx;rw[c];first|rfl|(symm;exact T0 ω)|(rw[U4];simp;omega)))
theorem ki(l:a7)(k:Nat):lpgs l (k+1)=lpgs l k++[l.Page+(k:Nat)]:=by
 unfold lpgs;rw[List.range_succ,O5];rfl
theorem El(l:a7)(k:Nat):(lpgs l k).length=k:=by unfold lpgs;simp
theorem K3(l:a7){k n:Nat}(h:k<=n):lpgs l k <+: lpgs l n:=by
 induction n with
 | zero=>
  obtain rfl:k=0:=ω
  exact List.prefix_refl _
 | succ n b=>
  rcases Nat.lt_or_ge n k with a|a
  ·obtain rfl:k=n+1:=ω
   exact List.prefix_refl _
  ·rw[ki];exact(b a).trans (List.prefix_append ..)
theorem oz(sp:List ar){la:List a7}{i:Nat}{l:a7}(h:la[i]? = some l):pgs sp (la.take (i+1))=pgs sp (la.take i)++lpgs l l.Pages.toNat:=by
 unfold pgs;rw[C5,h,List.flatMap_append];simp
theorem Ns(sp:List ar)(la:List a7)(i:Nat):pgs sp (la.take i) <+: pgs sp la:=by
 unfold pgs;refine(List.prefix_append_right_inj _).2 ?_
 conv=>rhs;rw[<-List.take_append_drop i la,List.flatMap_append]
 exact List.prefix_append ..
theorem Mq{S all:List Int}{p:Int}(h:(S++[p]) <+: all)(b:p∈S):decide all.Nodup=false:=by
 refine T0 λc=>?_
 have a:=c.sublist h.sublist;rw[List.nodup_append]at a;exact a.2.2 p b p (by simp) rfl
theorem kK{S:List Int}{p:Int}(h:S.Nodup)(b:p∉S):(S++[p]).Nodup:=by
 rw[List.nodup_append];exact⟨h,by simp,λx c y a e=>by simp at a;subst a;subst e;exact b c⟩
theorem Ed{sp:List ar}{la:List a7}{i:Nat}{s:ar}(h:sp[i]? = some s):((sp.take i).map (·.Page)++[s.Page]) <+: pgs sp la:=by
 have a:(sp.take i).map (·.Page)++[s.Page]=(sp.take (i+1)).map (·.Page):=by rw[C5,h];simp
 rw[a];refine List.IsPrefix.trans ?_ (List.prefix_append ..);rw[t4];exact List.take_prefix ..
theorem zR{sp:List ar}{la:List a7}{i k:Nat}{l:a7}(h:la[i]? = some l)(a:k<l.Pages.toNat):(pgs sp (la.take i)++lpgs l k++[l.Page+(k:Nat)]) <+: pgs sp la:=by
 refine List.IsPrefix.trans ?_ (Ns sp la (i+1));rw[oz sp h,I5,<-ki];exact(List.prefix_append_right_inj _).2 (K3 l a)
theorem qb{sp:List ar}{la:List a7}{i:Nat}{s:ar}(h:sp[i]? = some s)(a:aY s=false):bh sp la=false:=by
 unfold bh;rw[eD h a];rfl
theorem ot{sp:List ar}{la:List a7}{i:Nat}{l:a7}(h:la[i]? = some l)(a:bQ l=false):bh sp la=false:=by
 unfold bh;rw[eD h a];simp
theorem jP{sp:List ar}{la:List a7}{S:List Int}{p:Int}(h:(S++[p]) <+: pgs sp la)(a:p∈S):bh sp la=false:=by
 unfold bh;rw[Mq h a];simp
theorem rG{sp:List ar}{la:List a7}(h1:sp.all aY=true)(a:la.all bQ=true)(b:(pgs sp la).Nodup):bh sp la=true:=by
 unfold bh;rw[h1,a,O0 b];rfl
theorem aQ{l:a7}(h:bQ l=true):1<=l.Pages/\l.Pages<=63/\0<=l.Page/\l.Page<=31:=by
 unfold bQ at h;simp only[C0]at h;omega
theorem lM(sp:List ar)(la:List a7)(t:du sp)(u:dr la):ao Tryz.prog 203 false [.val none (ci .imm sp),.val none (bU .imm la)] .one [B (bh sp la)]:=by
 have J:=t.1;have K:=u.1;refine fO 79 [] Tryz.func203 rfl ?_
 repeat'(first|refine gO ?_|fail)
 (conv=>whnf)
 refine CE (ι:=Nat × List Int) (λi=>[(0,.hold .one (ci .imm sp)),(1,.hold .one (bU .imm la)),(5,.hold .one (aF .own i.2)),(6,.hold .one [I ((i.1:Nat):Int)])]) (λi=>i.1<=sp.length/\i.2=(sp.take i.1).map (·.Page)/\(sp.take i.1).all aY=true/\i.2.Nodup) (λi=>sp.length - i.1) ((0,[])) ?_ (⟨U0 _,rfl,rfl,List.nodup_nil⟩) λi p=>?_
 ·exact wB
 obtain⟨i,S⟩:=i;obtain⟨p,o,h,l⟩:=p;simp only at p o h l |-;have L:S.length=i:=by rw[o,Z0,U1];omega
 by_cases w:i<sp.length
 ·have a:=ah w
  have n:=f6 (nth sp i);cases j:aY (nth sp i)<;>rw[j]at n
  ·repeat'(first|refine gD ?_|(conv=>whnf);first|with_reducible refine CB (aa a) ?_|refine C7 n ?_)
   exact W0 (λz=>[B z]) ((qb a j).symm)
  ·repeat'(first|refine gD ?_|(conv=>whnf);first|with_reducible (first|refine CB (aa a) ?_|refine Bf.D (λy=>?_) (λy=>?_))|refine C7 n ?_|refine CG (lZ S _ ω) ⟨⟨rfl,dL _⟩,⟨rfl,rfl⟩,trivial⟩ ?_|refine CQ co (λr E=>by rw[I1.1 E];rfl) (by simp[aX,dH]) (by simp;omega) (by simp only[Z0];exact vq (by simp;omega) (by decide)) rfl ?_)
   all_goals first
    | exact W0 (λz=>[B z]) ((jP (S:=S) (by rw[o];exact Ed a) (by assumption)).symm)
    | ((conv=>whnf)
       refine CD (i+1,S++[(nth sp i).Page]) ⟨(by simp only;omega),(by simp only;rw[o,C5,a];simp),(cL a h j),kK l (by assumption)⟩ (by simp only;omega) ?_
       (repeat'(first|exact trivial|rfl|exact CJ rfl (CJ (W0 (C.s d7.own) (by simp[rI])) trivial)|refine CJ ?_ ?_)))
 ·obtain rfl:i=sp.length:=ω
  rw[Z4]at h o
  repeat'(first|refine gD ?_|fail)
  (conv=>whnf)
  refine CE (ι:=Nat × List Int) (λi=>[(1,.hold .one (bU .imm la)),(5,.hold .one (aF .own i.2)),(7,.hold .one [I ((i.1:Nat):Int)])]) (λi=>i.1<=la.length/\i.2=pgs sp (la.take i.1)/\(la.take i.1).all bQ=true/\i.2.Nodup/\i.2.length<=1048576+64*i.1) (λi=>la.length - i.1) ((0,S)) ?_ (⟨U0 _,by rw[o];unfold pgs;simp,rfl,l,by simp only;omega⟩) λi p=>?_
  ·exact wB
  obtain⟨i,S2⟩:=i;obtain⟨F,c,b,d,G⟩:=p;simp only at F c b d G |-;by_cases w:i<la.length
  ·have a:=ah w
   have n:=nq (nth la i);cases j:bQ (nth la i)<;>rw[j]at n
   ·repeat'(first|refine gD ?_|(conv=>whnf);first|with_reducible refine CB (aa a) ?_|refine C7 n ?_)
    exact W0 (λz=>[B z]) ((ot a j).symm)
   ·have M:=aQ j
    repeat'(first|refine gD ?_|(conv=>whnf);first|with_reducible refine CB (aa a) ?_|refine C7 n ?_)
    (conv=>whnf)
    refine CE (ι:=Nat × List Int) (λk=>[(1,.hold .one (bU .imm la)),(5,.hold .one (aF .own k.2)),(7,.hold .one [I ((i:Nat):Int)]),(8,.hold .one [I ((k.1:Nat):Int)])]) (λk=>k.1<=(nth la i).Pages.toNat/\k.2=S2++lpgs (nth la i) k.1/\k.2.Nodup) (λk=>(nth la i).Pages.toNat - k.1) ((0,S2)) ?_ (⟨U0 _,by simp[lpgs],d⟩) λk H=>?_
    ·exact wB
    obtain⟨k,q⟩:=k;obtain⟨H,e,g⟩:=H;simp only at H e g |-;have N:q.length=S2.length+k:=by rw[e,I3,El]
    by_cases O:k<(nth la i).Pages.toNat
    ·repeat'(first|refine gD ?_|(conv=>whnf);first|with_reducible (first|refine CB (aa a) ?_|refine Bf.D (λy=>?_) (λy=>?_))|refine CG (lZ q _ ω) ⟨⟨rfl,dL _⟩,⟨rfl,rfl⟩,trivial⟩ ?_|refine CQ co (λr E=>by rw[I1.1 E];rfl) (by simp[aX,dH]) (by simp;omega) (by show _*8<=_;simp;omega) rfl ?_)
     all_goals first
      | exact W0 (λz=>[B z]) ((jP (S:=q) (by rw[e,c];exact zR a O) (by assumption)).symm)
      | ((conv=>whnf)
         refine CD (k+1,q++[(nth la i).Page+(k:Nat)]) ⟨(by simp only;omega),(by simp only;rw[e,ki,I5]),kK g (by assumption)⟩ (by simp only;omega) ?_
         (repeat'(first|exact trivial|rfl|exact CJ rfl (CJ (W0 (C.s d7.own) (by simp[rI])) trivial)|refine CJ ?_ ?_)))
    ·obtain rfl:k=(nth la i).Pages.toNat:=ω
     repeat'(first|refine gD ?_|(conv=>whnf);first|with_reducible refine CB (aa a) ?_)
     ((conv=>whnf);refine CD (i+1,q) ⟨(by simp only;omega),(by simp only;rw[e,c,<-oz sp a]),(cL a b j),g,(by simp only;omega)⟩ (by simp only;omega) ?_;(exact wB))
  ·obtain rfl:i=la.length:=ω
   rw[Z4]at b c
   repeat'(first|refine gD ?_|fail)
   exact W0 (λz=>[B z]) ((rG h b (by rw[<-c];exact d)).symm)
def ins(S:List Int)(p:Int):List Int:=if p∈S then S else S++[p]
theorem Hg{p:Int} : ∀{S:List Int},p∈S->mput (fx S) p (.bool true)=fx S
 | x::S,h=>by
  simp only[fx,U5,mput];by_cases a:x=p
  ·rw[C9 a,a]
  ·rw[C8 a]
   have:=Hg (S:=S) ((List.mem_cons.1 h).resolve_left λe=>a e.symm);simp only[fx]at this;rw[this]
theorem wl(S:List Int)(p:Int):fx (ins S p)=mput (fx S) p (.bool true):=by
 unfold ins;split
 ·rw[Hg (by assumption)]
 ·rw[sW (by assumption)]
theorem K5(S:List Int)(p:Int):aO Tryz.prog 160 false [.val none [I p],.ptr [.m (fx S)]] [.val none [I p],.ptr [.m (fx (ins S p))]] .one [B (decide (p∉S))]:=by
 refine fM 12 [] [] [(0,0),(0,0)] Tryz.func160 rfl (λu q=>?_)
 repeat'(first|refine gO ?_|(conv=>whnf);first|refine Ml.mk (mI p S) ?_|refine Mu.mk (wl S p) ?_)
 refine CF rfl ?_ ?_
 ·exact W0 (λz=>[B z]) (by simp)
 ·exact wB
theorem lJ(sp:List ar)(la:List a7)(t:du sp)(u:dr la):ao Tryz.prog 68 false [.val none (ci .imm sp),.val none (bU .imm la)] .one [B (bh sp la)]:=by
 have F:=t.1;have G:=u.1;refine fP 54 [(160,[0,2])] [] Tryz.func68 rfl ?_
 repeat'(first|refine gO ?_|fail)
 (conv=>whnf)
 refine CE (ι:=Nat × List Int) (λi=>[(1,.hold .one (bU .imm la)),(5,.hold .box [.m (fx i.2)]),(6,.fn 160 [5]),(14,.hold .one (ci .imm sp)),(15,.hold .one [I (sp.length)]),(16,.hold .one [I ((i.1:Nat):Int)])]) (λi=>i.1<=sp.length/\i.2=(sp.take i.1).map (·.Page)/\(sp.take i.1).all aY=true/\i.2.Nodup) (λi=>sp.length - i.1) ((0,[])) ?_ (⟨U0 _,rfl,rfl,List.nodup_nil⟩) λi p=>?_
 ·exact wB
 obtain⟨i,S⟩:=i;obtain⟨p,q,h,n⟩:=p;simp only at p q h n |-;by_cases w:i<sp.length
 ·have c:=ah w
  have o:=ge (nth sp i);cases l:aY (nth sp i)<;>rw[l]at o
  ·repeat'(first|refine gD ?_|(conv=>whnf);first|with_reducible refine CB (aa c) ?_|refine C7 o ?_)
   exact W0 (λz=>[B z]) ((qb c l).symm)
  ·repeat'(first|refine gD ?_|(conv=>whnf);first|with_reducible (first|refine CB (aa c) ?_|refine Bf.D (λy=>?_) (λy=>?_))|refine C7 o ?_|refine CI (K5 S _) (.inl rfl) ?_)
   all_goals first
    | exact W0 (λz=>[B z]) ((jP (S:=S) (by rw[q];exact Ed c) (by grind)).symm)
    |(have a:(nth sp i).Page∉S:=by assumption
      (conv=>whnf)
      refine CD (i+1,ins S (nth sp i).Page) ⟨(by simp only;omega),(by simp only;unfold ins;rw[C8 a,q,C5,c];simp),(cL c h l),(by simp only;unfold ins;rw[C8 a];exact kK n a)⟩ (by simp only;omega) ?_
      (exact wA))
 ·obtain rfl:i=sp.length:=ω
  rw[Z4]at h q
  repeat'(first|refine gD ?_|fail)
  (conv=>whnf)
  refine CE (ι:=Nat × List Int) (λi=>[(5,.hold .box [.m (fx i.2)]),(6,.fn 160 [5]),(31,.hold .one (bU .imm la)),(32,.hold .one [I (la.length)]),(33,.hold .one [I ((i.1:Nat):Int)])]) (λi=>i.1<=la.length/\i.2=pgs sp (la.take i.1)/\(la.take i.1).all bQ=true/\i.2.Nodup) (λi=>la.length - i.1) ((0,S)) ?_ (⟨U0 _,by rw[q];unfold pgs;simp,rfl,n⟩) λi p=>?_
  ·exact wB
  obtain⟨i,S2⟩:=i;obtain⟨C,d,b,e⟩:=p;simp only at C d b e |-;by_cases w:i<la.length
  ·have c:=ah w
   have o:=sj (nth la i);cases l:bQ (nth la i)<;>rw[l]at o
   ·repeat'(first|refine gD ?_|(conv=>whnf);first|with_reducible refine CB (aa c) ?_|refine C7 o ?_)
    exact W0 (λz=>[B z]) ((ot c l).symm)
   ·have H:=aQ l
    repeat'(first|refine gD ?_|(conv=>whnf);first|with_reducible refine CB (aa c) ?_|refine C7 o ?_)
    (conv=>whnf)
    refine CE (ι:=Nat × List Int) (λk=>[(5,.hold .box [.m (fx k.2)]),(6,.fn 160 [5]),(10,.hold .box (a7.enc .imm (nth la i))),(11,.hold .one [I ((k.1:Nat):Int)]),(31,.hold .one (bU .imm la)),(32,.hold .one [I (la.length)]),(33,.hold .one [I ((i:Nat):Int)])]) (λk=>k.1<=(nth la i).Pages.toNat/\k.2=S2++lpgs (nth la i) k.1/\k.2.Nodup) (λk=>(nth la i).Pages.toNat - k.1) ((0,S2)) ?_ (⟨U0 _,by simp[lpgs],e⟩) λk E=>?_
    ·exact wB
    obtain⟨k,r⟩:=k;obtain⟨E,j,g⟩:=E;simp only at E j g |-;by_cases J:k<(nth la i).Pages.toNat
    ·repeat'(first|refine gD ?_|(conv=>whnf);first|with_reducible refine Bf.D (λy=>?_) (λy=>?_)|refine CI (K5 r _) (.inl rfl) ?_)
     all_goals first
      | exact W0 (λz=>[B z]) ((jP (S:=r) (by rw[j,d];exact zR c J) (by grind)).symm)
      |(have a:(nth la i).Page+(k:Nat)∉r:=by assumption
        (conv=>whnf)
        refine CD (k+1,ins r ((nth la i).Page+(k:Nat))) ⟨(by simp only;omega),(by simp only;unfold ins;rw[C8 a,j,ki,I5]),(by simp only;unfold ins;rw[C8 a];exact kK g a)⟩ (by simp only;omega) ?_
        (exact wA))
    ·obtain rfl:k=(nth la i).Pages.toNat:=ω
     repeat'(first|refine gD ?_|fail)
     ((conv=>whnf);refine CD (i+1,r) ⟨(by simp only;omega),(by simp only;rw[j,d,<-oz sp c]),(cL c b l),g⟩ (by simp only;omega) ?_;(exact wB))
  ·obtain rfl:i=la.length:=ω
   rw[Z4]at b d
   repeat'(first|refine gD ?_|fail)
   exact W0 (λz=>[B z]) ((rG h b (by rw[<-d];exact e)).symm)
theorem aC{s:ar}(h:aY s=true):0<=s.Page/\s.Page<=31/\0<=s.Class/\s.Class<=3:=by
 unfold aY at h;simp only[C0]at h;omega
theorem bO{k:Int}(h:0<=k/\k<=3):csz k=1\/csz k=2\/csz k=4\/csz k=8:=by
 obtain rfl|rfl|rfl|rfl:k=0\/k=1\/k=2\/k=3:=ω
 all_goals decide
theorem kr{x y:Int}(h:0<=x):x.tdiv y=x / y:=Int.tdiv_eq_ediv_of_nonneg h
theorem gm{x y:Int}(h:0<=x):x.tmod y=x % y:=Int.tmod_eq_emod_of_nonneg h
def S2(p:Int × Int):List C:=[I p.1,I p.2]
theorem yL{a b:Int}{p:Int × Int}(h:(a,b)=p):[I a,I b]=S2 p:=by subst h;rfl
theorem ui(s:ar)(a:Int)(k:mr a):ao Tryz.prog 328 false [.val (some 3) (ar.enc .imm s),.val none [I a]] (.tup [none,none]) (S2 (iD s a)):=by
 have g:=f6 s;have l:=de s.Class;obtain⟨n,o⟩:=k;cases b:aY s<;>rw[b]at g
 ·refine fO 33 [(4,12,[23,24,25,26,27,28,29,30,31,32,4,5])] Tryz.func328 rfl ?_ (.inr ⟨trivial,trivial,trivial⟩)
  repeat'(first|refine gO ?_|(conv=>whnf);first|refine C7 g ?_)
  exact yL (by unfold iD cm;rw[b];rfl)
 ·have h:=aC b
  have i:=bO ⟨h.2.2.1,h.2.2.2⟩;by_cases c:16*s.Page<=a/\a<=16*s.Page+15
  ·have j:0<=a:=ω
   refine fO 33 [(4,12,[23,24,25,26,27,28,29,30,31,32,4,5])] Tryz.func328 rfl ?_ (.inr ⟨trivial,trivial,trivial⟩)
   repeat'(first|refine gD ?_|(conv=>whnf);first|with_reducible refine Bf.N (λd=>?_) (λd=>?_)|refine C7 g ?_|refine C7 l ?_|refine CM (by decide) ?_|refine CM ω ?_|refine CK ((W0 _ (kr j)).trans (eM ω ω)) ?_|refine CS (gm j) ?_|refine CK ((W0 _ (kr ω)).trans (eM (by rcases i with e|e|e|e<;>rw[e]<;>omega) (by rcases i with e|e|e|e<;>rw[e]<;>omega))) ?_|refine CS (gm ω) ?_)
   all_goals first
    |(exfalso;omega)
    |exact yL (by unfold iD cm;rw[b,O0 c];show _=((a - 16*s.Page) / csz s.Class,(a - 16*s.Page) % csz s.Class);rw[show a % 16=a - 16*s.Page by omega])
  ·refine fO 33 [(4,12,[23,24,25,26,27,28,29,30,31,32,4,5])] Tryz.func328 rfl ?_ (.inr ⟨trivial,trivial,trivial⟩)
   repeat'(first|refine gO ?_|(conv=>whnf);first|with_reducible (first|refine Bf.D (λd=>?_) (λd=>?_)|refine Bf.N (λd=>?_) (λd=>?_))|refine C7 g ?_|refine CM (by decide) ?_|refine CK ((W0 _ (kr ω)).trans (eM ω ω)) ?_)
   all_goals first
    |exact yL (by unfold iD cm;rw[b,T0 c];rfl)
    |(exfalso;omega)
theorem E7(s:ar)(a:Int):ao Tryz.prog 182 false [.val (some 3) (ar.enc .imm s),.val none [I a]] (.tup [none,none]) (S2 (iD s a)):=by
 have d:=ge s;have j:=cJ s.Class;cases b:aY s<;>rw[b]at d
 ·refine fO 38 [(4,12,[28,29,30,31,32,33,34,35,36,37,4,5])] Tryz.func182 rfl ?_ (.inr ⟨trivial,trivial,trivial⟩)
  repeat'(first|refine gO ?_|(conv=>whnf);first|refine C7 d ?_)
  exact yL (by unfold iD cm;rw[b];rfl)
 ·have h:=aC b
  have i:=bO ⟨h.2.2.1,h.2.2.2⟩;by_cases c:16*s.Page<=a/\a<=16*s.Page+15
  ·refine fO 38 [(4,12,[28,29,30,31,32,33,34,35,36,37,4,5])] Tryz.func182 rfl ?_ (.inr ⟨trivial,trivial,trivial⟩)
   repeat'(first|refine gD ?_|(conv=>whnf);first|with_reducible refine Bf.D (λg=>?_) (λg=>?_)|refine C7 d ?_|refine C7 j ?_|refine C7 (aN _ _ _) ?_|refine CM ω ?_|refine CK ((W0 _ (kr ω)).trans (eM (by rcases i with e|e|e|e<;>rw[e]<;>omega) (by rcases i with e|e|e|e<;>rw[e]<;>omega))) ?_|refine CS (gm ω) ?_)
   all_goals exact yL (by unfold iD cm;rw[b,O0 c];show _=((a - 16*s.Page) / csz s.Class,(a - 16*s.Page) % csz s.Class);rw[show a - s.Page*16=a - 16*s.Page by omega])
  ·refine fO 38 [(4,12,[28,29,30,31,32,33,34,35,36,37,4,5])] Tryz.func182 rfl ?_ (.inr ⟨trivial,trivial,trivial⟩)
   repeat'(first|refine gD ?_|(conv=>whnf);first|with_reducible refine Bf.D (λg=>?_) (λg=>?_)|refine C7 d ?_|refine C7 (aN _ _ _) ?_)
   all_goals exact yL (by unfold iD cm;rw[b,T0 c];rfl)
theorem po(b i:Int):ao Tryz.prog 260 false [.val none [I b],.val none [I i]] .one [B (decide (0<=b/\0<=i/\i<=15))]:=by
 refine fO 11 [] Tryz.func260 rfl ?_
 repeat'(first|refine gO ?_|(conv=>whnf);first|with_reducible refine Bf.D (λa=>?_) (λa=>?_)|refine C7 (aG _ 0 15) ?_)
 all_goals exact W0 (λz=>[B z]) ((by first|(symm;exact T0 ω)|exact decide_eq_decide.2 ω))
theorem tt(b i:Int):ao Tryz.prog 248 false [.val none [I b],.val none [I i]] .one [B (decide (0<=b/\0<=i/\i<=15))]:=by
 refine fO 11 [] Tryz.func248 rfl ?_
 repeat'(first|refine gO ?_|(conv=>whnf);first|with_reducible refine Bf.D (λa=>?_) (λa=>?_)|refine C7 (aN _ 0 15) ?_)
 all_goals exact W0 (λz=>[B z]) ((by first|(symm;exact T0 ω)|exact decide_eq_decide.2 ω))
theorem KM{b i:Int}(a:0<=b/\b<=9223372036854775807)(e:0<=i/\i<=15):b.fdiv (2 ^ min i.toNat IntKind.i64.bits)=b / 2 ^ i.toNat/\0<=b / 2 ^ i.toNat/\b / 2 ^ i.toNat<=9223372036854775807:=by
 have d:min i.toNat IntKind.i64.bits=i.toNat:=Nat.min_eq_left (show i.toNat<=64 by omega);rw[d];have c:(0:Int)<=2 ^ i.toNat:=Int.pow_nonneg (by decide);refine⟨Int.fdiv_eq_ediv_of_nonneg _ c,Int.ediv_nonneg a.1 c,?_⟩;have:=Int.ediv_le_self (2 ^ i.toNat:Int) a.1;omega
theorem vN{b i:Int}(a:0<=b)(e:0<=i/\i<=15):((((b / 2 ^ i.toNat).toNat &&& (1:Int).toNat:Nat):Int) == 1)=aU b i:=by
 have c:(0:Int)<=b / 2 ^ i.toNat:=Int.ediv_nonneg a (Int.pow_nonneg (by decide));have d:(b / 2 ^ i.toNat).toNat &&& (1:Int).toNat=(b / 2 ^ i.toNat).toNat % 2:=Nat.and_one_is_mod _;rw[d];unfold aU;generalize b / 2 ^ i.toNat=q at c |-;rw[U4,beq_iff_eq,C0];omega
theorem gv(b i:Int)(c:b<=9223372036854775807):ao Tryz.prog 192 false [.val none [I b],.val none [I i]] .one [B (aU b i)]:=by
 by_cases h:0<=b/\0<=i/\i<=15
 ·obtain⟨d,g⟩:=KM (b:=b) (i:=i) ⟨h.1,c⟩ h.2
  have j:IntKind.u64.wrap i=i:=by unfold IntKind.wrap;simp[IntKind.signed,IntKind.bits];omega
  refine fO 16 [] Tryz.func192 rfl ?_
  repeat'(first|refine gD ?_|(conv=>whnf);first|with_reducible refine Bf.D (λa=>?_) (λa=>?_)|refine C7 (po _ _) ?_|refine CM ω ?_|refine CK j ?_|refine CS d ?_|refine CK (and64 g ⟨by decide,by decide⟩) ?_)
  all_goals exact W0 (λz=>[B z]) ((vN h.1 h.2))
 ·refine fO 16 [] Tryz.func192 rfl ?_
  repeat'(first|refine gD ?_|(conv=>whnf);first|with_reducible refine Bf.D (λa=>?_) (λa=>?_)|refine C7 (po _ _) ?_)
  all_goals exact W0 (λz=>[B z]) ((by unfold aU;symm;exact T0 λe=>h ⟨e.1,e.2.1,e.2.2.1⟩))
theorem jK(b i:Int)(c:b<=9223372036854775807):ao Tryz.prog 173 false [.val none [I b],.val none [I i]] .one [B (aU b i)]:=by
 by_cases h:0<=b/\0<=i/\i<=15
 ·obtain⟨d,g⟩:=KM (b:=b) (i:=i) ⟨h.1,c⟩ h.2
  refine fO 15 [] Tryz.func173 rfl ?_
  repeat'(first|refine gD ?_|(conv=>whnf);first|with_reducible refine Bf.D (λa=>?_) (λa=>?_)|refine C7 (tt _ _) ?_|refine CM ω ?_|refine CS d ?_|refine CK (and64 g ⟨by decide,by decide⟩) ?_)
  all_goals exact W0 (λz=>[B z]) ((vN h.1 h.2))
 ·refine fO 15 [] Tryz.func173 rfl ?_
  repeat'(first|refine gD ?_|(conv=>whnf);first|with_reducible refine Bf.D (λa=>?_) (λa=>?_)|refine C7 (tt _ _) ?_)
  all_goals exact W0 (λz=>[B z]) ((by unfold aU;symm;exact T0 λe=>h ⟨e.1,e.2.1,e.2.2.1⟩))
theorem bS{l:a7}(h:bQ l=true):9<=l.Size/\l.Size<=1000/\0<=l.Page/\l.Page<=31:=by
 unfold bQ at h;simp only[C0]at h;omega
theorem pM(l:a7)(a:Int):ao Tryz.prog 329 false [.val (some 3) (a7.enc .imm l),.val none [I a]] .one [B (bo l a)]:=by
 have c:=nq l;cases b:bQ l<;>rw[b]at c
 ·refine fO 24 [] Tryz.func329 rfl ?_
  repeat'(first|refine gO ?_|(conv=>whnf);first|refine C7 c ?_)
  exact W0 (λz=>[B z]) ((by unfold bo;rw[b];rfl))
 ·have e:=bS b
  refine fO 24 [] Tryz.func329 rfl ?_
  repeat'(first|refine gO ?_|(conv=>whnf);first|with_reducible refine Bf.D (λd=>?_) (λd=>?_)|refine C7 c ?_)
  all_goals exact W0 (λz=>[B z]) ((by unfold bo;rw[b,Bool.true_and];first|(symm;exact T0 ω)|exact decide_eq_decide.2 ω))
theorem pP(l:a7)(a:Int):ao Tryz.prog 183 false [.val (some 3) (a7.enc .imm l),.val none [I a]] .one [B (bo l a)]:=by
 have c:=sj l;cases b:bQ l<;>rw[b]at c
 ·refine fO 21 [] Tryz.func183 rfl ?_
  repeat'(first|refine gO ?_|(conv=>whnf);first|refine C7 c ?_)
  exact W0 (λz=>[B z]) ((by unfold bo;rw[b];rfl))
 ·have e:=bS b
  refine fO 21 [] Tryz.func183 rfl ?_
  repeat'(first|refine gO ?_|(conv=>whnf);first|with_reducible refine Bf.D (λd=>?_) (λd=>?_)|refine C7 c ?_|refine C7 (aN _ _ _) ?_)
  all_goals exact W0 (λz=>[B z]) ((by unfold bo;rw[b,Bool.true_and];exact decide_eq_decide.2 ω))
theorem sZ(l:a7)(a:Int)(h:bo l a=true):ao Tryz.prog 330 false [.val (some 3) (a7.enc .imm l),.val none [I a]] .one [I (a - 16*l.Page)]:=by
 have b:=pM l a;rw[h]at b;unfold bo at h;simp only[I0,C0]at h;have c:=bS h.1;refine fO 14 [] Tryz.func330 rfl ?_
 repeat'(first|refine gO ?_|(conv=>whnf);first|refine C7 b ?_)
 exact W0 (λz=>[I z]) ω
theorem sw(l:a7)(a:Int)(h:bo l a=true):ao Tryz.prog 184 false [.val (some 3) (a7.enc .imm l),.val none [I a]] .one [I (a - 16*l.Page)]:=by
 have b:=pP l a;rw[h]at b;unfold bo at h;simp only[I0,C0]at h;have c:=bS h.1;refine fO 14 [] Tryz.func184 rfl ?_
 repeat'(first|refine gO ?_|(conv=>whnf);first|refine C7 b ?_)
 exact W0 (λz=>[I z]) ω
theorem pG{m:aI}{i:Nat}(a:i<m.Buffers.length)(h:gC m i=false):bI m=false:=by
 unfold bI;rw[cr a h];simp
theorem wo{m:aI}(h:¬(1<=m.Buffers.length/\m.Buffers.length<=4/\m.Inbox.length=m.Buffers.length)):bI m=false:=by
 unfold bI;rw[T0 h];rfl
theorem vC{m:aI}(h1:1<=m.Buffers.length/\m.Buffers.length<=4/\m.Inbox.length=m.Buffers.length)(a:cS m.Buffers.length (gC m)=true):bI m=decide (br m m.Buffers.length<=30):=by
 unfold bI;rw[O0 h1,a];rfl
theorem lb(m:aI)(h:aI.sml m):ao Tryz.prog 206 false [.val (some 2) (aI.enc .imm m)] .one [B (bI m)]:=by
 have u:m.Buffers.length<=1048576:=h.1.1;have w:m.Inbox.length<=1048576:=h.2.1;by_cases n:1<=m.Buffers.length/\m.Buffers.length<=4/\m.Inbox.length=m.Buffers.length
 ·refine fO 92 [(19,15,[75,76,77,78,79,80,81,82,83,84,85,86,87,88,89])] Tryz.func206 rfl ?_
  repeat'(first|refine gA ?_|(conv=>whnf);first|with_reducible (first|refine Bf.D (λa=>?_) (λa=>?_)|refine Bf.N (λa=>?_) (λa=>?_))|refine C7 (aG _ 1 4) ?_)
  (conv=>whnf)
  refine CE (ι:=Nat) (λi=>[(1,.hold .box (aI.enc .imm m)),(3,.hold .one [I (m.Buffers.length)]),(4,.hold .one [I (br m i)]),(5,.hold .one [I ((i:Nat):Int)])]) (λi=>i<=m.Buffers.length/\cS i (gC m)=true/\0<=br m i/\br m i<=2097152*i) (λi=>m.Buffers.length - i) (0) ?_ (⟨U0 _,rfl,by simp[br],by simp[br]⟩) λi o=>?_
  ·exact wB
  obtain⟨o,p,G,H⟩:=o;by_cases j:i<m.Buffers.length
  ·have l:=ah j
   have q:=ah (xs:=m.Inbox) (i:=i) ω;have y:(nth m.Buffers i).length<=1048576:=(h.1.2 _ (am j)).1;have C:(nth m.Inbox i).length<=1048576:=h.2.2 _ (am ω)
   repeat'(first|refine gD ?_|fail)
   (conv=>whnf)
   refine CE (ι:=Nat) (λk=>[(1,.hold .box (aI.enc .imm m)),(3,.hold .one [I (m.Buffers.length)]),(4,.hold .one [I (br m i)]),(5,.hold .one [I ((i:Nat):Int)]),(6,.hold .one [I ((k:Nat):Int)])]) (λk=>k<=(nth m.Buffers i).length/\((nth m.Buffers i).take k).all (mL m.Buffers.length)=true) (λk=>(nth m.Buffers i).length - k) (0) ?_ (⟨U0 _,rfl⟩) λk r=>?_
   ·exact wB
   obtain⟨r,t⟩:=r;by_cases E:k<(nth m.Buffers i).length
   ·have c:=ah E
    repeat'(first|refine gD ?_|(conv=>whnf);first|with_reducible (first|refine CB (aa l) ?_|refine CB (aa c) ?_|refine Bf.D (λa=>?_) (λa=>?_))|refine C7 (aG _ 0 _) ?_)
    all_goals first
     | exact W0 (λz=>[B z]) ((pG j (by unfold gC;rw[eD c (by unfold mL;exact T0 ω)];rfl)).symm)
     | ((conv=>whnf);refine CD (k+1) ⟨ω,cL c t (by unfold mL;exact O0 ω)⟩ ω ?_;(exact wB))
   ·have F:=gu ω t
    repeat'(first|refine gD ?_|(conv=>whnf);first|with_reducible refine CB (aa l) ?_)
    (conv=>whnf)
    refine CE (ι:=Nat) (λb=>[(1,.hold .box (aI.enc .imm m)),(3,.hold .one [I (m.Buffers.length)]),(4,.hold .one [I (br m i)]),(5,.hold .one [I ((i:Nat):Int)]),(8,.hold .one [I ((b:Nat):Int)])]) (λb=>b<=(nth m.Inbox i).length/\((nth m.Inbox i).take b).all Pe=true) (λb=>(nth m.Inbox i).length - b) (0) ?_ (⟨U0 _,rfl⟩) λb e=>?_
    ·exact wB
    obtain⟨e,ak2⟩:=e;by_cases lk2:b<(nth m.Inbox i).length
    ·have c:=ah lk2
     repeat'(first|refine gD ?_|(conv=>whnf);first|with_reducible (first|refine CB (aa q) ?_|refine CB (aa c) ?_|refine Bf.D (λa=>?_) (λa=>?_)))
     all_goals first
      | exact W0 (λz=>[B z]) ((pG j (by unfold gC;rw[eD c (by unfold Pe;exact T0 ω)];simp)).symm)
      | ((conv=>whnf);refine CD (b+1) ⟨ω,cL c ak2 (by unfold Pe;exact O0 ω)⟩ ω ?_;(exact wB))
    ·have ae2:=gu ω ak2
     have g:br m (i+1)=br m i+((nth m.Buffers i).length+(nth m.Inbox i).length):=rfl;have d:br m (i+1)=br m i+(nth m.Buffers i).length+(nth m.Inbox i).length:=by rw[g];omega
     repeat'(first|refine gD ?_|(conv=>whnf);first|with_reducible (first|refine CB (aa l) ?_|refine CB (aa q) ?_))
     ((conv=>whnf);refine CD (i+1) ⟨ω,bL p (by unfold gC;rw[F,ae2];rfl),ω,ω⟩ ω ?_)
     rw[d];exact wB
  ·obtain rfl:i=m.Buffers.length:=ω
   repeat'(first|refine gD ?_|fail)
   exact W0 (λz=>[B z]) ((vC n p).symm)
 ·refine fO 92 [(19,15,[75,76,77,78,79,80,81,82,83,84,85,86,87,88,89])] Tryz.func206 rfl ?_
  repeat'(first|refine gO ?_|(conv=>whnf);first|with_reducible (first|refine Bf.D (λa=>?_) (λa=>?_)|refine Bf.N (λa=>?_) (λa=>?_))|refine C7 (aG _ 1 4) ?_)
  all_goals first
   | exact W0 (λz=>[B z]) ((wo n).symm)
   |(exfalso;omega)
theorem tY(m:aI)(g:aI.sml m):ao Tryz.prog 70 false [.val (some 2) (aI.enc .imm m)] .one [B (bI m)]:=by
 have t:m.Buffers.length<=1048576:=g.1.1;have u:m.Inbox.length<=1048576:=g.2.1;by_cases n:1<=m.Buffers.length/\m.Buffers.length<=4/\m.Inbox.length=m.Buffers.length
 ·refine fO 82 [(20,15,[64,65,66,67,68,69,70,71,72,73,74,75,76,77,78])] Tryz.func70 rfl ?_
  repeat'(first|refine gA ?_|(conv=>whnf);first|with_reducible (first|refine Bf.D (λa=>?_) (λa=>?_)|refine Bf.N (λa=>?_) (λa=>?_))|refine C7 (aN _ 1 4) ?_)
  (conv=>whnf)
  refine CE (ι:=Nat) (λi=>[(1,.hold .box (aI.enc .imm m)),(3,.hold .one [I (m.Buffers.length)]),(4,.hold .one [I (br m i)]),(25,.hold .one [I (m.Buffers.length)]),(26,.hold .one [I ((i:Nat):Int)])]) (λi=>i<=m.Buffers.length/\cS i (gC m)=true/\0<=br m i/\br m i<=2097152*i) (λi=>m.Buffers.length - i) (0) ?_ (⟨U0 _,rfl,by simp[br],by simp[br]⟩) λi o=>?_
  ·exact wB
  obtain⟨o,p,F,G⟩:=o;by_cases h:i<m.Buffers.length
  ·have j:=ah h
   have l:=ah (xs:=m.Inbox) (i:=i) ω;have w:(nth m.Buffers i).length<=1048576:=(g.1.2 _ (am h)).1;have y:(nth m.Inbox i).length<=1048576:=g.2.2 _ (am ω)
   repeat'(first|refine gD ?_|(conv=>whnf);first|with_reducible refine CB (aa j) ?_)
   (conv=>whnf)
   refine CE (ι:=Nat) (λk=>[(1,.hold .box (aI.enc .imm m)),(3,.hold .one [I (m.Buffers.length)]),(4,.hold .one [I (br m i)]),(5,.hold .one [I ((i:Nat):Int)]),(25,.hold .one [I (m.Buffers.length)]),(26,.hold .one [I ((i:Nat):Int)]),(33,.hold .one (cz .imm (nth m.Buffers i))),(34,.hold .one [I ((nth m.Buffers i).length)]),(35,.hold .one [I ((k:Nat):Int)])]) (λk=>k<=(nth m.Buffers i).length/\((nth m.Buffers i).take k).all (mL m.Buffers.length)=true) (λk=>(nth m.Buffers i).length - k) (0) ?_ (⟨U0 _,rfl⟩) λk q=>?_
   ·exact wB
   obtain⟨q,r⟩:=q;by_cases C:k<(nth m.Buffers i).length
   ·have c:=ah C
    repeat'(first|refine gD ?_|(conv=>whnf);first|with_reducible (first|refine CB (aa j) ?_|refine CB (aa c) ?_|refine Bf.D (λa=>?_) (λa=>?_))|refine C7 (aN _ 0 _) ?_)
    all_goals first
     | exact W0 (λz=>[B z]) ((pG h (by unfold gC;rw[eD c (by unfold mL;exact T0 ω)];rfl)).symm)
     | ((conv=>whnf);refine CD (k+1) ⟨ω,cL c r (by unfold mL;exact O0 ω)⟩ ω ?_;(exact wB))
   ·have E:=gu ω r
    repeat'(first|refine gD ?_|(conv=>whnf);first|with_reducible (first|refine CB (aa j) ?_|refine CB (aa l) ?_))
    (conv=>whnf)
    refine CE (ι:=Nat) (λb=>[(1,.hold .box (aI.enc .imm m)),(3,.hold .one [I (m.Buffers.length)]),(4,.hold .one [I (br m i)]),(5,.hold .one [I ((i:Nat):Int)]),(25,.hold .one [I (m.Buffers.length)]),(26,.hold .one [I ((i:Nat):Int)]),(55,.hold .one (aF .imm (nth m.Inbox i))),(56,.hold .one [I ((nth m.Inbox i).length)]),(57,.hold .one [I ((b:Nat):Int)])]) (λb=>b<=(nth m.Inbox i).length/\((nth m.Inbox i).take b).all Pe=true) (λb=>(nth m.Inbox i).length - b) (0) ?_ (⟨U0 _,rfl⟩) λb d=>?_
    ·exact wB
    obtain⟨d,ak2⟩:=d;by_cases lk2:b<(nth m.Inbox i).length
    ·have c:=ah lk2
     repeat'(first|refine gD ?_|(conv=>whnf);first|with_reducible (first|refine CB (aa l) ?_|refine CB (aa c) ?_|refine Bf.D (λa=>?_) (λa=>?_)))
     all_goals first
      | exact W0 (λz=>[B z]) ((pG h (by unfold gC;rw[eD c (by unfold Pe;exact T0 ω)];simp)).symm)
      | ((conv=>whnf);refine CD (b+1) ⟨ω,cL c ak2 (by unfold Pe;exact O0 ω)⟩ ω ?_;(exact wB))
    ·have ae2:=gu ω ak2
     have e:br m (i+1)=br m i+((nth m.Buffers i).length+(nth m.Inbox i).length):=rfl
     repeat'(first|refine gD ?_|(conv=>whnf);first|with_reducible (first|refine CB (aa j) ?_|refine CB (aa l) ?_))
     ((conv=>whnf);refine CD (i+1) ⟨ω,bL p (by unfold gC;rw[E,ae2];rfl),ω,ω⟩ ω ?_)
     rw[e];exact wB
  ·obtain rfl:i=m.Buffers.length:=ω
   repeat'(first|refine gD ?_|fail)
   exact W0 (λz=>[B z]) ((vC n p).symm)
 ·refine fO 82 [(20,15,[64,65,66,67,68,69,70,71,72,73,74,75,76,77,78])] Tryz.func70 rfl ?_
  repeat'(first|refine gO ?_|(conv=>whnf);first|with_reducible (first|refine Bf.D (λa=>?_) (λa=>?_)|refine Bf.N (λa=>?_) (λa=>?_))|refine C7 (aN _ 1 4) ?_)
  all_goals first
   | exact W0 (λz=>[B z]) ((wo n).symm)
   |(exfalso;omega)
theorem zj{s:ar}{a:Int}(h:cm s a=false):S2 (iD s a)=[I (-1),I (-1)]:=by
 unfold iD;rw[h];rfl
theorem xt{s:ar}{a:Int}(h:cm s a=true):S2 (iD s a)=[I ((a - 16*s.Page) / csz s.Class),I ((a - 16*s.Page) % csz s.Class)]:=by
 unfold iD;rw[h];rfl
theorem so{s:ar}{a:Int}(h:cm s a=true):aY s=true/\0<=(a - 16*s.Page) / csz s.Class/\(a - 16*s.Page) / csz s.Class<=15:=by
 unfold cm at h;simp only[I0,C0]at h;have b:=aC h.1;refine⟨h.1,?_⟩;rcases bO ⟨b.2.2.1,b.2.2.2⟩ with e|e|e|e<;>rw[e]<;>omega
theorem mH{sp:List ar}{la:List a7}{a:Int}{i:Nat}(b:i<sp.length)(h:cm (nth sp i) a=true)(c:∀(j:Nat)(z:ar),j<i->sp[j]? = some z->cm z a=false):denotes sp la a=mV i (nth sp i) a:=by
 unfold denotes;rw[vb (pr:=(cm · a)) (ah b) h c]
theorem l9{sp:List ar}{la:List a7}{a:Int}{i n:Nat}(b:sp.length<=n)(c:∀(j:Nat)(z:ar),j<n->sp[j]? = some z->cm z a=false)(d:i<la.length)(h:bo (nth la i) a=true)(e:∀(j:Nat)(z:a7),j<i->la[j]? = some z->bo z a=false) :
  denotes sp la a = ⟨3,i,0,a - 16*(nth la i).Page⟩:=by
 unfold denotes;rw[wa (pr:=(cm · a)) b c,vb (pr:=(bo · a)) (ah d) h e]
theorem xK{sp:List ar}{la:List a7}{a:Int}{n k:Nat}(b:sp.length<=n)(c:∀(j:Nat)(z:ar),j<n->sp[j]? = some z->cm z a=false)(d:la.length<=k)(e:∀(j:Nat)(z:a7),j<k->la[j]? = some z->bo z a=false):denotes sp la a = ⟨0,0,0,0⟩:=by
 unfold denotes;rw[wa (pr:=(cm · a)) b c,wa (pr:=(bo · a)) d e]
theorem mw(sp:List ar)(la:List a7)(a:Int)(e:du sp)(g:dr la)(h:bh sp la=true)(C:mr a):ao Tryz.prog 275 false [.val none (ci .imm sp),.val none (bU .imm la),.val none [I a]] .agg (iW.enc .own (denotes sp la a)):=by
 have E:=e.1;have F:=g.1;have q:=lM sp la e g;rw[h]at q;refine fO 67 [] Tryz.func275 rfl ?_ (.inr (iW.enc_fr _))
 repeat'(first|refine gO ?_|(conv=>whnf);first|refine C7 q ?_)
 (conv=>whnf)
 refine CE (ι:=Nat) (λi=>[(0,.hold .one (ci .imm sp)),(1,.hold .one (bU .imm la)),(2,.hold .one [I (a)]),(6,.hold .box ([I 0,I 0,I 0,I 0])),(7,.hold .one [I ((i:Nat):Int)])]) (λi=>i<=sp.length/\∀(j:Nat)(z:ar),j<i->sp[j]? = some z->cm z a=false) (λi=>sp.length - i) (0) ?_ (⟨U0 _,λj z G=>ω⟩) λi r=>?_
 ·exact wB
 obtain⟨r,l⟩:=r;by_cases t:i<sp.length
 ·have d:=ah t
  have c:=ui (nth sp i) a C;cases b:cm (nth sp i) a with
  | false=>
   rw[zj b]at c
   repeat'(first|refine gD ?_|(conv=>whnf);first|with_reducible (first|refine CB (aa d) ?_|refine Bf.D (λo=>?_) (λo=>?_))|refine C7 c ?_)
   ((conv=>whnf);refine CD (i+1) ⟨ω,dC (pr:=(cm · a)) d b l⟩ ω ?_;(exact wB))
  | true=>
   rw[xt b]at c;obtain⟨H,J,K⟩:=so b;have u:=gv (nth sp i).Bits ((a - 16*(nth sp i).Page) / csz (nth sp i).Class) (eg H).2;cases w:aU (nth sp i).Bits ((a - 16*(nth sp i).Page) / csz (nth sp i).Class)<;>rw[w]at u
   all_goals
    repeat'(first|refine gD ?_|(conv=>whnf);first|with_reducible (first|refine CB (aa d) ?_|refine Bf.D (λo=>?_) (λo=>?_))|refine C7 c ?_|refine C7 u ?_)
    all_goals(rw[mH t b l];unfold mV;rw[w];rfl)
 ·repeat'(first|refine gD ?_|fail)
  (conv=>whnf)
  refine CE (ι:=Nat) (λk=>[(1,.hold .one (bU .imm la)),(2,.hold .one [I (a)]),(6,.hold .box ([I 0,I 0,I 0,I 0])),(11,.hold .one [I ((k:Nat):Int)])]) (λk=>k<=la.length/\∀(j:Nat)(z:a7),j<k->la[j]? = some z->bo z a=false) (λk=>la.length - k) (0) ?_ (⟨U0 _,λj z G=>ω⟩) λk y=>?_
  ·exact wB
  obtain⟨y,p⟩:=y;by_cases B:k<la.length
  ·have d:=ah B
   have c:=pM (nth la k) a;cases b:bo (nth la k) a<;>rw[b]at c
   ·repeat'(first|refine gD ?_|(conv=>whnf);first|with_reducible refine CB (aa d) ?_|refine C7 c ?_)
    ((conv=>whnf);refine CD (k+1) ⟨ω,dC (pr:=(bo · a)) d b p⟩ ω ?_;(exact wB))
   ·repeat'(first|refine gD ?_|(conv=>whnf);first|with_reducible refine CB (aa d) ?_|refine C7 c ?_|refine C7 (sZ (nth la k) a b) ?_)
    rw[l9 (n:=i) ω l B b p];rfl
  ·repeat'(first|refine gD ?_|fail)
   rw[xK (n:=i) (k:=k) ω l ω p];rfl
theorem jN(sp:List ar)(la:List a7)(a:Int)(g:du sp)(h:dr la):ao Tryz.prog 91 false [.val none (ci .imm sp),.val none (bU .imm la),.val none [I a]] .agg (iW.enc .own (denotes sp la a)):=by
 have y:=g.1;have B:=h.1;refine fO 56 [] Tryz.func91 rfl ?_ (.inr (iW.enc_fr _))
 repeat'(first|refine gO ?_|fail)
 (conv=>whnf)
 refine CE (ι:=Nat) (λi=>[(1,.hold .one (bU .imm la)),(2,.hold .one [I (a)]),(6,.hold .box ([I 0,I 0,I 0,I 0])),(14,.hold .one (ci .imm sp)),(15,.hold .one [I (sp.length)]),(16,.hold .one [I ((i:Nat):Int)])]) (λi=>i<=sp.length/\∀(j:Nat)(z:ar),j<i->sp[j]? = some z->cm z a=false) (λi=>sp.length - i) (0) ?_ (⟨U0 _,λj z C=>ω⟩) λi p=>?_
 ·exact wB
 obtain⟨p,e⟩:=p;by_cases q:i<sp.length
 ·have d:=ah q
  have c:=E7 (nth sp i) a;cases b:cm (nth sp i) a with
  | false=>
   rw[zj b]at c
   repeat'(first|refine gD ?_|(conv=>whnf);first|with_reducible (first|refine CB (aa d) ?_|refine Bf.D (λl=>?_) (λl=>?_))|refine C7 c ?_)
   ((conv=>whnf);refine CD (i+1) ⟨ω,dC (pr:=(cm · a)) d b e⟩ ω ?_;(exact wB))
  | true=>
   rw[xt b]at c;obtain⟨E,F,G⟩:=so b;have r:=jK (nth sp i).Bits ((a - 16*(nth sp i).Page) / csz (nth sp i).Class) (eg E).2;cases t:aU (nth sp i).Bits ((a - 16*(nth sp i).Page) / csz (nth sp i).Class)<;>rw[t]at r
   all_goals
    repeat'(first|refine gD ?_|(conv=>whnf);first|with_reducible (first|refine CB (aa d) ?_|refine Bf.D (λl=>?_) (λl=>?_))|refine C7 c ?_|refine C7 r ?_)
    all_goals(rw[mH q b e];unfold mV;rw[t];rfl)
 ·repeat'(first|refine gD ?_|fail)
  (conv=>whnf)
  refine CE (ι:=Nat) (λk=>[(2,.hold .one [I (a)]),(6,.hold .box ([I 0,I 0,I 0,I 0])),(39,.hold .one (bU .imm la)),(40,.hold .one [I (la.length)]),(41,.hold .one [I ((k:Nat):Int)])]) (λk=>k<=la.length/\∀(j:Nat)(z:a7),j<k->la[j]? = some z->bo z a=false) (λk=>la.length - k) (0) ?_ (⟨U0 _,λj z C=>ω⟩) λk u=>?_
  ·exact wB
  obtain⟨u,o⟩:=u;by_cases w:k<la.length
  ·have d:=ah w
   have c:=pP (nth la k) a;cases b:bo (nth la k) a<;>rw[b]at c
   ·repeat'(first|refine gD ?_|(conv=>whnf);first|with_reducible refine CB (aa d) ?_|refine C7 c ?_)
    ((conv=>whnf);refine CD (k+1) ⟨ω,dC (pr:=(bo · a)) d b o⟩ ω ?_;(exact wB))
   ·repeat'(first|refine gD ?_|(conv=>whnf);first|with_reducible refine CB (aa d) ?_|refine C7 c ?_|refine C7 (sw (nth la k) a b) ?_)
    rw[l9 (n:=i) ω e w b o];rfl
  ·repeat'(first|refine gD ?_|fail)
   rw[xK (n:=i) (k:=k) ω e ω o];rfl
section
variable{α:Type}
def Fb(ag:Option Nat)(e:α->List C)(pr:α->Bool)(xs:List α):List (Option Nat × List C)->Kd->List C->Prop:=λL k rcs=>∃x,x∈xs/\L=[(ag,e x)]/\k=.one/\rcs=[B (pr x)]
end
theorem uF(xs:List ax)(pr:ax->Bool)(n:xs.length<=9223372036854775807):ao Tryz.prog 311 false [.val none (b8 .imm xs),.fn (qC Tryz.prog (Fb (some 2) (ax.enc .imm) pr xs))] .one [I (dP pr xs)]:=by
 refine fO 19 [] Tryz.func311 rfl ?_
 repeat'(first|refine gO ?_|fail)
 (conv=>whnf)
 refine CE (ι:=Nat) (λi=>[(0,.hold .one (b8 .imm xs)),(1,.fv (qC Tryz.prog (Fb (some 2) (ax.enc .imm) pr xs))),(7,.hold .one [I xs.length]),(8,.hold .one [I (i:Nat)])]) (λi=>i<=xs.length/\∀(j:Nat)(z:ax),j<i->xs[j]? = some z->pr z=false) (λi=>xs.length - i) 0 ?_ ⟨U0 _,λj z h=>ω⟩ λi e=>?_
 ·exact wB
 ·obtain⟨e,b⟩:=e
  by_cases c:i<xs.length
  ·obtain⟨y,a⟩ : ∃y,xs[i]? = some y:=⟨_,I2 c⟩
   repeat'(first|refine gD ?_|(conv=>whnf);first|with_reducible refine CB (aa a) ?_|refine Fv.mk (k:=.one) (rcs:=[B (pr y)]) ⟨y,Z1 a,rfl,rfl,rfl⟩ ?_|refine Bf.P (λl=>?_) (λl=>?_))
   ·exact W0 (λz=>[I z]) (eI a ‹_› b).symm
   ·(conv=>whnf)
    refine CD (i+1) ⟨ω,λj z h d=>?_⟩ ω ?_
    ·rcases Nat.lt_or_ge j i with g|g
     ·exact b j z g d
     ·obtain rfl:j=i:=ω
      rw[a]at d;cases d;assumption
    ·exact wB
  ·repeat'(first|refine gD ?_|fail)
   exact W0 (λz=>[I z]) (gk ω b).symm
theorem q9(xs:List ax)(pr:ax->Bool)(a:xs.length<=9223372036854775807):ao Tryz.prog 245 false [.val none (b8 .imm xs),.fn (qC Tryz.prog (Fb (some 2) (ax.enc .imm) pr xs))] .one [B (xs.any pr)]:=by
 refine fO 9 [] Tryz.func245 rfl ?_
 repeat'(first|refine gO ?_|(conv=>whnf);first|refine C7 (uF xs pr a) ?_)
 exact W0 (λz=>[B z]) (lX pr xs)
theorem tN(r:ax)(page:Int):ao Tryz.prog 246 false [.val (some 2) (ax.enc .imm r),.ptr [I page]] .one [B (qN page r)]:=by
 refine fO 17 [] Tryz.func246 rfl ?_
 repeat'(first|refine gO ?_|(conv=>whnf);first|with_reducible refine Bf.D (λa=>?_) (λa=>?_)|refine CK rfl ?_)
 all_goals exact W0 (λz=>[B z]) (by unfold qN;first|(rw[O0 (by assumption:r.At<=page)];simp;done)|(rw[T0 (by assumption:¬r.At<=page)];rfl))
theorem yK(xs:List ax)(page:Int)(a:xs.length<=9223372036854775807):ao Tryz.prog 164 false [.val none (b8 .imm xs),.val none [I page]] .one [B (xs.any (qN page))]:=by
 refine fO 8 [] Tryz.func164 rfl ?_
 repeat'(first|refine gO ?_|(conv=>whnf);first|refine Cq.mk (Fb (some 2) (ax.enc .imm) (qN page) xs) (tN default page).has (λL k rcs b=>?_) ?_|refine C7 (q9 xs (qN page) a) ?_)
 ·obtain⟨x,-,rfl,rfl,rfl⟩:=b
  exact tN x page
 ·rfl
theorem uM(xs:List aK)(pr:aK->Bool)(g:xs.length<=9223372036854775807):ao Tryz.prog 323 false [.val none (cq .imm xs),.fn (qC Tryz.prog (Fb (some 3) (aK.enc .imm) pr xs))] .one [I (dP pr xs)]:=by
 refine fO 19 [] Tryz.func323 rfl ?_
 repeat'(first|refine gO ?_|fail)
 (conv=>whnf)
 refine CE (ι:=Nat) (λi=>[(0,.hold .one (cq .imm xs)),(1,.fv (qC Tryz.prog (Fb (some 3) (aK.enc .imm) pr xs))),(7,.hold .one [I xs.length]),(8,.hold .one [I (i:Nat)])]) (λi=>i<=xs.length/\∀(j:Nat)(z:aK),j<i->xs[j]? = some z->pr z=false) (λi=>xs.length - i) 0 ?_ ⟨U0 _,λj z h=>ω⟩ λi d=>?_
 ·exact wB
 ·obtain⟨d,b⟩:=d
  by_cases c:i<xs.length
  ·obtain⟨y,a⟩ : ∃y,xs[i]? = some y:=⟨_,I2 c⟩
   repeat'(first|refine gD ?_|(conv=>whnf);first|with_reducible refine CB (aa a) ?_|refine Fv.mk (k:=.one) (rcs:=[B (pr y)]) ⟨y,Z1 a,rfl,rfl,rfl⟩ ?_|refine Bf.P (λe=>?_) (λe=>?_))
   ·exact W0 (λz=>[I z]) (eI a ‹_› b).symm
   ·(conv=>whnf)
    refine CD (i+1) ⟨ω,dC a (by assumption) b⟩ ω ?_;exact wB
  ·repeat'(first|refine gD ?_|fail)
   exact W0 (λz=>[I z]) (gk ω b).symm
theorem qk(xs:List aK)(pr:aK->Bool)(a:xs.length<=9223372036854775807):ao Tryz.prog 252 false [.val none (cq .imm xs),.fn (qC Tryz.prog (Fb (some 3) (aK.enc .imm) pr xs))] .one [B (xs.any pr)]:=by
 refine fO 9 [] Tryz.func252 rfl ?_
 repeat'(first|refine gO ?_|(conv=>whnf);first|refine C7 (uM xs pr a) ?_)
 exact W0 (λz=>[B z]) (lX pr xs)
theorem x6(xs:List ar)(pr:ar->Bool)(g:xs.length<=9223372036854775807):ao Tryz.prog 99 false [.val none (ci .imm xs),.fn (qC Tryz.prog (Fb (some 3) (ar.enc .imm) pr xs))] .one [I (dP pr xs)]:=by
 refine fO 19 [] Tryz.func99 rfl ?_
 repeat'(first|refine gO ?_|fail)
 (conv=>whnf)
 refine CE (ι:=Nat) (λi=>[(0,.hold .one (ci .imm xs)),(1,.fv (qC Tryz.prog (Fb (some 3) (ar.enc .imm) pr xs))),(7,.hold .one [I xs.length]),(8,.hold .one [I (i:Nat)])]) (λi=>i<=xs.length/\∀(j:Nat)(z:ar),j<i->xs[j]? = some z->pr z=false) (λi=>xs.length - i) 0 ?_ ⟨U0 _,λj z h=>ω⟩ λi d=>?_
 ·exact wB
 ·obtain⟨d,b⟩:=d
  by_cases c:i<xs.length
  ·obtain⟨y,a⟩ : ∃y,xs[i]? = some y:=⟨_,I2 c⟩
   repeat'(first|refine gD ?_|(conv=>whnf);first|with_reducible refine CB (aa a) ?_|refine Fv.mk (k:=.one) (rcs:=[B (pr y)]) ⟨y,Z1 a,rfl,rfl,rfl⟩ ?_|refine Bf.P (λe=>?_) (λe=>?_))
   ·exact W0 (λz=>[I z]) (eI a ‹_› b).symm
   ·(conv=>whnf)
    refine CD (i+1) ⟨ω,dC a (by assumption) b⟩ ω ?_;exact wB
  ·repeat'(first|refine gD ?_|fail)
   exact W0 (λz=>[I z]) (gk ω b).symm
theorem yx(xs:List bK)(pr:bK->Bool)(g:xs.length<=9223372036854775807):ao Tryz.prog 101 false [.val none (mu .imm xs),.fn (qC Tryz.prog (Fb (some 4) (bK.enc .imm) pr xs))] .one [I (dP pr xs)]:=by
 refine fO 19 [] Tryz.func101 rfl ?_
 repeat'(first|refine gO ?_|fail)
 (conv=>whnf)
 refine CE (ι:=Nat) (λi=>[(0,.hold .one (mu .imm xs)),(1,.fv (qC Tryz.prog (Fb (some 4) (bK.enc .imm) pr xs))),(7,.hold .one [I xs.length]),(8,.hold .one [I (i:Nat)])]) (λi=>i<=xs.length/\∀(j:Nat)(z:bK),j<i->xs[j]? = some z->pr z=false) (λi=>xs.length - i) 0 ?_ ⟨U0 _,λj z h=>ω⟩ λi d=>?_
 ·exact wB
 ·obtain⟨d,b⟩:=d
  by_cases c:i<xs.length
  ·obtain⟨y,a⟩ : ∃y,xs[i]? = some y:=⟨_,I2 c⟩
   repeat'(first|refine gD ?_|(conv=>whnf);first|with_reducible refine CB (aa a) ?_|refine Fv.mk (k:=.one) (rcs:=[B (pr y)]) ⟨y,Z1 a,rfl,rfl,rfl⟩ ?_|refine Bf.P (λe=>?_) (λe=>?_))
   ·exact W0 (λz=>[I z]) (eI a ‹_› b).symm
   ·(conv=>whnf)
    refine CD (i+1) ⟨ω,dC a (by assumption) b⟩ ω ?_;exact wB
  ·repeat'(first|refine gD ?_|fail)
   exact W0 (λz=>[I z]) (gk ω b).symm
theorem te(xs:List bK)(pr:bK->Bool)(a:xs.length<=9223372036854775807):ao Tryz.prog 168 false [.val none (mu .imm xs),.fn (qC Tryz.prog (Fb (some 4) (bK.enc .imm) pr xs))] .one [B (xs.any pr)]:=by
 refine fO 9 [] Tryz.func168 rfl ?_
 repeat'(first|refine gO ?_|(conv=>whnf);first|refine C7 (yx xs pr a) ?_)
 exact W0 (λz=>[B z]) (lX pr xs)
theorem Nm{k:Nat}(a:k<=3):IntKind.i64.wrap (1*2 ^ min ((k:Nat):Int).toNat IntKind.i64.bits)=csz (k:Nat):=by
 obtain rfl|rfl|rfl|rfl:k=0\/k=1\/k=2\/k=3:=ω
 all_goals decide
theorem N1{k:Nat}(a:k<=100):IntKind.u64.wrap (k:Nat)=(k:Nat):=by
 unfold IntKind.wrap;simp[IntKind.signed,IntKind.bits];omega
theorem B3{k:Nat}{z:Int}(a:k<=3)(h:csz (k:Nat)<z)(b:z<=8):k<=2:=by
 have c:csz ((3:Nat):Int)=8:=by decide
 obtain rfl|rfl|rfl|rfl:k=0\/k=1\/k=2\/k=3:=ω
 all_goals omega
theorem xi{k:Nat}{z:Int}(g:k<=3)(h1:1<=z)(a:k=0\/csz ((k - 1:Nat):Int)<z)(b:¬csz (k:Nat)<z):aL z=(k:Nat):=by
 have c:csz ((0:Nat):Int)=1:=by decide
 have d:csz ((1:Nat):Int)=2:=by decide
 have e:csz ((2:Nat):Int)=4:=by decide
 have f:csz ((3:Nat):Int)=8:=by decide
 unfold aL;obtain rfl|rfl|rfl|rfl:k=0\/k=1\/k=2\/k=3:=ω
 all_goals simp only[Nat.reduceSub,c,d,e,f]at a b
 all_goals(repeat' split)<;>omega
theorem jX(z:Int):ao Tryz.prog 233 false [.val none [I z]] .one [I (aL z)]:=by
 refine fO 15 [] Tryz.func233 rfl ?_;by_cases c:1<=z/\z<=8
 ·repeat'(first|refine gD ?_|(conv=>whnf);first|with_reducible refine Bf.D (λb=>?_) (λb=>?_)|refine C7 (aG z 1 8) ?_)
  (conv=>whnf)
  refine CE (ι:=Nat) (λk=>[(0,.hold .one [I (z)]),(3,.hold .one [I ((k:Nat):Int)])]) (λk=>k<=3/\(k=0\/csz ((k - 1:Nat):Int)<z)) (λk=>4 - k) (0) ?_ (⟨ω,.inl rfl⟩) λk a=>?_
  ·exact wB
  obtain⟨a,d⟩:=a
  repeat'(first|refine gO ?_|(conv=>whnf);first|with_reducible refine Bf.D (λb=>?_) (λb=>?_)|refine CK (N1 ω) ?_|refine CK (Nm a) ?_|refine CM ω ?_)
  all_goals first
   | exact W0 (λz=>[I z]) (xi a c.1 d (by assumption)).symm
   | ((conv=>whnf);refine CD (k+1) ⟨by have:=B3 a (by assumption) c.2;omega,.inr (by simpa using (by assumption:csz (k:Nat)<z))⟩ (by have:=B3 a (by assumption) c.2;omega) ?_;(exact wB))
 ·repeat'(first|refine gD ?_|(conv=>whnf);first|with_reducible refine Bf.D (λb=>?_) (λb=>?_)|refine C7 (aG z 1 8) ?_)
  all_goals exact W0 (λz=>[I z]) (by unfold aL;(repeat' split)<;>omega)
theorem mS(z:Int):ao Tryz.prog 88 false [.val none [I z]] .one [I (aL z)]:=by
 refine fO 14 [] Tryz.func88 rfl ?_;by_cases c:1<=z/\z<=8
 ·repeat'(first|refine gD ?_|(conv=>whnf);first|with_reducible refine Bf.D (λa=>?_) (λa=>?_)|refine C7 (aN z 1 8) ?_)
  (conv=>whnf)
  refine CE (ι:=Nat) (λk=>[(0,.hold .one [I (z)]),(3,.hold .one [I ((k:Nat):Int)])]) (λk=>k<=3/\(k=0\/csz ((k - 1:Nat):Int)<z)) (λk=>4 - k) (0) ?_ (⟨ω,.inl rfl⟩) λk b=>?_
  ·exact wB
  obtain⟨b,d⟩:=b
  repeat'(first|refine gO ?_|(conv=>whnf);first|with_reducible refine Bf.D (λa=>?_) (λa=>?_)|refine C7 (cJ _) ?_)
  all_goals first
   | exact W0 (λz=>[I z]) (xi b c.1 d (by assumption)).symm
   | ((conv=>whnf);refine CD (k+1) ⟨by have:=B3 b (by assumption) c.2;omega,.inr (by simpa using (by assumption:csz (k:Nat)<z))⟩ (by have:=B3 b (by assumption) c.2;omega) ?_;(exact wB))
 ·repeat'(first|refine gD ?_|(conv=>whnf);first|with_reducible refine Bf.D (λa=>?_) (λa=>?_)|refine C7 (aN z 1 8) ?_)
  all_goals exact W0 (λz=>[I z]) (by unfold aL;(repeat' split)<;>omega)
theorem rX(q:bu)(a:Int)(e:bu.sml q):ao Tryz.prog 272 false [.val (some 2) (bu.enc .imm q),.val none [I a]] .one [B (q.Lst.any (ep a))]:=by
 have j:q.Lst.length<=1048576:=e.1;refine fO 21 [] Tryz.func272 rfl ?_
 repeat'(first|refine gO ?_|fail)
 (conv=>whnf)
 refine CE (ι:=Nat) (λi=>[(1,.hold .one [I (a)]),(2,.hold .box (bu.enc .imm q)),(5,.hold .one [I ((i:Nat):Int)])]) (λi=>i<=q.Lst.length/\(q.Lst.take i).any (ep a)=false) (λi=>q.Lst.length - i) (0) ?_ (⟨U0 _,rfl⟩) λi c=>?_
 ·exact wB
 obtain⟨c,d⟩:=c;by_cases g:i<q.Lst.length
 ·have b:=ah g
  repeat'(first|refine gD ?_|(conv=>whnf);first|with_reducible (first|refine CB (aa b) ?_|refine Bf.E (λh=>?_) (λh=>?_)))
  all_goals first
   | exact W0 (λz=>[B z]) ((AW b (O0 (by assumption))).symm)
   | ((conv=>whnf);refine CD (i+1) ⟨ω,v6 b d (T0 (by assumption))⟩ ω ?_;(exact wB))
 ·repeat'(first|refine gD ?_|fail)
  exact W0 (λz=>[B z]) ((GV ω d).symm)
theorem iy(xs:List aK)(i:Nat):quarCells xs (i+1)=quarCells xs i+csz (nth xs i).Class:=rfl
theorem sA(k:Int):0<=csz k/\csz k<=8:=by
 by_cases h:0<=k/\k<=3
 ·rcases bO h with e|e|e|e<;>rw[e]<;>decide
 ·unfold csz;rw[C8 h];decide
theorem ug(xs:List aK)(c:kv xs):ao Tryz.prog 273 false [.val none (cq .imm xs)] .one [I (quarCells xs xs.length)]:=by
 have g:=c.1;refine fO 20 [] Tryz.func273 rfl ?_
 repeat'(first|refine gO ?_|fail)
 (conv=>whnf)
 refine CE (ι:=Nat) (λi=>[(0,.hold .one (cq .imm xs)),(3,.hold .one [I (quarCells xs i)]),(4,.hold .one [I ((i:Nat):Int)])]) (λi=>i<=xs.length/\0<=quarCells xs i/\quarCells xs i<=8*i) (λi=>xs.length - i) (0) ?_ (⟨U0 _,by simp[quarCells],by simp[quarCells]⟩) λi b=>?_
 ·exact wB
 obtain⟨b,h,j⟩:=b;by_cases d:i<xs.length
 ·have e:=ah d
  have k:=sA (nth xs i).Class;have a:=iy xs i
  repeat'(first|refine gD ?_|(conv=>whnf);first|with_reducible refine CB (aa e) ?_|refine C7 (de _) ?_)
  ((conv=>whnf);refine CD (i+1) ⟨ω,ω,ω⟩ ω ?_)
  rw[a];exact wB
 ·repeat'(first|refine gD ?_|fail)
  obtain rfl:i=xs.length:=ω
  rfl
theorem nJ(xs:List aK)(c:kv xs):ao Tryz.prog 87 false [.val none (cq .imm xs)] .one [I (quarCells xs xs.length)]:=by
 have g:=c.1;refine fO 19 [] Tryz.func87 rfl ?_
 repeat'(first|refine gO ?_|fail)
 (conv=>whnf)
 refine CE (ι:=Nat) (λi=>[(3,.hold .one [I (quarCells xs i)]),(6,.hold .one (cq .imm xs)),(7,.hold .one [I (xs.length)]),(8,.hold .one [I ((i:Nat):Int)])]) (λi=>i<=xs.length/\0<=quarCells xs i/\quarCells xs i<=8*i) (λi=>xs.length - i) (0) ?_ (⟨U0 _,by simp[quarCells],by simp[quarCells]⟩) λi b=>?_
 ·exact wB
 obtain⟨b,h,j⟩:=b;by_cases d:i<xs.length
 ·have e:=ah d
  have k:=sA (nth xs i).Class;have a:=iy xs i
  repeat'(first|refine gD ?_|(conv=>whnf);first|with_reducible refine CB (aa e) ?_|refine C7 (cJ _) ?_)
  ((conv=>whnf);refine CD (i+1) ⟨ω,ω,ω⟩ ω ?_)
  rw[a];exact wB
 ·repeat'(first|refine gD ?_|fail)
  obtain rfl:i=xs.length:=ω
  rfl
theorem zb(a:aK):ao Tryz.prog 271 false [.val (some 3) (aK.enc .imm a)] .one [B (decide (0<=a.Class/\a.Class<=3/\0<=a.Addr/\0<=a.Since))]:=by
 refine fO 16 [] Tryz.func271 rfl ?_
 repeat'(first|refine gO ?_|(conv=>whnf);first|with_reducible refine Bf.D (λb=>?_) (λb=>?_)|refine C7 (aG _ 0 3) ?_)
 all_goals exact W0 (λz=>[B z]) ((by first|(symm;exact T0 ω)|exact decide_eq_decide.2 ω))
theorem L8{xs:List aK}(a:kv xs)(i:Nat):kv (xs.take i):=⟨by have:=a.1;rw[U1];omega,λ_ _=>trivial⟩
theorem od(q:bu)(a:bu.sml q):ao Tryz.prog 207 false [.val (some 2) (bu.enc .imm q)] .one [B (eQ q)]:=by
 have l:q.Lst.length<=1048576:=a.1;refine fO 57 [(5,29,[17,18,19,20,21,22,23,24,25,26,27,28,29,30,31,32,33,34,35,36,37,38,39,40,41,42,43,44,45]),(7,11,[46,47,48,49,50,51,52,53,54,55,56])] Tryz.func207 rfl ?_
 repeat'(first|refine gO ?_|fail)
 (conv=>whnf)
 refine CE (ι:=Nat) (λi=>[(1,.hold .box (bu.enc .imm q)),(3,.hold .one [I ((i:Nat):Int)])]) (λi=>i<=q.Lst.length/\cS i (je q.Lst)=true) (λi=>q.Lst.length - i) 0 ?_ ⟨U0 _,rfl⟩ λi e=>?_
 ·exact wB
 obtain⟨e,g⟩:=e;by_cases b:i<q.Lst.length
 ·have j:=ah b
  have h:=rX ⟨0,q.Lst.take i⟩ (nth q.Lst i).Addr (L8 a i);cases c:(q.Lst.take i).any (ep (nth q.Lst i).Addr)<;>rw[show(bu.mk 0 (q.Lst.take i)).Lst.any (ep (nth q.Lst i).Addr)=_ from c]at h
  all_goals
   repeat'(first|refine gD ?_|(conv=>whnf);first|with_reducible (first|refine CB (aa j) ?_|refine Bf.D (λd=>?_) (λd=>?_))|refine C7 (zb _) ?_|refine CL ω (aa (fX ω b)) ?_|refine CT i rfl (by simp;omega) (λr k=>by obtain⟨z,-,rfl⟩:=z4.1 k;rfl) (t4 ..) ?_|refine C7 h ?_)
   all_goals first
    | exact W0 (λz=>[B z]) ((by symm;unfold eQ;rw[cr b (by unfold je;first|(rw[c];simp;done)|(rw[T0 ω];rfl))];rfl))
    | ((conv=>whnf);refine CD (i+1) ⟨ω,bL g (by unfold je;rw[c,O0 ω];rfl)⟩ ω ?_;(exact wB))
 ·obtain rfl:i=q.Lst.length:=ω
  repeat'(first|refine gD ?_|(conv=>whnf);first|with_reducible refine Bf.D (λd=>?_) (λd=>?_)|refine C7 (aG _ 0 500) ?_|refine C7 (ug q.Lst a) ?_)
  all_goals exact W0 (λz=>[B z]) ((by unfold eQ;rw[g];simp only[Bool.true_and];first|(symm;exact T0 ω)|exact decide_eq_decide.2 ω))
theorem tO(b:aK)(a:Int):ao Tryz.prog 253 false [.val (some 3) (aK.enc .imm b),.ptr [I a]] .one [B (ep a b)]:=by
 refine fO 8 [] Tryz.func253 rfl ?_
 repeat'(first|refine gO ?_|fail)
 exact W0 (λz=>[B z]) ((by unfold ep;rw[U4];simp))
theorem y2(xs:List aK)(a:Int)(b:xs.length<=9223372036854775807):ao Tryz.prog 179 false [.val none (cq .imm xs),.val none [I a]] .one [B (xs.any (ep a))]:=by
 refine fO 8 [] Tryz.func179 rfl ?_
 repeat'(first|refine gO ?_|(conv=>whnf);first|refine Cq.mk (Fb (some 3) (aK.enc .imm) (ep a) xs) (tO default a).has (λL k rcs c=>?_) ?_|refine C7 (qk xs (ep a) b) ?_)
 ·obtain⟨y,-,rfl,rfl,rfl⟩:=c
  exact tO y a
 ·rfl
def p6(xs:List aK)(a:aK):Bool:=decide (0<=a.Class/\a.Class<=3/\0<=a.Addr/\0<=a.Since/\(xs.length=0\/(nth xs (xs.length - 1)).Since<=a.Since))&&!xs.any (ep a.Addr)
theorem Az(xs:List aK)(b:aK)(g:xs.length<=1048576):ao Tryz.prog 166 false [.val none (cq .imm xs),.val (some 3) (aK.enc .imm b)] .one [B (p6 xs b)]:=by
 have c:=y2 xs b.Addr ω;cases d:xs.any (ep b.Addr)<;>rw[d]at c
 ·by_cases h:xs.length=0
  ·refine fO 40 [(3,15,[25,26,27,28,29,30,31,32,33,34,35,36,37,38,39])] Tryz.func166 rfl ?_
   repeat'(first|refine gO ?_|(conv=>whnf);first|with_reducible (first|refine Bf.D (λa=>?_) (λa=>?_)|refine Bf.E (λa=>?_) (λa=>?_))|refine C7 (eS _) ?_|refine C7 c ?_)
   all_goals first
    | exact W0 (λz=>[B z]) ((by unfold p6;rw[d,Bool.not_false,Bool.and_true];first|(symm;exact T0 ω)|(symm;exact O0 ω)|exact decide_eq_decide.2 ω))
    |(exfalso;omega)
    |trace_state
  ·have e:xs[((xs.length:Int) - 1).toNat]? = some (nth xs (xs.length - 1)):=by rw[show((xs.length:Int) - 1).toNat=xs.length - 1 by omega];exact ah ω
   refine fO 40 [(3,15,[25,26,27,28,29,30,31,32,33,34,35,36,37,38,39])] Tryz.func166 rfl ?_
   repeat'(first|refine gO ?_|(conv=>whnf);first|with_reducible (first|refine Bf.D (λa=>?_) (λa=>?_)|refine Bf.E (λa=>?_) (λa=>?_))|refine C7 (eS _) ?_|refine C7 c ?_|refine CL ω (aa e) ?_)
   all_goals first
    | exact W0 (λz=>[B z]) ((by unfold p6;rw[d,Bool.not_false,Bool.and_true];first|(symm;exact T0 ω)|(symm;exact O0 ω)|exact decide_eq_decide.2 ω))
    |(exfalso;omega)
    |trace_state
 ·refine fO 40 [(3,15,[25,26,27,28,29,30,31,32,33,34,35,36,37,38,39])] Tryz.func166 rfl ?_
  repeat'(first|refine gO ?_|(conv=>whnf);first|with_reducible refine Bf.D (λa=>?_) (λa=>?_)|refine C7 (eS _) ?_|refine C7 c ?_)
  all_goals exact W0 (λz=>[B z]) ((by unfold p6;rw[d];simp))
theorem G9{xs:List aK}{i:Nat}(d:i<xs.length):p6 (xs.take i) (nth xs i)=je xs i:=by
 unfold p6 je;have a:(xs.take i).length=i:=by rw[U1];omega
 rw[a]
 congr 1
 refine decide_eq_decide.2 ?_;by_cases b:i=0
 ·subst b;simp
 ·have c:nth (xs.take i) (i - 1)=nth xs (i - 1):=by
   have:=ah (xs:=xs) (i:=i - 1) ω;exact bq (by rw[List.getElem?_take_of_lt ω];exact this)
  rw[c]
theorem uo(q:bu)(d:bu.sml q):ao Tryz.prog 71 false [.val (some 2) (bu.enc .imm q)] .one [B (eQ q)]:=by
 have l:q.Lst.length<=1048576:=d.1;refine fO 32 [(4,7,[13,14,15,16,17,18,19]),(7,11,[21,22,23,24,25,26,27,28,29,30,31])] Tryz.func71 rfl ?_
 repeat'(first|refine gO ?_|fail)
 (conv=>whnf)
 refine CE (ι:=Nat) (λi=>[(1,.hold .box (bu.enc .imm q)),(6,.hold .one (cq .imm q.Lst)),(7,.hold .one [I (q.Lst.length)]),(8,.hold .one [I ((i:Nat):Int)])]) (λi=>i<=q.Lst.length/\cS i (je q.Lst)=true) (λi=>q.Lst.length - i) 0 ?_ ⟨U0 _,rfl⟩ λi e=>?_
 ·exact wB
 obtain⟨e,g⟩:=e;by_cases a:i<q.Lst.length
 ·have h:=ah a
  have b:=Az (q.Lst.take i) (nth q.Lst i) (by rw[U1];omega);rw[G9 a]at b;cases c:je q.Lst i<;>rw[c]at b
  all_goals
   repeat'(first|refine gD ?_|(conv=>whnf);first|with_reducible refine CB (aa h) ?_|refine CT i rfl (by simp;omega) (λr j=>by obtain⟨z,-,rfl⟩:=z4.1 j;rfl) (t4 ..) ?_|refine C7 b ?_)
   all_goals first
    | exact W0 (λz=>[B z]) ((by symm;unfold eQ;rw[cr a c];rfl))
    | ((conv=>whnf);refine CD (i+1) ⟨ω,bL g c⟩ ω ?_;(exact wB))
 ·obtain rfl:i=q.Lst.length:=ω
  repeat'(first|refine gD ?_|(conv=>whnf);first|with_reducible refine Bf.D (λk=>?_) (λk=>?_)|refine C7 (aN _ 0 500) ?_|refine C7 (nJ q.Lst d) ?_)
  all_goals exact W0 (λz=>[B z]) ((by unfold eQ;rw[g];simp only[Bool.true_and];first|(symm;exact T0 ω)|exact decide_eq_decide.2 ω))
def gX(a:List Bool):Nat->Int
 | 0=>0
 | i+1=>gX a i+(if nth a i then 1 else 0)
def dX(f:aV):Int:=if cN f then gX f.Used f.Used.length else 0
theorem zG{a:List Bool}{i:Nat}(h:nth a i=true):gX a (i+1)=gX a i+1:=by show gX a i+(if nth a i then 1 else 0)=_;rw[h];rfl
theorem Ez{a:List Bool}{i:Nat}(h:nth a i=false):gX a (i+1)=gX a i:=by show gX a i+(if nth a i then 1 else 0)=_;rw[h];simp
theorem Km(f:aV)(h:aV.sml f):ao Tryz.prog 17 false [.val (some 2) (aV.enc .imm f)] .one [I (dX f)]:=by
 have l:f.Used.length<=1048576:=h.2;have b:=pQ f h;cases d:cN f<;>rw[d]at b
 ·refine fO 24 [] Tryz.func17 rfl ?_
  repeat'(first|refine gO ?_|fail)
  (conv=>whnf)
  refine CE (ι:=Nat) (λi=>[(1,.hold .box (aV.enc .imm f)),(3,.hold .one [I ((0:Int))]),(4,.hold .one [I ((i:Nat):Int)])]) (λi=>i=0) (λi=>i) (0) ?_ (rfl) λi c=>?_
  ·exact wB
  subst c
  repeat'(first|refine gO ?_|(conv=>whnf);first|with_reducible refine Bf.D (λj=>?_) (λj=>?_)|refine C7 b ?_)
  all_goals exact W0 (λz=>[I z]) (by unfold dX;rw[d];rfl)
 ·refine fO 24 [] Tryz.func17 rfl ?_
  repeat'(first|refine gO ?_|fail)
  (conv=>whnf)
  refine CE (ι:=Nat) (λi=>[(1,.hold .box (aV.enc .imm f)),(3,.hold .one [I (gX f.Used i)]),(4,.hold .one [I ((i:Nat):Int)])]) (λi=>i<=f.Used.length/\0<=gX f.Used i/\gX f.Used i<=i) (λi=>f.Used.length - i) (0) ?_ (⟨U0 _,by simp[gX],by simp[gX]⟩) λi c=>?_
  ·exact wB
  obtain⟨c,n,o⟩:=c;by_cases k:i<f.Used.length
  ·have e:=ah k
   cases g:nth f.Used i<;>rw[g]at e
   ·have a:=Ez g
    repeat'(first|refine gD ?_|(conv=>whnf);first|with_reducible refine CB (aa e) ?_|refine C7 b ?_)
    ((conv=>whnf);refine CD (i+1) ⟨ω,ω,ω⟩ ω ?_)
    rw[a];exact wB
   ·have a:=zG g
    repeat'(first|refine gD ?_|(conv=>whnf);first|with_reducible refine CB (aa e) ?_|refine C7 b ?_)
    ((conv=>whnf);refine CD (i+1) ⟨ω,ω,ω⟩ ω ?_)
    rw[a];exact wB
  ·obtain rfl:i=f.Used.length:=ω
   repeat'(first|refine gD ?_|(conv=>whnf);first|refine C7 b ?_)
   exact W0 (λz=>[I z]) (by unfold dX;rw[d];rfl)
theorem uB(f:aV)(g:aV.sml f):ao Tryz.prog 64 false [.val (some 2) (aV.enc .imm f)] .one [I (dX f)]:=by
 have k:f.Used.length<=1048576:=g.2;have b:=qh f g;cases c:cN f<;>rw[c]at b
 ·refine fO 21 [] Tryz.func64 rfl ?_
  repeat'(first|refine gO ?_|(conv=>whnf);first|refine C7 b ?_)
  all_goals exact W0 (λz=>[I z]) (by unfold dX;rw[c];rfl)
 ·refine fO 21 [] Tryz.func64 rfl ?_
  repeat'(first|refine gO ?_|(conv=>whnf);first|refine C7 b ?_)
  (conv=>whnf)
  refine CE (ι:=Nat) (λi=>[(3,.hold .one [I (gX f.Used i)]),(10,.hold .one (oP .imm f.Used)),(11,.hold .one [I (f.Used.length)]),(12,.hold .one [I ((i:Nat):Int)])]) (λi=>i<=f.Used.length/\0<=gX f.Used i/\gX f.Used i<=i) (λi=>f.Used.length - i) (0) ?_ (⟨U0 _,by simp[gX],by simp[gX]⟩) λi h=>?_
  ·exact wB
  obtain⟨h,l,n⟩:=h;by_cases j:i<f.Used.length
  ·have d:=ah j
   cases e:nth f.Used i<;>rw[e]at d
   ·have a:=Ez e
    repeat'(first|refine gD ?_|(conv=>whnf);first|with_reducible refine CB (aa d) ?_)
    ((conv=>whnf);refine CD (i+1) ⟨ω,ω,ω⟩ ω ?_)
    rw[a];exact wB
   ·have a:=zG e
    repeat'(first|refine gD ?_|(conv=>whnf);first|with_reducible refine CB (aa d) ?_)
    ((conv=>whnf);refine CD (i+1) ⟨ω,ω,ω⟩ ω ?_)
    rw[a];exact wB
  ·obtain rfl:i=f.Used.length:=ω
   repeat'(first|refine gD ?_|fail)
   exact W0 (λz=>[I z]) (by unfold dX;rw[c];rfl)
def ya(h:ab):Prop:=aH.sml h.Kernel.Machine.Table
theorem gZ(h:ab)(p:Int)(a:ya h):ao Tryz.prog 36 false [.val (some 24) (ab.enc .imm h),.val none [I p]] .one (aF .own (aT h p)):=by
 refine fO 23 [] Tryz.func36 rfl ?_ (.inr (bJ _))
 repeat'((conv=>whnf);first|with_reducible (first|refine Lm ?_|refine Wm ω ?_|refine Bf.E (λb=>?_) (λb=>?_)|refine Bn ?_|refine j9.wk rfl ?_)|refine Bt ?_|refine Bu ?_|refine C7 (cY h.Kernel.Machine.Table p a) ?_|refine C7 (gx h.Kernel.Machine.Table _ a) ?_)
 all_goals(unfold aT;first|rw[C9 (by assumption)]|rw[C8 (by assumption)])
 all_goals exact⟨rfl,trivial⟩
theorem uS(h:ab)(p:Int)(a:ya h):ao Tryz.prog 26 false [.val (some 24) (ab.enc .imm h),.val none [I p]] .one (aF .own (aT h p)):=by
 refine fO 22 [] Tryz.func26 rfl ?_ (.inr (bJ _))
 repeat'((conv=>whnf);first|with_reducible (first|refine Lm ?_|refine Wm ω ?_|refine Bf.E (λb=>?_) (λb=>?_)|refine Bn ?_|refine j9.wk rfl ?_)|refine Bt ?_|refine Bu ?_|refine C7 (kE h.Kernel.Machine.Table p a) ?_|refine C7 (jW h.Kernel.Machine.Table _ a) ?_)
 all_goals(unfold aT;first|rw[C9 (by assumption)]|rw[C8 (by assumption)])
 all_goals exact⟨rfl,trivial⟩
theorem ue(k:af)(p:Int)(a:aH.sml k.Machine.Table):ao Tryz.prog 163 false [.val (some 5) (af.enc .imm k),.val none [I p]] .one [B (decide ((au k.Machine.Table p).Mode≠0))]:=by
 refine fO 12 [] Tryz.func163 rfl ?_
 repeat'(first|refine gO ?_|(conv=>whnf);first|refine C7 (kE k.Machine.Table p a) ?_)
 exact W0 (λz=>[B z]) ((by rw[U4];simp))
theorem ov(z:Int):ao Tryz.prog 75 false [.val none [I z]] .one [B (decide (0<=z/\z<=1073741823))]:=by
 refine fO 5 [] Tryz.func75 rfl ?_
 repeat'(first|refine gO ?_|(conv=>whnf);first|refine C7 (aN z 0 1073741823) ?_)
 rfl
theorem jr(h:ab)(p:Int)(g:h.Spans.length<=1048576):ao Tryz.prog 39 false [.val (some 24) (ab.enc .imm h),.val none [I p]] .one [I (eB h p)]:=by
 refine fO 22 [] Tryz.func39 rfl ?_
 repeat'(first|refine gO ?_|fail)
 (conv=>whnf)
 refine CE (ι:=Nat) (λi=>[(1,.hold .one [I (p)]),(2,.hold .box (ab.enc .imm h)),(5,.hold .one [I ((i:Nat):Int)])]) (λi=>i<=h.Spans.length/\∀(j:Nat)(z:ar),j<i->h.Spans[j]? = some z->iS p z=false) (λi=>h.Spans.length - i) (0) ?_ (⟨U0 _,λj z k=>ω⟩) λi c=>?_
 ·exact wB
 obtain⟨c,a⟩:=c;by_cases d:i<h.Spans.length
 ·have b:=ah d
  repeat'(first|refine gD ?_|(conv=>whnf);first|with_reducible (first|refine CB (aa b) ?_|refine Bf.E (λe=>?_) (λe=>?_)))
  all_goals first
   | exact W0 (λz=>[I z]) (eI b (O0 (by assumption)) a).symm
   | ((conv=>whnf);refine CD (i+1) ⟨ω,dC b (T0 (by assumption)) a⟩ ω ?_;(exact wB))
 ·repeat'(first|refine gD ?_|fail)
  exact W0 (λz=>[I z]) (gk ω a).symm
theorem zm(s:ar)(p:Int):ao Tryz.prog 100 false [.val (some 3) (ar.enc .imm s),.ptr [I p]] .one [B (iS p s)]:=by
 refine fO 8 [] Tryz.func100 rfl ?_
 repeat'(first|refine gO ?_|fail)
 exact W0 (λz=>[B z]) ((by unfold iS;rw[U4];simp))
theorem u7(h:ab)(p:Int)(b:h.Spans.length<=1048576):ao Tryz.prog 27 false [.val (some 24) (ab.enc .imm h),.val none [I p]] .one [I (eB h p)]:=by
 refine fO 9 [] Tryz.func27 rfl ?_
 repeat'(first|refine gO ?_|(conv=>whnf);first|refine Cq.mk (Fb (some 3) (ar.enc .imm) (iS p) h.Spans) (zm default p).has (λL k rcs a=>?_) ?_|refine C7 (x6 h.Spans (iS p) ω) ?_)
 ·obtain⟨y,-,rfl,rfl,rfl⟩:=a
  exact zm y p
 ·rfl
def flight1(m:aI)(i:Nat):List Int:=(m.Buffers.take i).flatMap λl=>l.map (·.Addr)
def flight2(m:aI)(i:Nat):List Int:=(m.Inbox.take i).flatten
theorem mE{m:aI}{i:Nat}{l:List di}(h:m.Buffers[i]? = some l):flight1 m (i+1)=flight1 m i++l.map (·.Addr):=by
 unfold flight1;rw[C5,h,List.flatMap_append];simp
theorem mO{m:aI}{i:Nat}{l:List Int}(h:m.Inbox[i]? = some l):flight2 m (i+1)=flight2 m i++l:=by
 unfold flight2;rw[C5,h,List.flatten_append];simp
theorem oC{m:aI}(h:bI m=true):aE m=flight1 m m.Buffers.length++flight2 m m.Inbox.length:=by
 unfold aE flight1 flight2;rw[C9 h,Z4,Z4]
theorem tZ{m:aI}(h:bI m=false):aE m=[]:=by
 unfold aE;rw[h];rfl
theorem jU{m:aI}(h:bI m=true):1<=m.Buffers.length/\m.Buffers.length<=4/\m.Inbox.length=m.Buffers.length:=by
 unfold bI at h;simp only[I0,C0]at h;exact h.1.1
theorem Eb{l:List Int} : ∀r∈l.map (rI .imm),r.length=1:=by
 intro r a;obtain⟨z,-,rfl⟩:=z4.1 a;rfl
theorem H1{l:List Int} : ∀r∈l.map (rI .imm),aX r=true:=by
 intro r a;obtain⟨z,-,rfl⟩:=z4.1 a;rfl
theorem xY(m:aI)(j:aI.sml m):ao Tryz.prog 277 false [.val (some 2) (aI.enc .imm m)] .one (aF .own (aE m)):=by
 have l:=lb m j;cases e:bI m<;>rw[e]at l
 ·refine fO 56 [] Tryz.func277 rfl ?_ (.inr (bJ _))
  repeat'((conv=>whnf);first|with_reducible (first|refine Lm ?_|refine Wm ω ?_|refine Bn ?_|refine j9.wk rfl ?_)|refine Bt ?_|refine Bu ?_|refine C7 l ?_)
  all_goals(rw[tZ e];exact⟨rfl,trivial⟩)
 ·obtain⟨D,E,F⟩:=jU e
  refine fO 56 [] Tryz.func277 rfl ?_ (.inr (bJ _))
  repeat'(first|refine gO ?_|(conv=>whnf);first|refine C7 l ?_)
  (conv=>whnf)
  refine CE (ι:=Nat × List Int) (λi=>[(1,.hold .box (aI.enc .imm m)),(3,.hold .one (aF .own i.2)),(4,.hold .one [I ((i.1:Nat):Int)])]) (λi=>i.1<=m.Buffers.length/\i.2=flight1 m i.1/\i.2.length<=1048576*i.1) (λi=>m.Buffers.length - i.1) ((0,[])) ?_ (⟨U0 _,rfl,U0 _⟩) λi n=>?_
  ·exact wB
  obtain⟨i,S⟩:=i;obtain⟨n,o,t⟩:=n;simp only at n o t |-;by_cases q:i<m.Buffers.length
  ·have g:=ah q
   have u:(nth m.Buffers i).length<=1048576:=(j.1.2 _ (am q)).1
   repeat'(first|refine gD ?_|(conv=>whnf);first|with_reducible refine CB (aa g) ?_)
   (conv=>whnf)
   refine CE (ι:=Nat × List Int) (λk=>[(1,.hold .box (aI.enc .imm m)),(3,.hold .one (aF .own k.2)),(4,.hold .one [I ((i:Nat):Int)]),(5,.hold .one [I ((k.1:Nat):Int)])]) (λk=>k.1<=(nth m.Buffers i).length/\k.2=S++((nth m.Buffers i).take k.1).map (·.Addr)) (λk=>(nth m.Buffers i).length - k.1) ((0,S)) ?_ (⟨U0 _,by simp⟩) λk b=>?_
   ·exact wB
   obtain⟨k,c⟩:=k;obtain⟨b,a⟩:=b;simp only at b a |-;have w:c.length=S.length+k:=by rw[a,I3,Z0,U1];omega
   by_cases h:k<(nth m.Buffers i).length
   ·have d:=ah h
    repeat'(first|refine gD ?_|(conv=>whnf);first|with_reducible (first|refine CB (aa g) ?_|refine CB (aa d) ?_)|refine CQ co (λr y=>by rw[I1.1 y];rfl) (by simp[aX,dH]) (by simp;omega) (by show _*8<=_;simp;omega) rfl ?_)
    ((conv=>whnf)
     refine CD (k+1,c++[(nth (nth m.Buffers i) k).Addr]) ⟨(by simp only;omega),(by simp only;rw[a,C5,d,O5,I5];simp)⟩ (by simp only;omega) ?_
     (repeat'(first|exact trivial|rfl|exact CJ rfl (CJ (W0 (C.s d7.own) (by simp[rI])) trivial)|refine CJ ?_ ?_)))
   ·obtain rfl:k=(nth m.Buffers i).length:=ω
    rw[Z4]at a
    repeat'(first|refine gD ?_|(conv=>whnf);first|with_reducible refine CB (aa g) ?_)
    ((conv=>whnf);refine CD (i+1,c) ⟨(by simp only;omega),(by simp only;rw[mE g,<-o,a]),(by simp only;omega)⟩ (by simp only;omega) ?_;(exact wB))
  ·obtain rfl:i=m.Buffers.length:=ω
   repeat'(first|refine gD ?_|fail)
   (conv=>whnf)
   refine CE (ι:=Nat × List Int) (λk=>[(1,.hold .box (aI.enc .imm m)),(3,.hold .one (aF .own k.2)),(6,.hold .one [I ((k.1:Nat):Int)])]) (λk=>k.1<=m.Inbox.length/\k.2=S++flight2 m k.1/\k.2.length<=S.length+1048576*k.1) (λk=>m.Inbox.length - k.1) ((0,S)) ?_ (⟨U0 _,by simp[flight2],by simp⟩) λk b=>?_
   ·exact wB
   obtain⟨k,c⟩:=k;obtain⟨b,a,p⟩:=b;simp only at b a p |-;by_cases h:k<m.Inbox.length
   ·have d:=ah h
    have B:(nth m.Inbox k).length<=1048576:=j.2.2 _ (am h)
    repeat'(first|refine gD ?_|(conv=>whnf);first|with_reducible refine CB (aa d) ?_|refine CQ co Eb (λ_=>H1) (by simp;omega) (by show _*8<=_;simp;omega) rfl ?_)
    ((conv=>whnf)
     refine CD (k+1,c++nth m.Inbox k) ⟨(by simp only;omega),(by simp only;rw[mO d,a,I5]),(by simp only;rw[I3];omega)⟩ (by simp only;omega) ?_
     (repeat'(first|exact trivial|rfl|exact CJ rfl (CJ (W0 (C.s d7.own) (by simp[rI])) trivial)|refine CJ ?_ ?_)))
   ·obtain rfl:k=m.Inbox.length:=ω
    repeat'(first|refine gD ?_|fail)
    rw[oC e,<-o,<-a];rfl
theorem pX(m:aI)(h:aI.sml m):ao Tryz.prog 78 false [.val (some 2) (aI.enc .imm m)] .one (aF .own (aE m)):=by
 have j:=tY m h;cases e:bI m<;>rw[e]at j
 ·refine fO 46 [] Tryz.func78 rfl ?_ (.inr (bJ _))
  repeat'((conv=>whnf);first|with_reducible (first|refine Lm ?_|refine Wm ω ?_|refine Bn ?_|refine j9.wk rfl ?_)|refine Bt ?_|refine Bu ?_|refine C7 j ?_)
  all_goals(rw[tZ e];exact⟨rfl,trivial⟩)
 ·obtain⟨D,E,F⟩:=jU e
  refine fO 46 [] Tryz.func78 rfl ?_ (.inr (bJ _))
  repeat'(first|refine gO ?_|(conv=>whnf);first|refine C7 j ?_)
  (conv=>whnf)
  refine CE (ι:=Nat × List Int) (λi=>[(1,.hold .box (aI.enc .imm m)),(3,.hold .one (aF .own i.2)),(15,.hold .one (mc .imm m.Buffers)),(16,.hold .one [I (m.Buffers.length)]),(17,.hold .one [I ((i.1:Nat):Int)])]) (λi=>i.1<=m.Buffers.length/\i.2=flight1 m i.1/\i.2.length<=1048576*i.1) (λi=>m.Buffers.length - i.1) ((0,[])) ?_ (⟨U0 _,rfl,U0 _⟩) λi l=>?_
  ·exact wB
  obtain⟨i,S⟩:=i;obtain⟨l,n,t⟩:=l;simp only at l n t |-;by_cases p:i<m.Buffers.length
  ·have q:=ah p
   have u:(nth m.Buffers i).length<=1048576:=(h.1.2 _ (am p)).1
   repeat'(first|refine gD ?_|(conv=>whnf);first|with_reducible refine CB (aa q) ?_)
   (conv=>whnf)
   refine CE (ι:=Nat × List Int) (λk=>[(1,.hold .box (aI.enc .imm m)),(3,.hold .one (aF .own k.2)),(15,.hold .one (mc .imm m.Buffers)),(16,.hold .one [I (m.Buffers.length)]),(17,.hold .one [I ((i:Nat):Int)]),(21,.hold .one (cz .imm (nth m.Buffers i))),(22,.hold .one [I ((nth m.Buffers i).length)]),(23,.hold .one [I ((k.1:Nat):Int)])]) (λk=>k.1<=(nth m.Buffers i).length/\k.2=S++((nth m.Buffers i).take k.1).map (·.Addr)) (λk=>(nth m.Buffers i).length - k.1) ((0,S)) ?_ (⟨U0 _,by simp⟩) λk b=>?_
   ·exact wB
   obtain⟨k,c⟩:=k;obtain⟨b,a⟩:=b;simp only at b a |-;have w:c.length=S.length+k:=by rw[a,I3,Z0,U1];omega
   by_cases g:k<(nth m.Buffers i).length
   ·have d:=ah g
    repeat'(first|refine gD ?_|(conv=>whnf);first|with_reducible refine CB (aa d) ?_|refine CQ co (λr y=>by rw[I1.1 y];rfl) (by simp[aX,dH]) (by simp;omega) (by show _*8<=_;simp;omega) rfl ?_)
    ((conv=>whnf)
     refine CD (k+1,c++[(nth (nth m.Buffers i) k).Addr]) ⟨(by simp only;omega),(by simp only;rw[a,C5,d,O5,I5];simp)⟩ (by simp only;omega) ?_
     (repeat'(first|exact trivial|rfl|exact CJ rfl (CJ (W0 (C.s d7.own) (by simp[rI])) trivial)|refine CJ ?_ ?_)))
   ·obtain rfl:k=(nth m.Buffers i).length:=ω
    rw[Z4]at a
    repeat'(first|refine gD ?_|fail)
    ((conv=>whnf);refine CD (i+1,c) ⟨(by simp only;omega),(by simp only;rw[mE q,<-n,a]),(by simp only;omega)⟩ (by simp only;omega) ?_;(exact wB))
  ·obtain rfl:i=m.Buffers.length:=ω
   repeat'(first|refine gD ?_|fail)
   (conv=>whnf)
   refine CE (ι:=Nat × List Int) (λk=>[(3,.hold .one (aF .own k.2)),(35,.hold .one (i9 .imm m.Inbox)),(36,.hold .one [I (m.Inbox.length)]),(37,.hold .one [I ((k.1:Nat):Int)])]) (λk=>k.1<=m.Inbox.length/\k.2=S++flight2 m k.1/\k.2.length<=S.length+1048576*k.1) (λk=>m.Inbox.length - k.1) ((0,S)) ?_ (⟨U0 _,by simp[flight2],by simp⟩) λk b=>?_
   ·exact wB
   obtain⟨k,c⟩:=k;obtain⟨b,a,o⟩:=b;simp only at b a o |-;by_cases g:k<m.Inbox.length
   ·have d:=ah g
    have B:(nth m.Inbox k).length<=1048576:=h.2.2 _ (am g)
    repeat'(first|refine gD ?_|(conv=>whnf);first|with_reducible refine CB (aa d) ?_|refine CQ co Eb (λ_=>H1) (by simp;omega) (by show _*8<=_;simp;omega) rfl ?_)
    ((conv=>whnf)
     refine CD (k+1,c++nth m.Inbox k) ⟨(by simp only;omega),(by simp only;rw[mO d,a,I5]),(by simp only;rw[I3];omega)⟩ (by simp only;omega) ?_
     (repeat'(first|exact trivial|rfl|exact CJ rfl (CJ (W0 (C.s d7.own) (by simp[rI])) trivial)|refine CJ ?_ ?_)))
   ·obtain rfl:k=m.Inbox.length:=ω
    repeat'(first|refine gD ?_|fail)
    rw[oC e,<-n,<-a];rfl
end Go.Proofs.YtembpgjjnioagaaGreat.Ab
