/- A function's contract out of the abstract run of its body, where something is lent to it. No condition. -/
import Derived.Test.YtembpgjjnioagaaGreatXc
set_option linter.unusedVariables false
set_option linter.unusedSimpArgs false
set_option linter.constructorNameAsVariable false
namespace Go.Proofs.YtembpgjjnioagaaGreat.Ab
open Go.RowKit
def Nv:C->Value->C
 | .s .own rows,v=>.s (.tag v) rows
 | c,_=>c
def xe(u:Nat->Value):Nat->List C->List C
 | _,[]=>[]
 | j,c::cs=>Nv c (u j)::xe u (j+1) cs
def uK(u:Nat->Nat->Value):Nat->List MA->List (Nat × AV)
 | _,[]=>[]
 | i,.val a cs::A=>(i,.hold (jU a) cs)::uK u (i+1) A
 | i,.mut a cs::A=>(i,.hold (jU a) (xe (u i) 0 cs))::uK u (i+1) A
 | i,.ptr cs::A=>(i,.hold .box cs)::uK u (i+1) A
def Fx(p:Nat->Value):Nat->List MA->List (Nat × Value)
 | _,[]=>[]
 | i,.ptr _::A=>(i,p i)::Fx p (i+1) A
 | i,_::A=>Fx p (i+1) A
def BL:Nat->List MA->List (Nat × Nat)->List (Option Nat)
 | i,.val _ _::A,_::pl=>none::BL (i+1) A pl
 | i,.mut _ _::A,p::pl=>some p.1::BL (i+1) A pl
 | i,.ptr _::A,_::pl=>some i::BL (i+1) A pl
 | _,_,_=>[]
def D6:List (Option Nat)->Bool
 | []=>true
 | none::l=>D6 l
 | some t::l=>l.all (λx=>match x with|some a=>!Nat.beq t a|none=>true)&&D6 l
def sles:List (Option Nat)->List Nat
 | []=>[]
 | none::l=>sles l
 | some t::l=>t::sles l
def P3(v:Value)(c y o:C):Prop:=
 match c with
 | .s .own _=>(match y with|.s (.tag v') rows=>v'=v/\o=.s .own rows|_=>False)
 | .s (.tag _) _=>False
 | .m _=>False
 | .it _ _=>False
 | c=>o=c
def MO(u:Nat->Value):Nat->List C->List C->List C->Prop
 | _,[],_,o=>o=[]
 | j,c::cs,y::xs,o::os=>P3 (u j) c y o/\MO u (j+1) cs xs os
 | _,_,_,_=>False
def gJ(u:Nat->Nat->Value)(F:Nat->AV):Nat->List MA->List (Nat × Nat)->List MA->Prop
 | _,[],_,[]=>True
 | i,.val _ _::A,_::pl,.val _ _::B=>gJ u F (i+1) A pl B
 | i,.mut ag cs::A,p::pl,.mut a out::B=>(a=ag/\match F p.1 with|.hold _ xs=>MO (u i) 0 cs (xs.drop p.2) out|_=>False)/\gJ u F (i+1) A pl B
 | i,.ptr _::A,_::pl,.ptr out::B=>(match F i with|.hold .box xs=>xs=out|_=>False)/\gJ u F (i+1) A pl B
 | _,_,_,_=>False
inductive aR(k k':Kd)(cs cs':List C)(Q:Prop):Prop
 |mk_ (h:k=k'/\cs=cs'/\Q)
theorem aR.mk{k k':Kd}{cs a:List C}{Q:Prop}(h1:k=k')(b:cs=a)(c:Q):aR k k' cs a Q:=by refine .mk_ ?_;exact⟨h1,b,c⟩
theorem CD:type_of% @aR.mk:=@aR.mk
theorem aR.out{k k':Kd}{cs a:List C}{Q:Prop}(h:aR k k' cs a Q):k=k'/\cs=a/\Q:=by obtain⟨h⟩:=h;exact h
def Ni(TE:Nat->Option TI)(d:List ResultVar)(k:Kd)(rcs:List C)(u:Nat->Nat->Value)(A B:List MA)(a:List (Nat × Nat)):Exit->(Nat->AV)->Prop:=λe F=>
 match e with
 | .normal=>resA TE F d (sles (BL 0 A a)) λb c=>aR (iY b) k c rcs (gJ u F 0 A a B)
 | .ret=>resA TE F d (sles (BL 0 A a)) λb c=>aR (iY b) k c rcs (gJ u F 0 A a B)
 | _=>False
section
variable{P:Program}{w0 w w1:World}{M S0 S:ac}{N:eH}{φ:Nat->ac}{F:Nat->AV}{a:Act}{TE:Nat->Option TI}
theorem dJ.tag{Y:ac}{c:C}{v:Value}(h:dJ w S Y c v):dJ w S Y (Nv c v) v:=by
 cases h with
 | nil _ o a B=>cases o with
  | own=>exact .nil _ _ _ rfl
  | _=>exact .nil _ _ _ B
 | own _ o g k n l e u f B D E i p t K L M y=>cases o with
  | own=>exact .own _ _ g k n l e u f rfl D E i p t K L M y
  | imm=>exact B.elim
  | tag z=>exact .own _ _ g k n l e u f B D E i p t K L M y
 | v _ x F=>exact .v _ _ F
 | x _ u F=>exact .x _ _ F
 | z _ a=>exact .z _ _
 | imm _ g G k n l e u D E i N y=>exact .imm _ g G k n l e u D E i N y
 | m _ b d O j t H P J q=>exact .m _ b d O j t H P J q
 | it _ r b since Q d seen j cur left t R H q y J T A=>exact .it _ r b since Q d seen j cur left t R H q y J T A
theorem dJ.untag{Y:ac}{z v:Value}{rows:List (List C)}(h:dJ w S Y (.s (.tag z) rows) v):v=z/\dJ w S Y (.s .own rows) v:=by
 cases h with
 | nil _ o a d=>exact⟨Eq.symm d,.nil _ _ _ trivial⟩
 | own _ o g k n e rows u f d i j b c l p q r t=>exact⟨Eq.symm d,.own _ _ g k n e rows u f trivial i j b c l p q r t⟩
theorem mZ(u:Nat->Value):∀(j:Nat)(cs:List C),(xe u j cs).length=cs.length
 | _,[]=>rfl
 | j,c::cs=>by simp[xe,mZ u (j+1) cs]
theorem AG(u:Nat->Value):∀(a:Nat)(cs:List C)(j:Nat),(xe u a cs)[j]? = (cs[j]?).map λc=>Nv c (u (a+j))
 | _,[],j=>by simp[xe]
 | a,c::cs,0=>by simp[xe]
 | a,c::cs,j+1=>by simp only[xe,List.getElem?_cons_succ];rw[AG u (a+1) cs j,show a+1+j=a+(j+1) by omega]
theorem cB.tag{Y:ac}{cs:List C}{u:Nat->Value}(h:cB w S Y cs u):cB w S Y (xe u 0 cs) u:=by
 obtain⟨f,e,g,i⟩:=h;refine⟨f,λj c a=>?_,λj a=>g j (by rwa [mZ]at a),λj k a b=>i j k (by rwa [mZ]at a) (by rwa [mZ]at b)⟩;rw[AG,I5]at a;cases d:cs[j]? with
 | none=>rw[d]at a;cases a
 | some l=>
  rw[d]at a;simp only[C4,U0]at a;subst a;exact(e j l d).tag
def celF(v:Value)(j:Nat):Value:=v.cells.toList.getD j undef
theorem bO.celF{Y:ac}{ag:Option Nat}{cs:List C}{v:Value}(h:bO w S Y ag cs v):cs.length=ag.getD 1/\v=mkv ag (celF v)/\cB w S Y cs (celF v):=by
 obtain⟨b,u,c,d⟩:=h;have g:=nU (ag:=ag) (u:=u) (λe=>by subst e;exact d.one (by simp at b;omega));have f:∀j,j<ag.getD 1->Ab.celF v j=u j:=λj a=>by
  unfold Ab.celF;rw[c,g];simp[List.getD,a]
 exact⟨b,c.trans (gM λj a=>(f j a).symm),d.congr λj a=>f j ω⟩
def MK(u:Nat->Nat->Value)(i:Nat):MA->AV
 | .val a cs=>.hold (jU a) cs
 | .mut a cs=>.hold (jU a) (xe (u i) 0 cs)
 | .ptr cs=>.hold .box cs
theorem xQ{u:Nat->Nat->Value} : ∀{A:List MA}{vs:List Value}{V:Nat->ac}(i:Nat),Lg w S V A vs->∀t,(lay (uK u i A) t=.dead)\/(∃m v,i<=t/\vs[t - i]? = some v/\A[t - i]? = some m/\lay (uK u i A) t=MK u t m/\oz w S (V (t - i)) m v)
 | [],_,_,i,_,t=>.inl rfl
 | m::A,[],_,i,h,t=>h.elim
 | m::A,v::vs,V,i,h,t=>by
  have c:lay (uK u i (m::A)) t=bif Nat.beq t i then MK u i m else lay (uK u (i+1) A) t:=by cases m<;>rfl
  rw[c];cases a:Nat.beq t i with
  | true=>
   have:=R1 a;subst this;exact .inr ⟨m,v,Q2 _,by simp,by simp,rfl,by rw[Nat.sub_self];exact h.1⟩
  | false=>
   have d:t≠i:=λe=>by subst e;rw[Nat.beq_refl]at a;cases a
   rcases xQ (i+1) h.2 t with b|⟨f,g,b,j,k,l,n⟩
   ·exact .inl b
   ·refine .inr ⟨f,g,ω,?_,?_,l,?_⟩
    ·rw[show t - i=(t - (i+1))+1 by omega];simpa using j
    ·rw[show t - i=(t - (i+1))+1 by omega];simpa using k
    ·rw[show t - i=(t - (i+1))+1 by omega];exact n
theorem Fd:∀{A:List MA}{vs:List Value}{V:Nat->ac},Lg w S V A vs->A.length=vs.length
 | [],[],_,_=>rfl
 | _::_,_::_,_,h=>by simp[Fd h.2]
 | [],_::_,_,h=>h.elim
 | _::_,[],_,h=>h.elim
theorem FG{p:Nat->Value} : ∀{A:List MA}{i:Nat}{q:Nat × Value},q∈Fx p i A->i<=q.1/\q.1<i+A.length/\q.2=p q.1
 | [],_,_,h=>by simp[Fx]at h
 | m::A,i,q,h=>by
  have a:q∈Fx p (i+1) A->i<=q.1/\q.1<i+(m::A).length/\q.2=p q.1:=λh=>by
   obtain⟨c,d,b⟩:=FG h;exact⟨ω,by simp;omega,b⟩
  cases m with
  | ptr e=>
   rcases List.mem_cons.1 h with rfl|h
   ·exact⟨Q2 _,by simp,rfl⟩
   ·exact a h
  | val=>exact a h
  | «mut»=>exact a h
theorem Fp{p:Nat->Value} : ∀{A:List MA}{i n:Nat}{cs:List C},A[n]? = some (.ptr cs)->(i+n,p (i+n))∈Fx p i A
 | [],_,n,_,h=>by simp at h
 | m::A,i,0,cs,h=>by simp at h;subst h;simp[Fx]
 | m::A,i,n+1,cs,h=>by
  have a:=Fp (p:=p) (i:=i+1) (show A[n]? = some (.ptr cs) by simpa using h);rw[show i+1+n=i+(n+1) by omega]at a;cases m with
  | ptr cs=>exact I4 _ a
  | val=>exact a
  | «mut»=>exact a
def Ng(φ:Nat->ac):Option (Option Nat)->ac
 | some (some t)=>φ t
 | _=>NO
theorem zp{u:Nat->Value} : ∀{a:Nat}{cs xs b:List C},MO u a cs xs b->cs.length=b.length/\∀(j:Nat)(c o:C),cs[j]? = some c->b[j]? = some o->∃y,(dz c=true->xs[j]? = some y)/\P3 (u (a+j)) c y o
 | _,[],xs,b,h=>by simp only[MO]at h;subst h;exact⟨rfl,λj c o h=>by simp at h⟩
 | _,_::_,[],_,h=>by simp only[MO]at h
 | _,_::_,_::_,[],h=>by simp only[MO]at h
 | a,p::cs,f::xs,q::b,h=>by
  simp only[MO]at h;obtain⟨g,i⟩:=zp h.2;refine⟨by simp[g],λj c o d e=>?_⟩;cases j with
  | zero=>simp at d e;subst d e;exact⟨f,λ_=>rfl,h.1⟩
  | succ j=>
   obtain⟨y,k,l⟩:=i j c o (by simpa using d) (by simpa using e);exact⟨y,λn=>by simpa using k n,by rw[show a+(j+1)=a+1+j by omega];exact l⟩
theorem Jy{S' Y F:ac}{u L:Nat->Value}{cs xs G:List C}{off:Nat}(g:bi S w w1)(n:∀b o,S b o->S' b o)(h:cB w S Y cs u)(h':cB w1 S' F xs L)(i:MO u 0 cs (xs.drop off) G):cB w1 S' F G u:=by
 obtain⟨f,M,U,V⟩:=h;obtain⟨H,r,t,A⟩:=h';obtain⟨W,N⟩:=zp i;refine⟨λj b o=>off+j<xs.length/\H (off+j) b o,λj c q=>?_,λj q b o i=>t _ i.1 b o i.2,λj X q O P b o i p=>A _ _ i.1 p.1 ω b o i.2 p.2⟩;have Q:=(V1.1 q).1;have k:cs[j]? = some cs[j]:=U1 ω;obtain⟨y,l,a⟩:=N j _ c k q;rw[I5]at a;have d:=M j _ k;generalize cs[j]=B at k a d l;have keep:dz B=false->c=B->dJ w1 S' (λb o=>off+j<xs.length/\H (off+j) b o) c (u j):=λR e=>by
  subst e;exact((d.bare (F':=NO) R).keep g (λ_ _ h=>h.elim)).mono n (λ_ _ h=>h.elim)
 cases B with
 | v Z=>exact keep rfl a
 | x=>exact keep rfl a
 | z=>exact keep rfl a
 | m es=>exact a.elim
 | it=>exact a.elim
 | s o J=>
  cases o with
  | imm=>exact keep rfl a
  | tag z=>exact a.elim
  | own=>
   have l:=l rfl;rw[List.getElem?_drop]at l;have D:=(V1.1 l).1;simp only[P3]at a;split at a
   case h_2=>exact a.elim
   rename_i v' E;obtain⟨rfl,rfl⟩:=a;obtain⟨T,K⟩:=(r _ _ l).untag;rw[T]at K;exact K.mono (λ_ _ h=>h) (λb o h=>⟨D,h⟩)
theorem bh.backs{E:World}{S':ac}{u:Nat->Nat->Value}(h:bh w0 M S0 N S' φ F a E)(e:bi S w E)(f:∀b o,S b o->S' b o):∀{A:List MA}{g:List (Nat × Nat)}{B:List MA}{vs:List Value}{V:Nat->ac}{i:Nat},Lg w S V A vs->
  (∀j v,vs[j]? = some v->u (i+j)=celF v)->(∀j v cs,vs[j]? = some v->A[j]? = some (.ptr cs)->tvs a (i+j)=v)->gJ u F i A g B->Bg E S' (λn=>Ng φ (BL i A g)[n]?) B vs
 | [],g,B,vs,V,i,l,q,r,c=>by
  cases vs with
  | cons _ _=>exact l.elim
  | nil=>cases B with
   | nil=>trivial
   | cons _ _=>simp only[gJ]at c
 | m::A,[],B,vs,V,i,l,q,r,c=>by cases m<;>simp only[gJ]at c
 | m::A,p::g,[],vs,V,i,l,q,r,c=>by cases m<;>simp only[gJ]at c
 | m::A,p::g,G::B,[],V,i,l,q,r,c=>l.elim
 | m::A,p::g,G::B,v::vs,V,i,l,q,r,c=>by
  have next:gJ u F (i+1) A g B->Bg E S' (λn=>Ng φ (BL (i+1) A g)[n]?) B vs:=λc=>
   bh.backs h e f l.2 (λj v H=>by rw[show i+1+j=i+(j+1) by omega];exact q (j+1) v (by simpa using H))
    (λj v cs H U=>by rw[show i+1+j=i+(j+1) by omega];exact r (j+1) v cs (by simpa using H) (by simpa using U)) c
  cases m with
  | val W cs=>
   cases G with
   | val C X=>simp only[gJ]at c;exact⟨trivial,next c⟩
   | ptr=>simp only[gJ]at c
   | «mut»=>simp only[gJ]at c
  | «mut» W cs=>
   cases G with
   | val=>simp only[gJ]at c
   | ptr=>simp only[gJ]at c
   | «mut» C out=>
    simp only[gJ]at c;obtain⟨⟨rfl,d⟩,J⟩:=c;refine⟨?_,next J⟩;have D:=bO.celF (show bO w S (V 0) C cs v from l.1);have K:u i=celF v:=q 0 v (by simp);have t:=h.slot p.1;cases y:F p.1 with
    | hold k xs=>
     rw[y]at d t;simp only at d;rw[K]at d;obtain⟨P,Y,Q,L,R,T,O⟩:=t;refine⟨by rw[<-(zp d).1];exact D.1,celF v,D.2.1,?_⟩;exact(Jy e f D.2.2 O d).mono (λ_ _ h=>h) (λb o c=>by simpa[BL,Ng] using L b o c)
    | _=>rw[y]at d;exact d.elim
  | ptr cs=>
   cases G with
   | val=>simp only[gJ]at c
   | «mut»=>simp only[gJ]at c
   | ptr out=>
    simp only[gJ]at c;refine⟨?_,next c.2⟩;have D:tvs a i=v:=r 0 v cs (by simp) (by simp);have t:=h.slot i;cases y:F i with
    | hold k xs=>
     cases k with
     | box=>
      rw[y]at c t;have:=c.1;simp only at this;subst this;rw[D]at t;obtain⟨P,Y,Q,L,R,T,O⟩:=t;exact⟨P,Y,λb o c=>by simpa[BL,Ng] using Q b o c,λb o c=>by simpa[BL,Ng] using L b o c,R,T,O⟩
     | _=>rw[y]at c;exact c.1.elim
    | _=>rw[y]at c;exact c.1.elim
theorem rD:∀{l:List (Option Nat)},D6 l=true->∀(i a t c:Nat),i≠a->l[i]? = some (some t)->l[a]? = some (some c)->t≠c
 | [],_,i,a,t,c,_,h,_=>by simp at h
 | none::l,b,i,a,t,c,f,h,d=>by
  cases i with
  | zero=>simp at h
  | succ i=>cases a with
   | zero=>simp at d
   | succ a=>exact rD (l:=l) b i a t c ω (by simpa using h) (by simpa using d)
 | some j::l,b,i,a,t,c,f,h,d=>by
  simp only[D6,I0]at b;have g:∀(n s:Nat),l[n]? = some (some s)->j≠s:=λn s k e=>by
   have:=O3.1 b.1 _ (Q1 k);simp only[Bool.not_eq_true']at this;rw[e,Nat.beq_refl]at this;cases this
  cases i with
  | zero=>
   simp at h;subst h;cases a with
   | zero=>exact absurd rfl f
   | succ a=>exact g a c (by simpa using d)
  | succ i=>cases a with
   | zero=>simp at d;subst d;exact λe=>g i t (by simpa using h) e.symm
   | succ a=>exact rD b.2 i a t c ω (by simpa using h) (by simpa using d)
theorem uI:∀{l:List (Option Nat)}{i t:Nat},l[i]? = some (some t)->t∈sles l
 | [],i,t,h=>by simp at h
 | none::l,i,t,h=>by
  cases i with
  | zero=>simp at h
  | succ i=>exact uI (l:=l) (i:=i) (by simpa using h)
 | some a::l,i,t,h=>by
  cases i with
  | zero=>simp at h;subst h;simp[sles]
  | succ i=>exact I4 _ (uI (l:=l) (i:=i) (by simpa using h))
theorem v8{φ:Nat->ac}{x:Option (Option Nat)}{b o:Nat}(h:Ng φ x b o):∃t,x=some (some t)/\φ t b o:=by
 match x,h with
 | some (some t),h=>exact⟨t,rfl,h⟩
 | some none,h=>exact h.elim
 | none,h=>exact h.elim
theorem Gx{f : Nat}{E : Func}{c : Code}{sh : Bool}{A B : List MA}{k : Kd}{rcs : List C}{mo : List (Nat × List Nat)}{n : Nat}(Q : List (Nat × Nat))(hTE : ∀t i, TE t = some i -> ca P t i)(hf : P.funcs[f]? = some E)(hn : (E.name == "runtime.NumGoroutine") = false)(a:E.body=some c){ck:Nat->Array Oper->Bool}{D:eH->Nat->Array Oper->((Nat->AV)->Prop)->(Nat->AV)->Prop}(hD:∀N,vL P N ck (D N))(hc:fo ck c=true)(hN:A.length+(E.ntmps - A.length)=n)(hok:D6 (BL 0 A Q)=true)(hsh:sh=true\/gh rcs)(hp:∀(u:Nat->Nat->Value)(p:Nat->Value),aw P TE ⟨n,Fx p 0 A,mo⟩ (D ⟨n,Fx p 0 A,mo⟩) c (Ni TE E.results.toList k rcs u A B Q) (lay (uK u 0 A))):aS P f sh A B k rcs:=by
 refine⟨⟨E,hf,hn,by rw[a];rfl⟩,λw S V r hS hV hVd hA=>?_⟩;have hlen:=Fd hA;refine calls_of_wp hf a ?_
 let u:Nat->Nat->Value:=λi=>celF (r.getD i undef)
 let p:Nat->Value:=λi=>r.getD i undef
 have htv:∀t v,r[t]? = some v->tvs {tmps:=r.toArray++Array.replicate (E.ntmps - r.toArray.size) undef,defers:=[]} t=v:=λt v l=>by
  have H:=(V1.1 l).1;simp only[tvs,v5];rw[Array.getElem?_append_left (by simpa using H)];simp only[List.getElem?_toArray];rw[l];rfl
 have hst:St w (λb o=>∃i,V i b o) S ⟨n,Fx p 0 A,mo⟩ (lay (uK u 0 A)) {tmps:=r.toArray++Array.replicate (E.ntmps - r.toArray.size) undef,defers:=[]} w:=by
  refine⟨S,V,λt=>?_,hVd,λt b o h=>(hV t b o h).2,λt b o h=>⟨(hV t b o h).1,.inr ⟨t,h⟩⟩,λ_ _ h=>h,λb o h=>⟨hS b o h,.inl h⟩,CU _ _,by simp;omega,rfl,λq hq=>?_⟩
  ·rcases xQ (u:=u) 0 hA t with J|⟨m,v,-,l,h2',G,U⟩
   ·rw[J];trivial
   ·rw[G]
    rw[Nat.sub_zero]at l U;rw[htv t v l];have hu:u t=celF v:=by show celF (r.getD t undef)=_;rw[List.getD,l];rfl
    cases m with
    | val O K=>exact(bO.mono (show bO w S NO O K v from U) (λ_ _ h=>h) (λ_ _ h=>h.elim)).slot
    | «mut» O K=>
     obtain⟨e1,e2,e3⟩:=bO.celF (show bO w S (V t) O K v from U);refine bO.slot ⟨by rw[mZ];exact e1,celF v,e2,?_⟩;rw[hu];exact e3.tag
    | ptr K=>exact U
  ·obtain⟨-,J,l⟩:=FG hq
   rw[l];have H:q.1<r.length:=ω
   refine htv _ _ ?_;show r[q.1]? = some (r.getD q.1 undef);rw[List.getD,U1 H];rfl
 refine gX hTE (hD _) c hc _ _ _ _ w (hp u p) hst λe F' W y he hs'=>?_
 obtain⟨S',φ',h⟩:=hs';have fin:resA TE F' E.results.toList (sles (BL 0 A Q)) (λsh K=>aR (iY sh) k K rcs (gJ u F' 0 A Q B))->W.defers=[]/\∃v,(results E W.tmps).run P y=.ok v y/\(∃v',Ending.returned v=.returned v'/\bG (λb o=>∃i,V i b o) w y/\∃(X:ac)(Z:Nat->ac)(S1:ac),
     (∀b o,X b o->(∃i,V i b o)\/(b<y.heap.size/\w.heap.size<=b))/\(∀i b o,Z i b o->(∃i,V i b o)\/(b<y.heap.size/\w.heap.size<=b))/\
     (∀b o,S1 b o->(sh=true/\S b o)\/(∃i,V i b o)\/(b<y.heap.size/\w.heap.size<=b))/\
     (∀i i',i≠i'->∀b o,Z i b o->¬Z i' b o)/\(∀i b o,X b o->¬Z i b o)/\(∀b o,X b o->¬S1 b o)/\(∀i b o,Z i b o->¬S1 b o)/\
     fw y NO k rcs.length v'/\cB y S1 X rcs (bU y k v')/\Bg y (λb o=>S b o\/S1 b o) Z B r):=by
  intro hr;obtain⟨shs,K,d,u',hfin,hrun,M,hln,hL,hcells,L,hrow⟩:=h.resA hTE hr;obtain⟨rfl,rfl,R⟩:=hfin.out;refine⟨h.defers,?_⟩;have T:(results E W.tmps).run P y=.ok (if h:d.toArray.size=1 then d.toArray[0] else .tuple d.toArray) y:=by
   have e:results E W.tmps=(do let r <-E.results.mapM (BF W.tmps);pure (if h:r.size=1 then r[0] else .tuple r)):=by
    unfold results
    congr 1
   rw[e,<-Array.toArray_toList (xs:=E.results),List.mapM_toArray];simp only[Sem.run_bind,Sem.run_map,hrun,Result.andThen_ok,Sem.run_pure]
  have hex:∀t b o,φ' t b o->(∃i,V i b o)\/(b<y.heap.size/\w.heap.size<=b):=λt b o a=>(h.ex t b o a).2.elim (λh'=>.inr ⟨(h.ex t b o a).1,h'⟩) .inl
  have hsameS:bi S w y:=λb o a=>by
   have H:=hS b o a;exact⟨h.old.cel b o H (λ⟨i,hi⟩=>(hV i b o hi).2 a),h.old.fro b o H (λ⟨i,hi⟩=>(hV i b o hi).2 a)⟩
  have hm:=h.backs (u:=u) hsameS h.sub hA (λj v hj=>by show celF (r.getD (0+j) undef)=_;rw[I5,List.getD,hj];rfl) (λj v K hj hc=>by
    have:=h.par _ (Fp (p:=p) (i:=0) hc);rw[this];show r.getD (0+j) undef=v;rw[I5,List.getD,hj];rfl) R
  refine⟨_,T,_,rfl,h.old,λb o=>∃t,t∉sles (BL 0 A Q)/\φ' t b o,λi=>Ng φ' (BL 0 A Q)[i]?,λb o=>(sh=true/\S' b o)\/(S' b o/\((∃i,V i b o)\/w.heap.size<=b)),λb o ⟨t,_,a⟩=>hex t b o a,λi b o a=>?_,λb o a=>?_,λi i' hne b o a g=>?_,λi b o ⟨t,ht,a⟩ g=>?_,λb o ⟨t,_,a⟩ g=>h.disS t b o a (g.elim (·.2) (·.1)),λi b o a g=>?_,?_⟩
  ·obtain⟨t,-,a⟩:=v8 a
   exact hex t b o a
  ·rcases a with⟨J,l⟩|⟨J,l⟩
   ·rcases(h.sup b o l).2 with G|G|G
    ·exact .inl ⟨J,G⟩
    ·exact .inr (.inr ⟨(h.sup b o l).1,G⟩)
    ·exact .inr (.inl G)
   ·rcases l with l|l
    ·exact .inr (.inl l)
    ·exact .inr (.inr ⟨(h.sup b o J).1,l⟩)
  ·obtain⟨t,e1,a⟩:=v8 a
   obtain⟨t',e2,g⟩:=v8 g;exact h.dis t t' (rD hok i i' t t' hne e1 e2) b o a g
  ·obtain⟨t',e2,g⟩:=v8 g
   exact h.dis t t' (λe=>ht (by rw[e];exact uI e2)) b o a g
  ·obtain⟨t,-,a⟩:=v8 a
   exact h.disS t b o a (g.elim (·.2) (·.1))
  ·have hk:fw y NO (iY shs) K.length (if h:d.toArray.size=1 then d.toArray[0] else .tuple d.toArray)/\cB y S' (λb o=>∃t,t∉sles (BL 0 A Q)/\φ' t b o) K (bU y (iY shs) (if h:d.toArray.size=1 then d.toArray[0] else .tuple d.toArray)):=by
    match shs,M,L,hL with
    | [],M,_,hL=>
     cases d with
     | cons _ _=>exact M.elim
     | nil=>
      have:K=[]:=T5 (by simpa[oA] using hL.symm);subst this;exact⟨⟨_,rfl,trivial,rfl⟩,cB.nil _ _ _ _⟩
    | [O],_,L,_=>
     obtain⟨v,rfl,hv⟩:=L O rfl;have:=hv.slot (F:=F') (tv:=tvs W);obtain⟨X1,Y,J,l,G,U,h5⟩:=this;refine⟨?_,h5.mono (λ_ _ h=>h) l⟩;cases O<;>exact U
    | O::ag2::sh,M,_,hL=>
     have hsz:¬d.toArray.size=1:=by
      match d,M with
      | [],M=>simp
      | [v],M=>cases O<;>cases ag2<;>exact M.2.elim
      | _::_::_,_=>simp
     rw[dif_neg hsz];refine⟨⟨_,rfl,M,hL⟩,hrow.congr λj hj=>?_⟩;simp only[bU,iY,kS,hcells];simp[List.getD,hj]
   refine⟨hk.1,?_,hm.mono λb o a=>?_⟩
   ·rcases hsh with J|J
    ·exact hk.2.mono (λb o a=>.inl ⟨J,a⟩) (λ_ _ h=>h)
    ·exact(hk.2.fresh J).mono (λ_ _ h=>h.elim) (λ_ _ h=>h)
   ·rcases(h.sup b o a).2 with G|G|G
    ·exact .inl G
    ·exact .inr (.inr ⟨a,.inr G⟩)
    ·exact .inr (.inr ⟨a,.inl G⟩)
 cases e with
 | normal=>exact fin he
 | ret=>exact fin he
 | _=>exact he.elim
end
abbrev I(z:Int):C:=.v (.int .i64 z)
abbrev B(b:Bool):C:=.v (.bool b)
def rI(_:dy)(z:Int):List C:=[I z]
def rB(_:dy)(b:Bool):List C:=[B b]
theorem oB(z:Int):gh (rI .own z):=⟨trivial,trivial⟩
theorem Dw(b:Bool):gh (rB .own b):=⟨trivial,trivial⟩
def lr(z:Int):Prop:=-9223372036854775808<=z/\z<=9223372036854775807
def PC(_:Bool):Prop:=True
theorem pk : Tryz.prog.follows .mixedOrders=true:=by kernel_rfl
theorem NQ{n f : Nat}{mo : List (Nat × List Nat)}{a : Func}{c : Code}{sh : Bool}{A : List RA}{k : Kd}{rcs : List C}(d : Tryz.prog.funcs[f]? = some a)(e : (a.name == "runtime.NumGoroutine") = false)(g : a.body = some c){tb : List (Nat × Nat × List Nat)}(h : fo (lT tb) c = true)(i:A.length+(a.ntmps - A.length)=n)(b:sh=true\/gh rcs)(j:aw Tryz.prog TE ⟨n,[],mo⟩ (DF Tryz.prog TE ⟨n,[],mo⟩ tb) c (M7 TE a.results.toList k rcs) (lay (tp 0 A))):ar Tryz.prog f sh A k rcs:=
 G5 y6 d e g (pH y6 pk ⟨n,[],mo⟩ tb) h i rfl b j
theorem NU{n f : Nat}{mo : List (Nat × List Nat)}{a : Func}{c : Code}{sh : Bool}{A B : List MA}{k : Kd}{rcs : List C}(b : List (Nat × Nat))(g : Tryz.prog.funcs[f]? = some a)(h : (a.name == "runtime.NumGoroutine") = false)(i : a.body = some c){tb : List (Nat × Nat × List Nat)}(j : fo (lT tb) c = true)(l:A.length+(a.ntmps - A.length)=n)(d:D6 (BL 0 A b)=true)(e:sh=true\/gh rcs)(o:∀(u:Nat->Nat->Value)(p:Nat->Value),aw Tryz.prog TE ⟨n,Fx p 0 A,mo⟩ (DF Tryz.prog TE ⟨n,Fx p 0 A,mo⟩ tb) c (Ni TE a.results.toList k rcs u A B b) (lay (uK u 0 A))):aS Tryz.prog f sh A B k rcs:=
 Gx b y6 g h i (λN=>pH y6 pk N tb) j l d e o
theorem Pm{n f t : Nat}{mo : List (Nat × List Nat)}{a : Func}{c : Code}{A : List RA}{rcs : List C}(b : Tryz.prog.funcs[f]? = some a)(d : (a.name == "runtime.NumGoroutine") = false)(e : a.body = some c){tb : List (Nat × Nat × List Nat)}(g : fo (lT tb) c = true)(h:A.length+(a.ntmps - A.length)=n)(i:a.results = #[.tmp t])(j:aw Tryz.prog TE ⟨n,[],mo⟩ (DF Tryz.prog TE ⟨n,[],mo⟩ tb) c (NK t rcs) (lay (tp 0 A))):oY Tryz.prog f true A .box rcs:=
 GC y6 b d e (pH y6 pk ⟨n,[],mo⟩ tb) g h rfl i j
theorem eA{x:Int}(h1 : -9223372036854775808<=x)(a:x<=9223372036854775807):IntKind.i64.wrap x=x:=IntWalk.i64_in x (by constructor<;>assumption)
def JU:RA->RA->Prop
 | .val ag cs,.val ag' cs'=>ag=ag'/\cs=cs'
 | .ptr cs,.ptr cs'=>cs=cs'
 | A,a=>A=a
theorem JU.eq{A a:RA}(h:JU A a):A=a:=by
 unfold JU at h;split at h
 ·obtain⟨rfl,rfl⟩:=h;rfl
 ·rw[h]
 ·exact h
def Be:List RA->List RA->Prop
 | [],[]=>True
 | A::As,B::Bs=>JU A B/\Be As Bs
 | _,_=>False
theorem Be.eq:∀{A a:List RA},Be A a->A=a
 | [],[],_=>rfl
 | A::As,B::Bs,h=>by rw[JU.eq h.1,Be.eq h.2]
 | [],_::_,h=>h.elim
 | _::_,[],h=>h.elim
theorem Cl.eq{P:Program}{f:Nat}{b:Bool}{A a:List RA}{K:AV->Prop}{k:Kd}{rcs:List C}(h:ar P f false a k rcs)(c:Be A a)(d:K (.hold k rcs)):Cl P f b A K:=by rw[c.eq];exact C6 h d
theorem CE:type_of% @Cl.eq:=@Cl.eq
theorem wY{n b:Nat}(h:n<=1048576)(a:b<=1000):n*b<=140737488355328:=t4 (Nat.mul_le_mul h a) (by decide)
theorem Bf.NB{a b:Bool}{X Y:Prop}(h1:a≠b->X)(c:a=b->Y):Bf (a != b) X Y:=by
 refine Bf.P (λh=>h1 ?_) (λh=>c ?_)
 ·simpa using h
 ·simpa using h
theorem Rw.one{a:List C}{off i k j:Nat}{K:List C->Nat->Prop}{o:dy}{rows:List (List C)}{r:List C}(h1:a[off]? = some (.s o rows))(b:rows[i]? = some r)(c:r.length=k)(d:K r j):Rw a off [(i,k,j)] K:=
 Rw.mk (r:=r) (j:=j) (by simp[bQ,h1,b,c]) d
theorem CF:type_of% @Rw.one:=@Rw.one
section
variable{α:Type}{A B:List α}
end
theorem aa{α β:Type}{f:α->β}{l:List α}{k:Nat}{x:α}(h:l[k]? = some x):(l.map f)[k]? = some (f x):=by simp[h]
def aD(o:dy)(x:List Int):List C:=[.s o (x.map (rI o))]
theorem dS(x:List Int):dw (aD .own x)=aD .imm x:=by simp[dw,aD,rI,dw]
theorem bI(x:List Int):gh (aD .own x):=⟨⟨.inl λh=>(by cases h),bc _ _ λy _=>oB y⟩,trivial⟩
def ix(x:List Int):Prop:=x.length<=9223372036854775807/\∀y∈x,lr y
def pP(x:List Int):Prop:=x.length<=1048576
def fJ(o:dy)(x:List (List Int)):List C:=[.s o (x.map (aD o))]
theorem NG(x:List (List Int)):dw (fJ .own x)=fJ .imm x:=by simp[dw,fJ,dS,<-bY,U4]
def zT(x:List (List Int)):Prop:=x.length<=9223372036854775807/\∀y∈x,ix y
def uS(x:List (List Int)):Prop:=x.length<=1048576/\∀y∈x,pP y
def np(o:dy)(x:List Bool):List C:=[.s o (x.map (rB o))]
def M4(x:List Bool):Prop:=x.length<=9223372036854775807/\∀y∈x,PC y
def JB(x:List Bool):Prop:=x.length<=1048576
structure aV where
 Cells:List (List Int)
 Used:List Bool
deriving DecidableEq,Inhabited
def aV.enc(o:dy)(x:aV):List C:=[.s o (x.Cells.map (aD o)),.s o (x.Used.map (rB o))]
theorem aV.enc_fz(x:aV):dw (aV.enc .own x)=aV.enc .imm x:=by simp[dw,aV.enc,rB,dS,<-bY,U4]
theorem aV.enc_fr(x:aV):gh (aV.enc .own x):=⟨⟨.inl λh=>(by cases h),bc _ _ λy _=>bI y⟩,⟨.inl λh=>(by cases h),bc _ _ λy _=>Dw y⟩,trivial⟩
def aV.wf(x:aV):Prop:=zT x.Cells/\M4 x.Used
def aV.sml(x:aV):Prop:=uS x.Cells/\JB x.Used
structure aZ where
 Mode:Int
 Frame:Int
deriving DecidableEq,Inhabited
def aZ.enc(o:dy)(x:aZ):List C:=[I x.Mode,I x.Frame]
theorem aZ.enc_fz(x:aZ):dw (aZ.enc .own x)=aZ.enc .imm x:=by simp[dw,aZ.enc]
theorem aZ.enc_fr(x:aZ):gh (aZ.enc .own x):=⟨trivial,trivial,trivial⟩
def aZ.wf(x:aZ):Prop:=lr x.Mode/\lr x.Frame
def aZ.sml(_:aZ):Prop:=True
def lf(o:dy)(x:List aZ):List C:=[.s o (x.map (aZ.enc o))]
def Hw(x:List aZ):Prop:=x.length<=9223372036854775807/\∀y∈x,aZ.wf y
def DZ(x:List aZ):Prop:=x.length<=1048576/\∀y∈x,aZ.sml y
structure aG where
 Entries:List aZ
deriving DecidableEq,Inhabited
def aG.enc(o:dy)(x:aG):List C:=[.s o (x.Entries.map (aZ.enc o))]
theorem aG.enc_fz(x:aG):dw (aG.enc .own x)=aG.enc .imm x:=by simp[dw,aG.enc,aZ.enc_fz,<-bY,U4]
theorem CV:type_of% @aG.enc_fz:=@aG.enc_fz
theorem aG.enc_fr(x:aG):gh (aG.enc .own x):=⟨⟨.inl λh=>(by cases h),bc _ _ λy _=>aZ.enc_fr y⟩,trivial⟩
def aG.wf(x:aG):Prop:=Hw x.Entries
def aG.sml(x:aG):Prop:=DZ x.Entries
structure aJ where
 Frames:aV
 Table:aG
deriving DecidableEq,Inhabited
def aJ.enc(o:dy)(x:aJ):List C:=[.s o (x.Frames.Cells.map (aD o)),.s o (x.Frames.Used.map (rB o)),.s o (x.Table.Entries.map (aZ.enc o))]
theorem aJ.enc_fz(x:aJ):dw (aJ.enc .own x)=aJ.enc .imm x:=by simp[dw,aJ.enc,aZ.enc_fz,rB,dS,<-bY,U4]
theorem aJ.enc_fr(x:aJ):gh (aJ.enc .own x):=⟨⟨.inl λh=>(by cases h),bc _ _ λy _=>bI y⟩,⟨.inl λh=>(by cases h),bc _ _ λy _=>Dw y⟩,⟨.inl λh=>(by cases h),bc _ _ λy _=>aZ.enc_fr y⟩,trivial⟩
def aJ.wf(x:aJ):Prop:=aV.wf x.Frames/\aG.wf x.Table
def aJ.sml(x:aJ):Prop:=aV.sml x.Frames/\aG.sml x.Table
structure af where
 Machine:aJ
 Calls:Int
 Refuse:List Int
deriving DecidableEq,Inhabited
def af.enc(o:dy)(x:af):List C:=[.s o (x.Machine.Frames.Cells.map (aD o)),.s o (x.Machine.Frames.Used.map (rB o)),.s o (x.Machine.Table.Entries.map (aZ.enc o)),I x.Calls,.s o (x.Refuse.map (rI o))]
theorem af.enc_fz(x:af):dw (af.enc .own x)=af.enc .imm x:=by simp[dw,af.enc,aZ.enc_fz,rB,rI,dS,<-bY,U4]
theorem CP:type_of% @af.enc_fz:=@af.enc_fz
theorem af.enc_fr(x:af):gh (af.enc .own x):=⟨⟨.inl λh=>(by cases h),bc _ _ λy _=>bI y⟩,⟨.inl λh=>(by cases h),bc _ _ λy _=>Dw y⟩,⟨.inl λh=>(by cases h),bc _ _ λy _=>aZ.enc_fr y⟩,trivial,⟨.inl λh=>(by cases h),bc _ _ λy _=>oB y⟩,trivial⟩
def af.wf(x:af):Prop:=aJ.wf x.Machine/\lr x.Calls/\ix x.Refuse
def af.sml(x:af):Prop:=aJ.sml x.Machine/\pP x.Refuse
structure a7 where
 At:Int
 Len:Int
deriving DecidableEq,Inhabited
def a7.enc(o:dy)(x:a7):List C:=[I x.At,I x.Len]
theorem a7.enc_fz(x:a7):dw (a7.enc .own x)=a7.enc .imm x:=by simp[dw,a7.enc]
theorem a7.enc_fr(x:a7):gh (a7.enc .own x):=⟨trivial,trivial,trivial⟩
def a7.wf(x:a7):Prop:=lr x.At/\lr x.Len
def a7.sml(_:a7):Prop:=True
def bw(o:dy)(x:List a7):List C:=[.s o (x.map (a7.enc o))]
theorem dA(x:List a7):dw (bw .own x)=bw .imm x:=by simp[dw,bw,a7.enc_fz,<-bY,U4]
theorem kf(x:List a7):gh (bw .own x):=⟨⟨.inl λh=>(by cases h),bc _ _ λy _=>a7.enc_fr y⟩,trivial⟩
def H0(x:List a7):Prop:=x.length<=9223372036854775807/\∀y∈x,a7.wf y
def gC(x:List a7):Prop:=x.length<=1048576/\∀y∈x,a7.sml y
structure au where
 Page:Int
 Class:Int
 Bits:Int
deriving DecidableEq,Inhabited
def au.enc(o:dy)(x:au):List C:=[I x.Page,I x.Class,I x.Bits]
theorem au.enc_fz(x:au):dw (au.enc .own x)=au.enc .imm x:=by simp[dw,au.enc]
theorem au.enc_fr(x:au):gh (au.enc .own x):=⟨trivial,trivial,trivial,trivial⟩
def au.wf(x:au):Prop:=lr x.Page/\lr x.Class/\lr x.Bits
def au.sml(_:au):Prop:=True
def bP(o:dy)(x:List au):List C:=[.s o (x.map (au.enc o))]
theorem v7(x:List au):dw (bP .own x)=bP .imm x:=by simp[dw,bP,au.enc_fz,<-bY,U4]
theorem Eh(x:List au):gh (bP .own x):=⟨⟨.inl λh=>(by cases h),bc _ _ λy _=>au.enc_fr y⟩,trivial⟩
def HH(x:List au):Prop:=x.length<=9223372036854775807/\∀y∈x,au.wf y
def dn(x:List au):Prop:=x.length<=1048576/\∀y∈x,au.sml y
structure a8 where
 Page:Int
 Pages:Int
 Size:Int
deriving DecidableEq,Inhabited
def a8.enc(o:dy)(x:a8):List C:=[I x.Page,I x.Pages,I x.Size]
theorem a8.enc_fz(x:a8):dw (a8.enc .own x)=a8.enc .imm x:=by simp[dw,a8.enc]
theorem a8.enc_fr(x:a8):gh (a8.enc .own x):=⟨trivial,trivial,trivial,trivial⟩
def a8.wf(x:a8):Prop:=lr x.Page/\lr x.Pages/\lr x.Size
def a8.sml(_:a8):Prop:=True
def bN(o:dy)(x:List a8):List C:=[.s o (x.map (a8.enc o))]
theorem D0(x:List a8):dw (bN .own x)=bN .imm x:=by simp[dw,bN,a8.enc_fz,<-bY,U4]
def Hd(x:List a8):Prop:=x.length<=9223372036854775807/\∀y∈x,a8.wf y
def dq(x:List a8):Prop:=x.length<=1048576/\∀y∈x,a8.sml y
structure bC where
 Id:Int
 Addr:Int
 Size:Int
 Thread:Int
deriving DecidableEq,Inhabited
def bC.enc(o:dy)(x:bC):List C:=[I x.Id,I x.Addr,I x.Size,I x.Thread]
theorem bC.enc_fz(x:bC):dw (bC.enc .own x)=bC.enc .imm x:=by simp[dw,bC.enc]
theorem bC.enc_fr(x:bC):gh (bC.enc .own x):=⟨trivial,trivial,trivial,trivial,trivial⟩
def bC.wf(x:bC):Prop:=lr x.Id/\lr x.Addr/\lr x.Size/\lr x.Thread
def bC.sml(_:bC):Prop:=True
def iX(o:dy)(x:List bC):List C:=[.s o (x.map (bC.enc o))]
theorem Gr(x:List bC):dw (iX .own x)=iX .imm x:=by simp[dw,iX,bC.enc_fz,<-bY,U4]
def Mh(x:List bC):Prop:=x.length<=9223372036854775807/\∀y∈x,bC.wf y
def Jp(x:List bC):Prop:=x.length<=1048576/\∀y∈x,bC.sml y
structure aC where
 Lists:List (List Int)
deriving DecidableEq,Inhabited
def aC.enc(o:dy)(x:aC):List C:=[.s o (x.Lists.map (aD o))]
theorem aC.enc_fz(x:aC):dw (aC.enc .own x)=aC.enc .imm x:=by simp[dw,aC.enc,dS,<-bY,U4]
theorem aC.enc_fr(x:aC):gh (aC.enc .own x):=⟨⟨.inl λh=>(by cases h),bc _ _ λy _=>bI y⟩,trivial⟩
def aC.wf(x:aC):Prop:=zT x.Lists
def aC.sml(x:aC):Prop:=uS x.Lists
def ij(o:dy)(x:List aC):List C:=[.s o (x.map (aC.enc o))]
def G6(x:List aC):Prop:=x.length<=9223372036854775807/\∀y∈x,aC.wf y
def Ed(x:List aC):Prop:=x.length<=1048576/\∀y∈x,aC.sml y
structure cQ where
 To:Int
 Addr:Int
deriving DecidableEq,Inhabited
def cQ.enc(o:dy)(x:cQ):List C:=[I x.To,I x.Addr]
theorem cQ.enc_fz(x:cQ):dw (cQ.enc .own x)=cQ.enc .imm x:=by simp[dw,cQ.enc]
theorem cQ.enc_fr(x:cQ):gh (cQ.enc .own x):=⟨trivial,trivial,trivial⟩
def cQ.wf(x:cQ):Prop:=lr x.To/\lr x.Addr
def cQ.sml(_:cQ):Prop:=True
def bT(o:dy)(x:List cQ):List C:=[.s o (x.map (cQ.enc o))]
theorem oR(x:List cQ):dw (bT .own x)=bT .imm x:=by simp[dw,bT,cQ.enc_fz,<-bY,U4]
theorem pv(x:List cQ):gh (bT .own x):=⟨⟨.inl λh=>(by cases h),bc _ _ λy _=>cQ.enc_fr y⟩,trivial⟩
def J4(x:List cQ):Prop:=x.length<=9223372036854775807/\∀y∈x,cQ.wf y
def GF(x:List cQ):Prop:=x.length<=1048576/\∀y∈x,cQ.sml y
def jP(o:dy)(x:List (List cQ)):List C:=[.s o (x.map (bT o))]
def Hg(x:List (List cQ)):Prop:=x.length<=9223372036854775807/\∀y∈x,J4 y
def DH(x:List (List cQ)):Prop:=x.length<=1048576/\∀y∈x,GF y
structure aH where
 Buffers:List (List cQ)
 Inbox:List (List Int)
deriving DecidableEq,Inhabited
def aH.enc(o:dy)(x:aH):List C:=[.s o (x.Buffers.map (bT o)),.s o (x.Inbox.map (aD o))]
theorem aH.enc_fz(x:aH):dw (aH.enc .own x)=aH.enc .imm x:=by simp[dw,aH.enc,oR,dS,<-bY,U4]
theorem aH.enc_fr(x:aH):gh (aH.enc .own x):=⟨⟨.inl λh=>(by cases h),bc _ _ λy _=>pv y⟩,⟨.inl λh=>(by cases h),bc _ _ λy _=>bI y⟩,trivial⟩
def aH.wf(x:aH):Prop:=Hg x.Buffers/\zT x.Inbox
def aH.sml(x:aH):Prop:=DH x.Buffers/\uS x.Inbox
structure aL where
 Addr:Int
 Class:Int
 Since:Int
deriving DecidableEq,Inhabited
def aL.enc(o:dy)(x:aL):List C:=[I x.Addr,I x.Class,I x.Since]
theorem aL.enc_fz(x:aL):dw (aL.enc .own x)=aL.enc .imm x:=by simp[dw,aL.enc]
theorem aL.enc_fr(x:aL):gh (aL.enc .own x):=⟨trivial,trivial,trivial,trivial⟩
def aL.wf(x:aL):Prop:=lr x.Addr/\lr x.Class/\lr x.Since
def aL.sml(_:aL):Prop:=True
def bV(o:dy)(x:List aL):List C:=[.s o (x.map (aL.enc o))]
theorem AI(x:List aL):dw (bV .own x)=bV .imm x:=by simp[dw,bV,aL.enc_fz,<-bY,U4]
theorem sQ(x:List aL):gh (bV .own x):=⟨⟨.inl λh=>(by cases h),bc _ _ λy _=>aL.enc_fr y⟩,trivial⟩
def Hb(x:List aL):Prop:=x.length<=9223372036854775807/\∀y∈x,aL.wf y
def jI(x:List aL):Prop:=x.length<=1048576/\∀y∈x,aL.sml y
structure bB where
 Room:Int
 Lst:List aL
deriving DecidableEq,Inhabited
def bB.enc(o:dy)(x:bB):List C:=[I x.Room,.s o (x.Lst.map (aL.enc o))]
theorem bB.enc_fz(x:bB):dw (bB.enc .own x)=bB.enc .imm x:=by simp[dw,bB.enc,aL.enc_fz,<-bY,U4]
theorem bB.enc_fr(x:bB):gh (bB.enc .own x):=⟨trivial,⟨.inl λh=>(by cases h),bc _ _ λy _=>aL.enc_fr y⟩,trivial⟩
def bB.wf(x:bB):Prop:=lr x.Room/\Hb x.Lst
def bB.sml(x:bB):Prop:=jI x.Lst
structure cg where
 Keep:Int
 Move:Int
 Cells:List Int
deriving DecidableEq,Inhabited
def cg.enc(o:dy)(x:cg):List C:=[I x.Keep,I x.Move,.s o (x.Cells.map (rI o))]
theorem cg.enc_fz(x:cg):dw (cg.enc .own x)=cg.enc .imm x:=by simp[dw,cg.enc,rI,<-bY,U4]
theorem cg.enc_fr(x:cg):gh (cg.enc .own x):=⟨trivial,trivial,⟨.inl λh=>(by cases h),bc _ _ λy _=>oB y⟩,trivial⟩
def cg.wf(x:cg):Prop:=lr x.Keep/\lr x.Move/\ix x.Cells
def cg.sml(x:cg):Prop:=pP x.Cells
structure bW where
 Plan:cg
 Phase:Int
 Next:Int
deriving DecidableEq,Inhabited
def bW.enc(o:dy)(x:bW):List C:=[I x.Plan.Keep,I x.Plan.Move,.s o (x.Plan.Cells.map (rI o)),I x.Phase,I x.Next]
theorem bW.enc_fz(x:bW):dw (bW.enc .own x)=bW.enc .imm x:=by simp[dw,bW.enc,rI,<-bY,U4]
theorem bW.enc_fr(x:bW):gh (bW.enc .own x):=⟨trivial,trivial,⟨.inl λh=>(by cases h),bc _ _ λy _=>oB y⟩,trivial,trivial,trivial⟩
def bW.wf(x:bW):Prop:=cg.wf x.Plan/\lr x.Phase/\lr x.Next
def bW.sml(x:bW):Prop:=cg.sml x.Plan
structure ab where
 Kernel:af
 Free:List a7
 Spans:List au
 Larges:List a8
 Objs:List bC
 Caches:List aC
 Mail:aH
 Quar:bB
 Seed:Int
 Clock:Int
 Limit:Int
 Next:Int
 Meshing:Bool
 Job:bW
deriving DecidableEq,Inhabited
def ab.enc(o:dy)(x:ab):List C:=[.s o (x.Kernel.Machine.Frames.Cells.map (aD o)),.s o (x.Kernel.Machine.Frames.Used.map (rB o)),.s o (x.Kernel.Machine.Table.Entries.map (aZ.enc o)),I x.Kernel.Calls,.s o (x.Kernel.Refuse.map (rI o)),.s o (x.Free.map (a7.enc o)),.s o (x.Spans.map (au.enc o)),.s o (x.Larges.map (a8.enc o)),.s o (x.Objs.map (bC.enc o)),.s o (x.Caches.map (aC.enc o)),.s o (x.Mail.Buffers.map (bT o)),.s o (x.Mail.Inbox.map (aD o)),I x.Quar.Room,.s o (x.Quar.Lst.map (aL.enc o)),I x.Seed,I x.Clock,I x.Limit,I x.Next,B x.Meshing,I x.Job.Plan.Keep,I x.Job.Plan.Move,.s o (x.Job.Plan.Cells.map (rI o)),I x.Job.Phase,I x.Job.Next]
theorem ab.enc_fz(x:ab):dw (ab.enc .own x)=ab.enc .imm x:=by simp[dw,ab.enc,aC.enc_fz,aZ.enc_fz,a8.enc_fz,bC.enc_fz,a7.enc_fz,au.enc_fz,aL.enc_fz,rB,oR,rI,dS,<-bY,U4]
theorem CT:type_of% @ab.enc_fz:=@ab.enc_fz
theorem ab.enc_fr(x:ab):gh (ab.enc .own x):=⟨⟨.inl λh=>(by cases h),bc _ _ λy _=>bI y⟩,⟨.inl λh=>(by cases h),bc _ _ λy _=>Dw y⟩,⟨.inl λh=>(by cases h),bc _ _ λy _=>aZ.enc_fr y⟩,trivial,⟨.inl λh=>(by cases h),bc _ _ λy _=>oB y⟩,⟨.inl λh=>(by cases h),bc _ _ λy _=>a7.enc_fr y⟩,⟨.inl λh=>(by cases h),bc _ _ λy _=>au.enc_fr y⟩,⟨.inl λh=>(by cases h),bc _ _ λy _=>a8.enc_fr y⟩,⟨.inl λh=>(by cases h),bc _ _ λy _=>bC.enc_fr y⟩,⟨.inl λh=>(by cases h),bc _ _ λy _=>aC.enc_fr y⟩,⟨.inl λh=>(by cases h),bc _ _ λy _=>pv y⟩,⟨.inl λh=>(by cases h),bc _ _ λy _=>bI y⟩,trivial,⟨.inl λh=>(by cases h),bc _ _ λy _=>aL.enc_fr y⟩,trivial,trivial,trivial,trivial,trivial,trivial,trivial,⟨.inl λh=>(by cases h),bc _ _ λy _=>oB y⟩,trivial,trivial,trivial⟩
def ab.wf(x:ab):Prop:=af.wf x.Kernel/\H0 x.Free/\HH x.Spans/\Hd x.Larges/\Mh x.Objs/\G6 x.Caches/\aH.wf x.Mail/\bB.wf x.Quar/\lr x.Seed/\lr x.Clock/\lr x.Limit/\lr x.Next/\PC x.Meshing/\bW.wf x.Job
def ab.sml(x:ab):Prop:=af.sml x.Kernel/\gC x.Free/\dn x.Spans/\dq x.Larges/\Jp x.Objs/\Ed x.Caches/\aH.sml x.Mail/\bB.sml x.Quar/\bW.sml x.Job
structure i7 where
 Kind:Int
 Index:Int
 Slot:Int
 Offset:Int
deriving DecidableEq,Inhabited
def i7.enc(o:dy)(x:i7):List C:=[I x.Kind,I x.Index,I x.Slot,I x.Offset]
theorem i7.enc_fr(x:i7):gh (i7.enc .own x):=⟨trivial,trivial,trivial,trivial,trivial⟩
structure P8 where
 Id:Int
 Size:Int
 Sum:Int
deriving DecidableEq,Inhabited
structure bE where
 Id:Int
 Cells:List Int
deriving DecidableEq,Inhabited
def bE.enc(o:dy)(x:bE):List C:=[I x.Id,.s o (x.Cells.map (rI o))]
theorem bE.enc_fz(x:bE):dw (bE.enc .own x)=bE.enc .imm x:=by simp[dw,bE.enc,rI,<-bY,U4]
theorem bE.enc_fr(x:bE):gh (bE.enc .own x):=⟨trivial,⟨.inl λh=>(by cases h),bc _ _ λy _=>oB y⟩,trivial⟩
def bE.sml(x:bE):Prop:=pP x.Cells
def Dt(x:List bE):Prop:=x.length<=1048576/\∀y∈x,bE.sml y
structure ax where
 Next:Int
 Objs:List bE
deriving DecidableEq,Inhabited
def ax.enc(o:dy)(x:ax):List C:=[I x.Next,.s o (x.Objs.map (bE.enc o))]
theorem ax.enc_fz(x:ax):dw (ax.enc .own x)=ax.enc .imm x:=by simp[dw,ax.enc,bE.enc_fz,<-bY,U4]
theorem CW:type_of% @ax.enc_fz:=@ax.enc_fz
theorem ax.enc_fr(x:ax):gh (ax.enc .own x):=⟨trivial,⟨.inl λh=>(by cases h),bc _ _ λy _=>bE.enc_fr y⟩,trivial⟩
def ax.sml(x:ax):Prop:=Dt x.Objs
structure bF where
 Heap:ab
 Ref:ax
deriving DecidableEq,Inhabited
def bF.enc(o:dy)(x:bF):List C:=[.s o (x.Heap.Kernel.Machine.Frames.Cells.map (aD o)),.s o (x.Heap.Kernel.Machine.Frames.Used.map (rB o)),.s o (x.Heap.Kernel.Machine.Table.Entries.map (aZ.enc o)),I x.Heap.Kernel.Calls,.s o (x.Heap.Kernel.Refuse.map (rI o)),.s o (x.Heap.Free.map (a7.enc o)),.s o (x.Heap.Spans.map (au.enc o)),.s o (x.Heap.Larges.map (a8.enc o)),.s o (x.Heap.Objs.map (bC.enc o)),.s o (x.Heap.Caches.map (aC.enc o)),.s o (x.Heap.Mail.Buffers.map (bT o)),.s o (x.Heap.Mail.Inbox.map (aD o)),I x.Heap.Quar.Room,.s o (x.Heap.Quar.Lst.map (aL.enc o)),I x.Heap.Seed,I x.Heap.Clock,I x.Heap.Limit,I x.Heap.Next,B x.Heap.Meshing,I x.Heap.Job.Plan.Keep,I x.Heap.Job.Plan.Move,.s o (x.Heap.Job.Plan.Cells.map (rI o)),I x.Heap.Job.Phase,I x.Heap.Job.Next,I x.Ref.Next,.s o (x.Ref.Objs.map (bE.enc o))]
theorem bF.enc_fr(x:bF):gh (bF.enc .own x):=⟨⟨.inl λh=>(by cases h),bc _ _ λy _=>bI y⟩,⟨.inl λh=>(by cases h),bc _ _ λy _=>Dw y⟩,⟨.inl λh=>(by cases h),bc _ _ λy _=>aZ.enc_fr y⟩,trivial,⟨.inl λh=>(by cases h),bc _ _ λy _=>oB y⟩,⟨.inl λh=>(by cases h),bc _ _ λy _=>a7.enc_fr y⟩,⟨.inl λh=>(by cases h),bc _ _ λy _=>au.enc_fr y⟩,⟨.inl λh=>(by cases h),bc _ _ λy _=>a8.enc_fr y⟩,⟨.inl λh=>(by cases h),bc _ _ λy _=>bC.enc_fr y⟩,⟨.inl λh=>(by cases h),bc _ _ λy _=>aC.enc_fr y⟩,⟨.inl λh=>(by cases h),bc _ _ λy _=>pv y⟩,⟨.inl λh=>(by cases h),bc _ _ λy _=>bI y⟩,trivial,⟨.inl λh=>(by cases h),bc _ _ λy _=>aL.enc_fr y⟩,trivial,trivial,trivial,trivial,trivial,trivial,trivial,⟨.inl λh=>(by cases h),bc _ _ λy _=>oB y⟩,trivial,trivial,trivial,⟨.inl λh=>(by cases h),bc _ _ λy _=>bE.enc_fr y⟩,trivial⟩
structure NX where
 Pages:Int
 Mapped:Int
 Frames:Int
 Held:Int
 kZ:Int
 Cached:Int
 Stale:Int
 Posted:Int
deriving DecidableEq,Inhabited
theorem Lm{α β:Type}{f:α->β}{l:List α}{K:Nat->Prop}(h:K l.length):Ln (l.map f).length K:=Ln.mk (W0 ..) h
theorem Wm{z:Int}{K:Int->Prop}(h : -9223372036854775808<=z/\z<=9223372036854775807)(a:K z):Wr .i64 z K:=CI (eA h.1 h.2) a
theorem dT{p:Prop}[Decidable p]{X Y:Prop}(h:p)(a:p->X):Bf (decide p) X Y:=.D a λe=>absurd h e
theorem dF{p:Prop}[Decidable p]{X Y:Prop}(h:¬p)(a:¬p->Y):Bf (decide p) X Y:=.D (λe=>absurd e h) a
theorem nT{a b:Int}{X Y:Prop}(h:a≠b)(c:a≠b->X):Bf (a != b) X Y:=.N c λe=>absurd e h
theorem nF{a b:Int}{X Y:Prop}(h:a=b)(c:a=b->Y):Bf (a != b) X Y:=.N (λe=>absurd h e) c
theorem eT{a b:Int}{X Y:Prop}(h:a=b)(c:a=b->X):Bf (a == b) X Y:=.E c λe=>absurd h e
theorem eF{a b:Int}{X Y:Prop}(h:a≠b)(c:a≠b->Y):Bf (a == b) X Y:=.E (λe=>absurd e h) c
theorem Bn{b:Bool}{X Y:Prop}(h:Bf b Y X):Bf (!b) X Y:=.not h
theorem Bt{X Y:Prop}(h:X):Bf true X Y:=.t rfl h
theorem Bu{X Y:Prop}(h:Y):Bf false X Y:=.f rfl h
theorem Fm{k k':Kd}{cs a:List C}(h1:k=k')(h:cs=a):jc k k' cs a:=.mk h1 h
theorem dV{p:Prop}[Decidable p]{X Y:Prop}(h:p)(a:X):Bf (decide p) X Y:=.D (λ_=>a) λe=>absurd h e
theorem dW{p:Prop}[Decidable p]{X Y:Prop}(h:¬p)(a:Y):Bf (decide p) X Y:=.D (λe=>absurd e h) λ_=>a
theorem nV{a b:Int}{X Y:Prop}(h:a≠b)(c:X):Bf (a != b) X Y:=.N (λ_=>c) λe=>absurd e h
theorem nW{a b:Int}{X Y:Prop}(h:a=b)(c:Y):Bf (a != b) X Y:=.N (λe=>absurd h e) λ_=>c
theorem eV{a b:Int}{X Y:Prop}(h:a=b)(c:X):Bf (a == b) X Y:=.E (λ_=>c) λe=>absurd h e
theorem eW{a b:Int}{X Y:Prop}(h:a≠b)(c:Y):Bf (a == b) X Y:=.E (λe=>absurd e h) λ_=>c
structure MW(Y:Prop):Prop where
 out:Y
theorem gO{X Y:Prop}(y:Y)(h:MW Y->X:=by intro y;(conv=>whnf);(first|with_reducible (first|refine Lm ?_|refine Wm ω ?_|refine Bn ?_|refine Fm rfl ?_)|refine Bt ?_|refine Bu ?_|fail);exact y.out):X:=h ⟨y⟩
theorem gD{X Y:Prop}(y:Y)(h:MW Y->X:=by intro y;(conv=>whnf);(first|with_reducible (first|refine Lm ?_|refine Wm ω ?_|refine dV ω ?_|refine dW ω ?_|refine Bn ?_|refine Fm rfl ?_)|refine Bt ?_|refine Bu ?_|fail);exact y.out):X:=h ⟨y⟩
theorem gA{X Y:Prop}(y:Y)(h:MW Y->X:=by intro y;(conv=>whnf);(first|with_reducible (first|refine Lm ?_|refine Wm ω ?_|refine dV ω ?_|refine dW ω ?_|refine nV ω ?_|refine nW ω ?_|refine eV ω ?_|refine eW ω ?_|refine Bn ?_|refine Fm rfl ?_)|refine Bt ?_|refine Bu ?_|fail);exact y.out):X:=h ⟨y⟩
theorem NL{z1 z2:Int}(h:z1=z2):Mp (I z1) (I z2):=by subst h;rfl
theorem P2(c:C):Mp c c:=(kL [c]).1
theorem wA{X:Prop}(h:X:=by repeat'(first|exact trivial|rfl|refine CH ?_ ?_)):X:=h
theorem wB{X:Prop}(h:X:=by repeat'(first|exact trivial|rfl|refine CH ?_ ?_|(exact NL (by first|omega|(simp only;omega)|(simp;omega))))):X:=h
theorem wC{X:Prop}(h:X:=by repeat'(first|exact trivial|rfl|exact P2 _|refine CH ?_ ?_|(exact NL (by first|omega|(simp only;omega)|(simp;omega))))):X:=h
theorem fO(n : Nat){f : Nat}{a : Func}{c : Code}{sh : Bool}{A : List RA}{k : Kd}{rcs : List C}(tb : List (Nat × Nat × List Nat))(d : Tryz.prog.funcs[f]? = some a)(e : a.body = some c)(g : aw Tryz.prog TE ⟨n, [], []⟩ (DF Tryz.prog TE ⟨n, [], []⟩ tb) c (M7 TE a.results.toList k rcs) (lay (tp 0 A)))(b : sh = true \/ gh rcs := by exact .inr ⟨trivial, trivial⟩)(h : (a.name == "runtime.NumGoroutine") = false := by kernel_rfl)(i : fo (lT tb) c = true := by kernel_rfl)(j : A.length + (a.ntmps - A.length) = n := by rfl) : ar Tryz.prog f sh A k rcs := NQ d h e i j b g
theorem fP(n : Nat){f : Nat}{a : Func}{c : Code}{sh : Bool}{A : List RA}{k : Kd}{rcs : List C}(mo : List (Nat × List Nat))(tb : List (Nat × Nat × List Nat))(d : Tryz.prog.funcs[f]? = some a)(e : a.body = some c)(g : aw Tryz.prog TE ⟨n, [], mo⟩ (DF Tryz.prog TE ⟨n, [], mo⟩ tb) c (M7 TE a.results.toList k rcs) (lay (tp 0 A)))(b : sh = true \/ gh rcs := by exact .inr ⟨trivial, trivial⟩)(h : (a.name == "runtime.NumGoroutine") = false := by kernel_rfl)(i : fo (lT tb) c = true := by kernel_rfl)(j : A.length + (a.ntmps - A.length) = n := by rfl) : ar Tryz.prog f sh A k rcs := NQ d h e i j b g
theorem fM(n : Nat){f : Nat}{a : Func}{c : Code}{sh : Bool}{A B : List MA}{k : Kd}{rcs : List C}(mo : List (Nat × List Nat))(tb : List (Nat × Nat × List Nat))(b : List (Nat × Nat))(g : Tryz.prog.funcs[f]? = some a)(h : a.body = some c)(i : ∀(u : Nat -> Nat -> Value)(p : Nat -> Value), aw Tryz.prog TE ⟨n, Fx p 0 A, mo⟩ (DF Tryz.prog TE ⟨n, Fx p 0 A, mo⟩ tb) c (Ni TE a.results.toList k rcs u A B b) (lay (uK u 0 A)))(d : sh = true \/ gh rcs := by exact .inr ⟨trivial, trivial⟩)(j : (a.name == "runtime.NumGoroutine") = false := by kernel_rfl)(l : fo (lT tb) c = true := by kernel_rfl)(o : A.length + (a.ntmps - A.length) = n := by rfl)(e : D6 (BL 0 A b) = true := by rfl) : aS Tryz.prog f sh A B k rcs := NU b g j h l o e d i
section
variable{α:Type}{l:List α}{p:α->Bool}{i:Nat}{x:α}
theorem cz(h:l[i]? = some x)(a:(l.take i).all p=true)(b:p x=true):(l.take (i+1)).all p=true:=by
 rw[Q4,h,List.all_append,a];simp[b]
theorem dN(h:l[i]? = some x)(a:p x=false):l.all p=false:=by
 rw[List.all_eq_false];exact⟨x,Q1 h,by simp[a]⟩
theorem fV(a:l.length<=i)(b:(l.take i).all p=true):l.all p=true:=by
 rwa [Q5 a]at b
end
theorem tR{α β:Type}{a:List α}{b:List β}{i:Nat}{x:α}{y:β}(h1:a[i]? = some x)(c:b[i]? = some y):(a.zip b)[i]? = some (x,y):=by
 rw[List.getElem?_zip_eq_some];exact⟨h1,c⟩
def nth{α:Type}[Inhabited α](xs:List α)(i:Nat):α:=xs.getD i default
theorem ah{α:Type}[Inhabited α]{xs:List α}{i:Nat}(h:i<xs.length):xs[i]? = some (nth xs i):=by
 unfold nth;rw[Z1,U1 h];rfl
theorem br{α:Type}[Inhabited α]{xs:List α}{i:Nat}{y:α}(h:xs[i]? = some y):nth xs i=y:=by
 unfold nth;rw[Z1,h];rfl
theorem am{α:Type}[Inhabited α]{xs:List α}{i:Nat}(h:i<xs.length):nth xs i∈xs:=Q1 (ah h)
def cC(n:Nat)(p:Nat->Bool):Bool:=(List.range n).all p
theorem cr{n:Nat}{p:Nat->Bool} : cC n p=true↔∀j,j<n->p j=true:=by
 unfold cC;simp
theorem bJ{n:Nat}{p:Nat->Bool}(h:cC n p=true)(a:p n=true):cC (n+1) p=true:=by
 rw[cr]at *;grind
theorem cb{n i:Nat}{p:Nat->Bool}(a:i<n)(b:p i=false):cC n p=false:=by
 by_cases h:cC n p=true
 ·rw[cr]at h;grind
 ·simpa using h
theorem d8{n i:Nat}{p:Nat->Bool}(h:cC n p=true)(a:i<n):p i=true:=cr.1 h i a
def gV(u:Bool)(v:Int):Bool:=decide (0<=v/\v<=999)&&(u || decide (v=0))
def gp(r:List Int)(u:Bool):Bool:=decide (r.length=16)&&r.all (gV u)
def cZ(f:aV):Bool:=decide (1<=f.Cells.length/\f.Cells.length<=32)&&(decide (f.Used.length=f.Cells.length)&&(f.Cells.zip f.Used).all λq=>gp q.1 q.2)
theorem gL{f:aV}{i:Nat}{r:List Int}{u:Bool}(h1:f.Cells[i]? = some r)(a:f.Used[i]? = some u)(b:gp r u=false):cZ f=false:=by
 unfold cZ;rw[dN (p:=λq=>gp q.1 q.2) (tR h1 a) b];simp
theorem qi{r:List Int}{u:Bool}{k:Nat}{v:Int}(h1:r[k]? = some v)(a:gV u v=false):gp r u=false:=by
 unfold gp;rw[dN h1 a];simp
theorem zw{f:aV}(h:cZ f=true):1<=f.Cells.length/\f.Cells.length<=32/\f.Used.length=f.Cells.length:=by
 unfold cZ at h;simp only[I0,C0]at h;exact⟨h.1.1,h.1.2,h.2.1⟩
def je(a:Int)(e:aZ):Bool:=decide (0<=e.Mode/\e.Mode<=2/\(e.Mode=0->e.Frame=0)/\(e.Mode≠0->0<=e.Frame/\e.Frame<a))
def fA(t:aG)(a:Int):Bool:=cC t.Entries.length (λi=>je a (nth t.Entries i))&&decide (1<=t.Entries.length/\t.Entries.length<=32)
def HF(t:aG)(f:Int)(i:Nat):Bool:=decide ((nth t.Entries i).Mode≠0/\(nth t.Entries i).Frame=f)
def iK(t:aG)(f:Int)(n:Nat):List Int:=((List.range n).filter (HF t f)).map λ(i:Nat)=>(i:Int)
def pagesOn(t:aG)(f:Int):List Int:=iK t f t.Entries.length
theorem xV{t:aG}{f:Int}{n:Nat}(h:HF t f n=true):iK t f (n+1)=iK t f n++[(n:Int)]:=by
 unfold iK;rw[List.range_succ,List.filter_append,T4];simp[h]
theorem Bd{t:aG}{f:Int}{n:Nat}(h:HF t f n=false):iK t f (n+1)=iK t f n:=by
 unfold iK;rw[List.range_succ,List.filter_append,T4];simp[h]
theorem ri(t:aG)(f:Int)(n:Nat):(iK t f n).length<=n:=by
 unfold iK;rw[W0];exact t4 (List.length_filter_le ..) (by simp)
def ao(t:aG)(p:Int):aZ:=if 0<=p/\p<t.Entries.length then nth t.Entries p.toNat else⟨0,0⟩
def m9(m:aJ)(i:Nat):Bool:=nth m.Frames.Used i == decide (0<(pagesOn m.Table (i:Int)).length)
def cK(m:aJ):Bool:=(cZ m.Frames&&fA m.Table m.Frames.Used.length)&&cC m.Frames.Used.length (m9 m)
def aA(k:af):Bool:=(cC k.Refuse.length (λi=>decide (0<=nth k.Refuse i))&&cK k.Machine)&&decide (0<=k.Calls/\k.Calls<=100000/\k.Refuse.length<=40)
def rangeIn(pages:Int)(r:a7):Bool:=decide (1<=r.Len/\r.Len<=pages/\0<=r.At/\r.At<=pages - r.Len)
def f7(pages:Int)(xs:List a7)(i:Nat):Bool:=rangeIn pages (nth xs i)&&decide (i=0\/(nth xs (i - 1)).At+(nth xs (i - 1)).Len<(nth xs i).At)
def bv(pages:Int)(xs:List a7):Bool:=cC xs.length (f7 pages xs)&&decide (1<=pages/\pages<=32)
def pB(page:Int)(r:a7):Bool:=decide (r.At<=page)&&decide (page<IntKind.i64.wrap (r.At+r.Len))
def lim(k:Int):Int:=if k=0 then 65535 else if k=1 then 255 else if k=2 then 15 else if k=3 then 3 else 0
def slots(k:Int):Int:=if k=0 then 16 else if k=1 then 8 else if k=2 then 4 else if k=3 then 2 else 0
def bg(s:au):Bool:=decide (0<=s.Page/\s.Page<=31/\0<=s.Class/\s.Class<=3/\0<=s.Bits/\s.Bits<=lim s.Class)
def eD(n:Int):Int:=if 9<=n/\n<=1000 then(n+15) / 16 else 0
def bR(l:a8):Bool:=decide (9<=l.Size/\l.Size<=1000/\l.Pages=(l.Size+15) / 16/\0<=l.Page/\l.Page<=32 - l.Pages)
def lpgs(l:a8)(n:Nat):List Int:=(List.range n).map λ(i:Nat)=>l.Page+i
def pgs(sp:List au)(la:List a8):List Int:=sp.map (·.Page)++la.flatMap λl=>lpgs l l.Pages.toNat
def bj(sp:List au)(la:List a8):Bool:=(sp.all bg&&la.all bR)&&decide (pgs sp la).Nodup
def cA(s:au)(a:Int):Bool:=bg s&&decide (16*s.Page<=a/\a<=16*s.Page+15)
def aY(b i:Int):Bool:=decide (0<=b/\0<=i/\i<=15/\b / 2 ^ i.toNat % 2=1)
def bx(l:a8)(a:Int):Bool:=bR l&&decide (16*l.Page<=a/\a<=16*l.Page+l.Size - 1)
def csz(k:Int):Int:=if 0<=k/\k<=3 then 2 ^ k.toNat else 0
def gR(s:au)(a:Int):Int × Int:=if cA s a then((a - 16*s.Page) / csz s.Class,(a - 16*s.Page) % csz s.Class) else(-1,-1)
def ou(i:Nat)(s:au)(a:Int):i7:=⟨if aY s.Bits ((a - 16*s.Page) / csz s.Class) then 1 else 2,i,(a - 16*s.Page) / csz s.Class,(a - 16*s.Page) % csz s.Class⟩
def denotes(sp:List au)(la:List a8)(a:Int):i7:=
 match sp.findIdx? (cA · a) with
 | some i=>ou i (nth sp i) a
 | none=>match la.findIdx? (bx · a) with
  | some i=>⟨3,i,0,a - 16*(nth la i).Page⟩
  | none=>⟨0,0,0,0⟩
theorem tD{α:Type}{pr:α->Bool}{xs:List α}{i:Nat}{y:α}(a:xs[i]? = some y)(b:pr y=true)(c:∀(j:Nat)(z:α),j<i->xs[j]? = some z->pr z=false):xs.findIdx? pr=some i:=by
 obtain⟨d,rfl⟩:=V1.1 a;exact O5.2 ⟨d,b,λj e=>by
   have:=c j _ e (U1 ω);simp[this]⟩
theorem ul{α:Type}{pr:α->Bool}{xs:List α}{i:Nat}(d:xs.length<=i)(b:∀(j:Nat)(z:α),j<i->xs[j]? = some z->pr z=false):xs.findIdx? pr=none:=
 List.findIdx?_eq_none_iff.2 λz c=>by
  obtain⟨j,a⟩:=List.mem_iff_getElem?.1 c;exact b j z (by have:=(V1.1 a).1;omega) a
theorem cY{α:Type}{pr:α->Bool}{xs:List α}{i:Nat}{y:α}(c:xs[i]? = some y)(d:pr y=false)(e:∀(j:Nat)(z:α),j<i->xs[j]? = some z->pr z=false):∀(j:Nat)(z:α),j<i+1->xs[j]? = some z->pr z=false:=by
 intro j z f a;rcases Nat.lt_or_ge j i with b|b
 ·exact e j z b a
 ·obtain rfl:j=i:=ω
  rw[c]at a;cases a;exact d
def di{α:Type}(pr:α->Bool)(xs:List α):Int:=match xs.findIdx? pr with|some i=>(i:Nat)|none=>-1
theorem dB{α:Type}{pr:α->Bool}{xs:List α}{i:Nat}{y:α}(a:xs[i]? = some y)(b:pr y=true)(c:∀(j:Nat)(z:α),j<i->xs[j]? = some z->pr z=false):di pr xs=(i:Nat):=by
 unfold di;rw[tD a b c]
theorem fH{α:Type}{pr:α->Bool}{xs:List α}{i:Nat}(a:xs.length<=i)(b:∀(j:Nat)(z:α),j<i->xs[j]? = some z->pr z=false):di pr xs = -1:=by
 unfold di;rw[ul a b]
theorem kO{α:Type}(pr:α->Bool)(xs:List α):decide (di pr xs≥0)=xs.any pr:=by
 unfold di;cases h:xs.findIdx? pr with
 | none=>
  have:=List.findIdx?_eq_none_iff.1 h;have a:xs.any pr=false:=by rw[List.any_eq_false];intro y b;simp[this y b]
  rw[a];rfl
 | some i=>
  obtain⟨c,d,-⟩:=O5.1 h;have a:xs.any pr=true:=I3.2 ⟨_,List.getElem_mem c,d⟩;rw[a];simp
def meshable(s t:au):Bool:=(bg s&&bg t)&&decide (s.Class=t.Class/\s.Page≠t.Page/\s.Bits.toNat &&& t.Bits.toNat=0)
def lX(n:Int)(p:cQ):Bool:=decide (0<=p.To/\p.To<=n - 1/\0<=p.Addr)
def Mo(z:Int):Bool:=decide (0<=z)
def fW(m:aH)(i:Nat):Bool:=(nth m.Buffers i).all (lX m.Buffers.length)&&(nth m.Inbox i).all Mo
def bp(m:aH):Nat->Int
 | 0=>0
 | i+1=>bp m i+((nth m.Buffers i).length+(nth m.Inbox i).length)
def bD(m:aH):Bool:=(decide (1<=m.Buffers.length/\m.Buffers.length<=4/\m.Inbox.length=m.Buffers.length)&&cC m.Buffers.length (fW m))&&decide (bp m m.Buffers.length<=30)
def aK(m:aH):List Int:=if bD m then(m.Buffers.flatMap λl=>l.map (·.Addr))++m.Inbox.flatten else []
def dD(a:Int)(y:aL):Bool:=decide (y.Addr=a)
def jr(xs:List aL)(i:Nat):Bool:=decide (0<=(nth xs i).Class/\(nth xs i).Class<=3/\0<=(nth xs i).Addr/\0<=(nth xs i).Since/\(i=0\/(nth xs (i - 1)).Since<=(nth xs i).Since))&&!(xs.take i).any (dD (nth xs i).Addr)
def quarCells(xs:List aL):Nat->Int
 | 0=>0
 | i+1=>quarCells xs i+csz (nth xs i).Class
def fx(q:bB):Bool:=cC q.Lst.length (jr q.Lst)&&decide (0<=q.Room/\q.Room<=500/\quarCells q.Lst q.Lst.length<=q.Room)
def mh(xs:List Int)(i:Nat):Bool:=decide (0<=nth xs i/\nth xs i<=15/\(i=0\/nth xs (i - 1)<nth xs i))
def ec(p:cg):Bool:=cC p.Cells.length (mh p.Cells)&&decide (0<=p.Keep/\p.Keep<=31/\0<=p.Move/\p.Move<=31/\p.Keep≠p.Move)
def iP(j:bW):Bool:=ec j.Plan&&decide (0<=j.Phase/\j.Phase<=5/\0<=j.Next/\j.Next<=j.Plan.Cells.length)
def qa(j:bW):Bool:=decide (j.Plan.Keep=0/\j.Plan.Move=0/\j.Plan.Cells.length=0/\j.Phase=0/\j.Next=0)
def aQ(h:ab)(p:Int):List Int:=if(ao h.Kernel.Machine.Table p).Mode=0 then [] else pagesOn h.Kernel.Machine.Table (ao h.Kernel.Machine.Table p).Frame
def iZ(p:Int)(s:au):Bool:=decide (s.Page=p)
def fQ(h:ab)(p:Int):Int:=di (iZ p) h.Spans
def aN(n:Int):Int:=if n<1 then -1 else if n<=1 then 0 else if n<=2 then 1 else if n<=4 then 2 else if n<=8 then 3 else -1
set_option maxRecDepth 20000
set_option maxHeartbeats 2000000
theorem aE(n lo a:Int):ar Tryz.prog 152 false [.val none [I n],.val none [I lo],.val none [I a]] .one [B (decide (lo<=n/\n<=a))]:=by
 refine fO 15 [] Tryz.func152 rfl ?_
 repeat'(first|refine gO ?_|(conv=>whnf);first|with_reducible refine Bf.D (λb=>?_) (λb=>?_))
 all_goals exact T0 (λz=>[B z]) (by simp;try omega)
theorem aM(n lo a:Int):ar Tryz.prog 76 false [.val none [I n],.val none [I lo],.val none [I a]] .one [B (decide (lo<=n/\n<=a))]:=by
 refine fO 15 [] Tryz.func76 rfl ?_
 repeat'(first|refine gO ?_|(conv=>whnf);first|with_reducible refine Bf.D (λb=>?_) (λb=>?_))
 all_goals exact T0 (λz=>[B z]) (by simp;try omega)
theorem eP(k:Int):ar Tryz.prog 167 false [.val none [I k]] .one [B (decide (0<=k/\k<=3))]:=by
 refine fO 5 [] Tryz.func167 rfl ?_
 repeat'(first|refine gO ?_|(conv=>whnf);first|refine C6 (aM k 0 3) ?_)
 rfl
theorem eC(k:Int):ar Tryz.prog 89 false [.val none [I k]] .one [I (csz k)]:=by
 by_cases b:0<=k/\k<=3
 ·obtain rfl|rfl|rfl|rfl:k=0\/k=1\/k=2\/k=3:=ω
  all_goals
   refine fO 8 [] Tryz.func89 rfl ?_
   repeat'(first|refine gD ?_|(conv=>whnf);first|with_reducible refine Bf.D (λa=>?_) (λa=>?_)|refine C6 (eP _) ?_|refine CK (by decide) ?_|refine CI rfl ?_)
   exact T0 (λz=>[I z]) (by decide)
 ·refine fO 8 [] Tryz.func89 rfl ?_
  repeat'(first|refine gD ?_|(conv=>whnf);first|with_reducible refine Bf.D (λa=>?_) (λa=>?_)|refine C6 (eP _) ?_)
  exact T0 (λz=>[I z]) (by unfold csz;rw[C7 b])
theorem dt(k:Int):ar Tryz.prog 274 false [.val none [I k]] .one [I (csz k)]:=by
 by_cases b:0<=k/\k<=3
 ·obtain rfl|rfl|rfl|rfl:k=0\/k=1\/k=2\/k=3:=ω
  all_goals
   refine fO 9 [] Tryz.func274 rfl ?_
   repeat'(first|refine gD ?_|(conv=>whnf);first|with_reducible refine Bf.D (λa=>?_) (λa=>?_)|refine C6 (aE _ 0 3) ?_|refine CK (by decide) ?_|refine CI rfl ?_)
   exact T0 (λz=>[I z]) (by decide)
 ·refine fO 9 [] Tryz.func274 rfl ?_
  repeat'(first|refine gD ?_|(conv=>whnf);first|with_reducible refine Bf.D (λa=>?_) (λa=>?_)|refine C6 (aE _ 0 3) ?_)
  exact T0 (λz=>[I z]) (by unfold csz;rw[C7 b])
theorem lg(xs:List Int)(a:Int)(j:xs.length<=9223372036854775807):ar Tryz.prog 268 false [.val none (aD .imm xs),.val none [I a]] .one [B (decide (a∈xs))]:=by
 refine fO 18 [] Tryz.func268 rfl ?_
 repeat'(first|refine gO ?_|fail)
 (conv=>whnf)
 refine CC (ι:=Nat) (λi=>[(0,.hold .one (aD .imm xs)),(1,.hold .one [I a]),(5,.hold .one [I (i:Nat)])]) (λi=>i<=xs.length/\a∉xs.take i) (λi=>xs.length - i) 0 ?_ ⟨R0 _,by simp⟩ λi g=>?_
 ·exact wB
 ·obtain⟨g,b⟩:=g
  by_cases c:i<xs.length
  ·obtain⟨y,d⟩ : ∃y,xs[i]? = some y:=⟨_,U1 c⟩
   repeat'(first|refine gD ?_|(conv=>whnf);first|with_reducible (first|refine CA (aa d) ?_|refine Bf.E (λh=>?_) (λh=>?_)))
   ·exact T0 (λz=>[B z]) (by symm;simp;rw[<-‹y=a›];exact Q1 d)
   ·(conv=>whnf)
    refine CB (i+1) ⟨ω,?_⟩ ω ?_
    ·rw[Q4,d]
     simp only[Option.toList_some,O2,Z0,not_or];exact⟨b,λe=>‹y≠a› e.symm⟩
    ·exact wB
  ·repeat'(first|refine gD ?_|fail)
   rw[Q5 ω]at b;exact T0 (λz=>[B z]) (by symm;simpa using b)
set_option maxHeartbeats 4000000
def good(k:Int)(s:List Int)(a:Int):Prop:=0<=a/\a<=511/\a.tmod (csz k)=0/\a∉s
instance (k:Int) (s:List Int) (a:Int):Decidable (good k s a):=by unfold good;exact inferInstance
def pI(k:Int):List Int->List Int->Option (List Int)
 | s,[]=>some s
 | s,a::l=>if good k s a then pI k (s++[a]) l else none
def dK(k:Nat)(s l:List Int):Option (List Int):=if l.length<=8/\k<=3 then pI k s l else none
def fC:Nat->List Int->List (List Int)->Option (List Int)
 | _,s,[]=>some s
 | k,s,l::ls=>(dK k s l).bind λa=>fC (k+1) a ls
def bt(c:aC):Bool:=decide (c.Lists.length=4)&&(fC 0 [] c.Lists).isSome
theorem pG(k:Int):∀(a s b:List Int),pI k s (a++b)=(pI k s a).bind λc=>pI k c b
 | [],s,b=>rfl
 | x::a,s,b=>by
  simp only[List.cons_append,pI];split
  ·exact pG k a _ b
  ·rfl
theorem n9:∀(a:List (List Int))(k:Nat)(s:List Int)(b:List (List Int)),fC k s (a++b)=(fC k s a).bind λc=>fC (k+a.length) c b
 | [],k,s,b=>rfl
 | l::a,k,s,b=>by
  simp only[List.cons_append,fC,Option.bind_assoc,List.length_cons]
  congr 1;funext c
  rw[n9 a (k+1) c b,show k+1+a.length=k+(a.length+1) by omega]
theorem FS{k:Int}{l b s:List Int}{j:Nat}{a:Int}(c:l[j]? = some a)(h:pI k b (l.take j)=some s)(d:good k s a):pI k b (l.take (j+1))=some (s++[a]):=by
 rw[Q4,c,Option.toList_some,pG,h];simp[pI,d]
theorem JJ{k:Nat}{l c s:List Int}{j:Nat}{a:Int}(d:l[j]? = some a)(h:pI k c (l.take j)=some s)(e:¬good k s a):dK k c l=none:=by
 unfold dK;split
 ·have:l=l.take j++(a::l.drop (j+1)):=by
   obtain⟨b,rfl⟩:=V1.1 d;rw[<-List.drop_eq_getElem_cons b,List.take_append_drop]
  rw[this,pG,h];simp[pI,e]
 ·rfl
theorem yH{k:Int} : ∀{l s b:List Int},pI k s l=some b->b.length=s.length+l.length
 | [],s,b,h=>by simp only[pI,U0]at h;subst h;simp
 | a::l,s,b,h=>by
  simp only[pI]at h;split at h
  ·have:=yH h;simp at this |-;omega
  ·cases h
theorem r6{a:List (List Int)}{i:Nat}{l s:List Int}(b:a[i]? = some l)(h:fC 0 [] (a.take i)=some s):fC 0 [] (a.take (i+1))=dK i s l:=by
 have c:=(V1.1 b).1;rw[Q4,b,Option.toList_some,n9,h];simp only[Option.bind_some,fC,I5,I1,Nat.min_eq_left (Nat.le_of_lt c)];cases dK i s l<;>rfl
theorem jR{c:aC}{i:Nat}{l s:List Int}(b:c.Lists[i]? = some l)(h:fC 0 [] (c.Lists.take i)=some s)(d:dK i s l=none):bt c=false:=by
 have a:=r6 b h;rw[d]at a;have e:fC 0 [] c.Lists=none:=by
  rw[<-List.take_append_drop (i+1) c.Lists,n9,a];rfl
 unfold bt;rw[e];simp
theorem BJ:∀{b:List (List Int)}{k:Nat}{s a:List Int},fC k s b=some a->a.length<=s.length+8*b.length
 | [],k,s,a,h=>by simp only[fC,U0]at h;subst h;simp
 | l::b,k,s,a,h=>by
  simp only[fC]at h;unfold dK at h;split at h
  ·cases c:pI k s l with
   | none=>rw[c]at h;cases h
   | some d=>
    rw[c]at h;have e:=yH c;have f:=BJ (show fC (k+1) d b=some a from h);simp only[List.length_cons];omega
  ·cases h
theorem Ky{i:Nat}(h:i<=3):csz (i:Int)≠0:=by
 obtain rfl|rfl|rfl|rfl:i=0\/i=1\/i=2\/i=3:=ω
 all_goals decide
theorem cq{l:List Int} : ∀r∈l.map (rI .own),r.length=1:=by
 intro r a;obtain⟨z,-,rfl⟩:=U3.1 a;rfl
theorem mj(c:aC)(u:aC.sml c):ar Tryz.prog 208 false [.val (some 1) (aC.enc .imm c)] .one [B (bt c)]:=by
 have H:=u.1;refine fO 60 [] Tryz.func208 rfl ?_
 repeat'(first|refine gO ?_|(conv=>whnf);first|with_reducible refine Bf.N (λe=>?_) (λe=>?_))
 ·exact T0 (λz=>[B z]) (by symm;unfold bt;rw[Q0 ω];rfl)
 have w:c.Lists.length=4:=ω
 (conv=>whnf)
 refine CC (ι:=Nat × List Int) (λi=>[(1,.hold .box (aC.enc .imm c)),(3,.hold .one (aD .own i.2)),(4,.hold .one [I (i.1:Nat)])]) (λi=>i.1<=4/\fC 0 [] (c.Lists.take i.1)=some i.2) (λi=>4 - i.1) (0,[]) ?_ ⟨R0 _,rfl⟩ λi k=>?_
 ·exact wB
 ·obtain⟨i,s⟩:=i
  obtain⟨k,b⟩:=k;simp only at k b |-;have g:=BJ b;rw[I1]at g;simp only[List.length_nil]at g;by_cases E:i<4
  ·obtain⟨l,d⟩ : ∃l,c.Lists[i]? = some l:=⟨_,U1 ω⟩
   have F:l.length<=1048576:=u.2 l (Q1 d)
   repeat'(first|refine gD ?_|(conv=>whnf);first|with_reducible (first|refine CA (aa d) ?_|refine Bf.D (λe=>?_) (λe=>?_)))
   ·exact T0 (λz=>[B z]) (jR d b (by unfold dK;rw[C7 ω])).symm
   have n:l.length<=8:=ω
   (conv=>whnf)
   refine CC (ι:=Nat × List Int) (λj=>[(1,.hold .box (aC.enc .imm c)),(3,.hold .one (aD .own j.2)),(4,.hold .one [I (i:Nat)]),(5,.hold .one [I (j.1:Nat)])]) (λj=>j.1<=l.length/\pI i s (l.take j.1)=some j.2) (λj=>l.length - j.1) (0,s) ?_ ⟨R0 _,rfl⟩ λj o=>?_
   ·exact wB
   ·obtain⟨j,p⟩:=j
    obtain⟨o,a⟩:=o;simp only at o a |-;have h:=yH a;rw[I1]at h;by_cases q:j<l.length
    ·obtain⟨y,t⟩ : ∃y,l[j]? = some y:=⟨_,U1 q⟩
     repeat'(first|refine gD ?_|(conv=>whnf);first|with_reducible (first|refine CA (aa d) ?_|refine CA (aa t) ?_|refine Bf.D (λe=>?_) (λe=>?_)|refine Bf.N (λe=>?_) (λe=>?_))|refine C6 (aE y 0 511) ?_|refine C6 (dt (i:Nat)) ?_|refine CK (Ky ω) ?_|refine CM rfl ?_|refine CE (lg p y ω) ⟨⟨rfl,dS _⟩,⟨rfl,rfl⟩,trivial⟩ ?_|refine CQ cq (λr G=>by rw[Z0.1 G];rfl) (by simp[aW,dz]) (by simp;omega) (by simp only[W0];exact wY (by simp;omega) (by decide)) rfl ?_)
     all_goals first
      | exact T0 (λz=>[B z]) (jR d b (JJ t a λ⟨J,K,L,M⟩=>by first|contradiction|omega)).symm
      | ((conv=>whnf)
         refine CB (j+1,p++[y]) ⟨(by simp only;omega),FS t a ⟨ω,ω,(by assumption),(by assumption)⟩⟩ (by simp only;omega) ?_
         (repeat'(first|exact trivial|rfl|exact CH rfl (CH (T0 (C.s dy.own) (by simp[rI])) trivial)|refine CH ?_ ?_)))
    ·repeat'(first|refine gD ?_|(conv=>whnf);first|with_reducible refine CA (aa d) ?_)
     (conv=>whnf)
     rw[Q5 ω]at a;refine CB (i+1,p) ⟨(by simp only;omega),(by rw[r6 d b];unfold dK;rw[C8 ⟨n,ω⟩];exact a)⟩ (by simp only;omega) ?_;exact wB
  ·repeat'(first|refine gD ?_|fail)
   rw[Q5 ω]at b;exact T0 (λz=>[B z]) (by symm;unfold bt;rw[b,O0 w];rfl)
def eG(s:List Int):List (Int × Value):=s.map λa=>(a,.bool true)
theorem mi(a:Int):∀(s:List Int),mlook (eG s) a (.bool false)=.bool (decide (a∈s))
 | []=>by simp[eG,mlook]
 | x::s=>by
  have b:=mi a s;simp only[eG,V4,mlook]at b |-;by_cases h:x=a
  ·rw[C8 h];simp[h]
  ·rw[C7 h,b]
   congr 1
   simp[show ¬a=x from λe=>h e.symm]
theorem rj{a:Int} : ∀{s:List Int},a∉s->eG (s++[a])=mput (eG s) a (.bool true)
 | [],_=>rfl
 | x::s,h=>by
  simp only[List.mem_cons,not_or]at h;have b:=rj h.2;simp only[eG,List.cons_append,V4,mput]at b |-;rw[C7 λe=>h.1 e.symm,b]
theorem Ao(c:aC)(u:aC.sml c):ar Tryz.prog 72 false [.val (some 1) (aC.enc .imm c)] .one [B (bt c)]:=by
 have C:=u.1;refine fO 54 [] Tryz.func72 rfl ?_
 repeat'(first|refine gO ?_|fail)
 (conv=>whnf)
 refine CC (ι:=Nat × List Int) (λi=>[(1,.hold .box (aC.enc .imm c)),(3,.hold .one [.m (eG i.2)]),(10,.hold .one (fJ .imm c.Lists)),(11,.hold .one [I c.Lists.length]),(12,.hold .one [I (i.1:Nat)])]) (λi=>i.1<=c.Lists.length/\fC 0 [] (c.Lists.take i.1)=some i.2) (λi=>c.Lists.length - i.1) (0,[]) ?_ ⟨R0 _,rfl⟩ λi h=>?_
 ·exact wB
 ·obtain⟨i,s⟩:=i
  obtain⟨h,b⟩:=h;simp only at h b |-;by_cases k:i<c.Lists.length
  ·obtain⟨l,d⟩ : ∃l,c.Lists[i]? = some l:=⟨_,U1 k⟩
   have w:l.length<=1048576:=u.2 l (Q1 d)
   repeat'(first|refine gD ?_|(conv=>whnf);first|with_reducible (first|refine CA (aa d) ?_|refine Bf.D (λe=>?_) (λe=>?_))|refine C6 (eP (i:Nat)) ?_)
   ·exact T0 (λz=>[B z]) (jR d b (by unfold dK;rw[C7 ω])).symm
   rotate_left
   ·exact T0 (λz=>[B z]) (jR d b (by unfold dK;rw[C7 ω])).symm
   have n:l.length<=8:=ω
   have o:i<=3:=ω
   (conv=>whnf)
   refine CC (ι:=Nat × List Int) (λj=>[(1,.hold .box (aC.enc .imm c)),(3,.hold .one [.m (eG j.2)]),(4,.hold .one [I (i:Nat)]),(10,.hold .one (fJ .imm c.Lists)),(11,.hold .one [I c.Lists.length]),(12,.hold .one [I (i:Nat)]),(25,.hold .one (aD .imm l)),(26,.hold .one [I l.length]),(27,.hold .one [I (j.1:Nat)])]) (λj=>j.1<=l.length/\pI i s (l.take j.1)=some j.2) (λj=>l.length - j.1) (0,s) ?_ ⟨R0 _,rfl⟩ λj p=>?_
   ·exact wB
   ·obtain⟨j,q⟩:=j
    obtain⟨p,a⟩:=p;simp only at p a |-;by_cases r:j<l.length
    ·obtain⟨y,t⟩ : ∃y,l[j]? = some y:=⟨_,U1 r⟩
     repeat'(first|refine gD ?_|(conv=>whnf);first|with_reducible (first|refine CA (aa d) ?_|refine CA (aa t) ?_|refine Bf.D (λe=>?_) (λe=>?_)|refine Bf.N (λe=>?_) (λe=>?_))|refine C6 (aM y 0 511) ?_|refine C6 (eC (i:Nat)) ?_|refine CK (Ky ω) ?_|refine CM rfl ?_|refine Ml.mk (mi y q) ?_|refine Mu.mk (rj (by assumption)) ?_)
     all_goals first
      | exact T0 (λz=>[B z]) (jR d b (JJ t a λ⟨E,F,G,H⟩=>by first|contradiction|omega)).symm
      | ((conv=>whnf)
         refine CB (j+1,q++[y]) ⟨(by simp only;omega),FS t a ⟨ω,ω,(by assumption),(by assumption)⟩⟩ (by simp only;omega) ?_
         (exact wA))
    ·repeat'(first|refine gD ?_|fail)
     (conv=>whnf)
     rw[Q5 ω]at a;refine CB (i+1,q) ⟨(by simp only;omega),(by rw[r6 d b];unfold dK;rw[C8 ⟨n,o⟩];exact a)⟩ (by simp only;omega) ?_;exact wB
  ·repeat'(first|refine gD ?_|fail)
   rw[Q5 ω]at b;have g:((c.Lists.length:Int) == 4)=decide (c.Lists.length=4):=by
    by_cases g:c.Lists.length=4
    ·simp[g]
    ·rw[Q0 g];simp;omega
   exact T0 (λz=>[B z]) (g.trans (by unfold bt;rw[b];simp))
theorem Ge:∀{b:List (List Int)}{k:Nat}{s c:List Int},fC k s b=some c->∀l∈b,l.length<=8
 | [],k,s,c,h,l,a=>by simp at a
 | x::b,k,s,c,h,l,a=>by
  simp only[fC]at h;unfold dK at h;split at h
  ·rename_i e
   rcases List.mem_cons.1 a with rfl|a
   ·exact e.1
   ·cases d:pI k s x with
    | none=>rw[d]at h;cases h
    | some f=>rw[d]at h;exact Ge (show fC (k+1) f b=some c from h) l a
  ·cases h
theorem rZ{c:aC}(h:bt c=true):c.Lists.length=4/\∀l∈c.Lists,l.length<=8:=by
 unfold bt at h;simp only[I0,C0]at h;obtain⟨s,a⟩:=Option.isSome_iff_exists.1 h.2;exact⟨h.1,Ge a⟩
theorem xt(f:aV)(n:aV.sml f):ar Tryz.prog 63 false [.val (some 2) (aV.enc .imm f)] .one [B (cZ f)]:=by
 have C:=n.1.1;have E:f.Used.length<=1048576:=n.2;refine fO 61 [] Tryz.func63 rfl ?_
 repeat'(first|refine gO ?_|(conv=>whnf);first|with_reducible (first|refine Bf.D (λa=>?_) (λa=>?_)|refine Bf.N (λa=>?_) (λa=>?_))|refine C6 (aE f.Cells.length 1 32) ?_)
 ·exact T0 (λz=>[B z]) (by symm;unfold cZ;rw[Q0 (by omega:¬(f.Used.length=f.Cells.length))];simp)
 rotate_left
 ·exact T0 (λz=>[B z]) (by symm;unfold cZ;rw[Q0 (by omega:¬(1<=f.Cells.length/\f.Cells.length<=32))];rfl)
 have h:1<=f.Cells.length/\f.Cells.length<=32:=ω
 have j:f.Used.length=f.Cells.length:=ω
 (conv=>whnf)
 refine CC (ι:=Nat) (λi=>[(1,.hold .box (aV.enc .imm f)),(3,.hold .one [I (i:Nat)])]) (λi=>i<=f.Cells.length/\((f.Cells.zip f.Used).take i).all (λq=>gp q.1 q.2)=true) (λi=>f.Cells.length - i) 0 ?_ ⟨R0 _,rfl⟩ λi o=>?_
 ·exact wB
 ·obtain⟨o,t⟩:=o
  by_cases l:i<f.Cells.length
  ·obtain⟨r,c⟩ : ∃r,f.Cells[i]? = some r:=⟨_,U1 l⟩
   obtain⟨u,b⟩ : ∃u,f.Used[i]? = some u:=⟨_,U1 ω⟩
   repeat'(first|refine gD ?_|(conv=>whnf);first|with_reducible (first|refine CA (aa c) ?_|refine Bf.N (λa=>?_) (λa=>?_)))
   ·exact T0 (λz=>[B z]) (gL c b (by unfold gp;rw[Q0 ω];rfl)).symm
   have g:r.length=16:=ω
   (conv=>whnf)
   refine CC (ι:=Nat) (λk=>[(1,.hold .box (aV.enc .imm f)),(3,.hold .one [I (i:Nat)]),(4,.hold .one [I (k:Nat)])]) (λk=>k<=16/\(r.take k).all (gV u)=true) (λk=>16 - k) 0 ?_ ⟨R0 _,rfl⟩ λk w=>?_
   ·exact wB
   ·obtain⟨w,d⟩:=w
    by_cases y:k<16
    ·obtain⟨v,e⟩ : ∃v,r[k]? = some v:=⟨_,U1 ω⟩
     cases u with
     | true=>
      repeat'(first|refine gD ?_|(conv=>whnf);first|with_reducible (first|refine CA (aa c) ?_|refine CA (aa b) ?_|refine CA (aa e) ?_|refine Bf.D (λa=>?_) (λa=>?_)|refine Bf.N (λa=>?_) (λa=>?_))|refine C6 (aE v 0 999) ?_)
      all_goals first
       | exact T0 (λz=>[B z]) (gL c b (qi e (by first|(unfold gV;rw[Q0 ω];rfl)|(unfold gV;rw[Q0 (p:=v=0) ω];simp)))).symm
       | ((conv=>whnf)
          refine CB (ι:=Nat) (k+1) ⟨ω,cz e d (by unfold gV;first|(rw[O0 ω];rfl)|(rw[O0 (p:=0<=v/\v<=999) ω,O0 (p:=v=0) ω];rfl))⟩ ω ?_
          (exact wA))
     | false=>
      repeat'(first|refine gD ?_|(conv=>whnf);first|with_reducible (first|refine CA (aa c) ?_|refine CA (aa b) ?_|refine CA (aa e) ?_|refine Bf.D (λa=>?_) (λa=>?_)|refine Bf.N (λa=>?_) (λa=>?_))|refine C6 (aE v 0 999) ?_)
      all_goals first
       | exact T0 (λz=>[B z]) (gL c b (qi e (by first|(unfold gV;rw[Q0 ω];rfl)|(unfold gV;rw[Q0 (p:=v=0) ω];simp)))).symm
       | ((conv=>whnf)
          refine CB (ι:=Nat) (k+1) ⟨ω,cz e d (by unfold gV;first|(rw[O0 ω];rfl)|(rw[O0 (p:=0<=v/\v<=999) ω,O0 (p:=v=0) ω];rfl))⟩ ω ?_
          (exact wA))
    ·repeat'(first|refine gD ?_|fail)
     (conv=>whnf)
     refine CB (i+1) ⟨ω,cz (tR c b) t (by unfold gp;rw[fV ω d];simp[g])⟩ ω ?_;exact wB
  ·repeat'(first|refine gD ?_|fail)
   exact T0 (λz=>[B z]) (by symm;unfold cZ;rw[fV (by rw[List.length_zip];omega) t];simp[h,j])
theorem wR(f:aV)(h:aV.sml f):ar Tryz.prog 153 false [.val (some 2) (aV.enc .imm f)] .one [B (cZ f)]:=by
 have C:=h.1.1;have E:f.Used.length<=1048576:=h.2;refine fO 55 [] Tryz.func153 rfl ?_
 repeat'(first|refine gO ?_|(conv=>whnf);first|with_reducible (first|refine Bf.D (λa=>?_) (λa=>?_)|refine Bf.N (λa=>?_) (λa=>?_))|refine C6 (aM f.Cells.length 1 32) ?_)
 ·exact T0 (λz=>[B z]) (by symm;unfold cZ;rw[Q0 (by omega:¬(f.Used.length=f.Cells.length))];simp)
 rotate_left
 ·exact T0 (λz=>[B z]) (by symm;unfold cZ;rw[Q0 (by omega:¬(1<=f.Cells.length/\f.Cells.length<=32))];rfl)
 have j:1<=f.Cells.length/\f.Cells.length<=32:=ω
 have l:f.Used.length=f.Cells.length:=ω
 (conv=>whnf)
 refine CC (ι:=Nat) (λi=>[(1,.hold .box (aV.enc .imm f)),(22,.hold .one (fJ .imm f.Cells)),(23,.hold .one [I (f.Cells.length)]),(24,.hold .one [I ((i:Nat):Int)])]) (λi=>i<=f.Cells.length/\((f.Cells.zip f.Used).take i).all (λq=>gp q.1 q.2)=true) (λi=>f.Cells.length - i) (0) ?_ (⟨R0 _,rfl⟩) λi o=>?_
 ·exact wB
 obtain⟨o,p⟩:=o;by_cases n:i<f.Cells.length
 ·obtain⟨r,c⟩ : ∃r,f.Cells[i]? = some r:=⟨_,U1 n⟩
  obtain⟨u,b⟩ : ∃u,f.Used[i]? = some u:=⟨_,U1 ω⟩
  have y:r.length<=1048576:=h.1.2 r (Q1 c)
  repeat'(first|refine gD ?_|(conv=>whnf);first|with_reducible (first|refine CA (aa c) ?_|refine Bf.N (λa=>?_) (λa=>?_)))
  ·exact T0 (λz=>[B z]) (gL c b (by unfold gp;rw[Q0 ω];rfl)).symm
  have g:r.length=16:=ω
  (conv=>whnf)
  refine CC (ι:=Nat) (λk=>[(1,.hold .box (aV.enc .imm f)),(3,.hold .one [I ((i:Nat):Int)]),(22,.hold .one (fJ .imm f.Cells)),(23,.hold .one [I (f.Cells.length)]),(24,.hold .one [I ((i:Nat):Int)]),(32,.hold .one (aD .imm r)),(33,.hold .one [I (r.length)]),(34,.hold .one [I ((k:Nat):Int)])]) (λk=>k<=r.length/\(r.take k).all (gV u)=true) (λk=>r.length - k) (0) ?_ (⟨R0 _,rfl⟩) λk t=>?_
  ·exact wB
  obtain⟨t,d⟩:=t;by_cases w:k<r.length
  ·obtain⟨v,e⟩ : ∃v,r[k]? = some v:=⟨_,U1 ω⟩
   cases u with
   | true=>
    repeat'(first|refine gD ?_|(conv=>whnf);first|with_reducible (first|refine CA (aa c) ?_|refine CA (aa b) ?_|refine CA (aa e) ?_|refine Bf.D (λa=>?_) (λa=>?_)|refine Bf.N (λa=>?_) (λa=>?_))|refine C6 (aM v 0 999) ?_)
    all_goals first
     | exact T0 (λz=>[B z]) (gL c b (qi e (by unfold gV;grind))).symm
     | ((conv=>whnf)
        refine CB (ι:=Nat) (k+1) ⟨ω,cz e d (by unfold gV;grind)⟩ ω ?_
        (exact wA))
   | false=>
    repeat'(first|refine gD ?_|(conv=>whnf);first|with_reducible (first|refine CA (aa c) ?_|refine CA (aa b) ?_|refine CA (aa e) ?_|refine Bf.D (λa=>?_) (λa=>?_)|refine Bf.N (λa=>?_) (λa=>?_))|refine C6 (aM v 0 999) ?_)
    all_goals first
     | exact T0 (λz=>[B z]) (gL c b (qi e (by unfold gV;grind))).symm
     | ((conv=>whnf)
        refine CB (ι:=Nat) (k+1) ⟨ω,cz e d (by unfold gV;grind)⟩ ω ?_
        (exact wA))
  ·repeat'(first|refine gD ?_|fail)
   (conv=>whnf)
   refine CB (i+1) ⟨ω,cz (tR c b) p (by unfold gp;rw[fV ω d];simp[g])⟩ ω ?_;exact wB
 ·repeat'(first|refine gD ?_|fail)
  exact T0 (λz=>[B z]) (by symm;unfold cZ;rw[fV (by rw[List.length_zip];omega) p];simp[j,l])
theorem zG(t:aG)(b:Int)(g:aG.sml t):ar Tryz.prog 327 false [.val (some 1) (aG.enc .imm t),.val none [I b]] .one [B (fA t b)]:=by
 have k:=g.1;refine fO 54 [] Tryz.func327 rfl ?_
 repeat'(first|refine gO ?_|fail)
 (conv=>whnf)
 refine CC (ι:=Nat) (λi=>[(1,.hold .one [I (b)]),(2,.hold .box (aG.enc .imm t)),(5,.hold .one [I ((i:Nat):Int)])]) (λi=>i<=t.Entries.length/\cC i (λj=>je b (nth t.Entries j))=true) (λi=>t.Entries.length - i) 0 ?_ ⟨R0 _,rfl⟩ λi c=>?_
 ·exact wB
 obtain⟨c,d⟩:=c;by_cases e:i<t.Entries.length
 ·have h:=ah e
  repeat'(first|refine gD ?_|(conv=>whnf);first|with_reducible (first|refine CA (aa h) ?_|refine Bf.D (λa=>?_) (λa=>?_)|refine Bf.N (λa=>?_) (λa=>?_)|refine Bf.E (λa=>?_) (λa=>?_))|refine C6 (aE _ 0 2) ?_)
  all_goals first
   | exact T0 (λz=>[B z]) ((by symm;unfold fA;rw[cb e (Q0 (by grind))];rfl))
   | ((conv=>whnf);refine CB (i+1) ⟨ω,bJ d (O0 (by grind))⟩ ω ?_;(exact wB))
 ·repeat'(first|refine gD ?_|(conv=>whnf);first|refine C6 (aE _ 1 32) ?_)
  obtain rfl:i=t.Entries.length:=ω
  exact T0 (λz=>[B z]) ((by unfold fA;rw[d,Bool.true_and];exact decide_eq_decide.2 ω))
theorem Al(t:aG)(b:Int)(g:aG.sml t):ar Tryz.prog 236 false [.val (some 1) (aG.enc .imm t),.val none [I b]] .one [B (fA t b)]:=by
 have k:=g.1;refine fO 49 [] Tryz.func236 rfl ?_
 repeat'(first|refine gO ?_|fail)
 (conv=>whnf)
 refine CC (ι:=Nat) (λi=>[(1,.hold .one [I (b)]),(2,.hold .box (aG.enc .imm t)),(8,.hold .one (lf .imm t.Entries)),(9,.hold .one [I (t.Entries.length)]),(10,.hold .one [I ((i:Nat):Int)])]) (λi=>i<=t.Entries.length/\cC i (λj=>je b (nth t.Entries j))=true) (λi=>t.Entries.length - i) 0 ?_ ⟨R0 _,rfl⟩ λi c=>?_
 ·exact wB
 obtain⟨c,d⟩:=c;by_cases e:i<t.Entries.length
 ·have h:=ah e
  repeat'(first|refine gD ?_|(conv=>whnf);first|with_reducible (first|refine CA (aa h) ?_|refine Bf.D (λa=>?_) (λa=>?_)|refine Bf.N (λa=>?_) (λa=>?_)|refine Bf.E (λa=>?_) (λa=>?_))|refine C6 (aM _ 0 2) ?_)
  all_goals first
   | exact T0 (λz=>[B z]) ((by symm;unfold fA;rw[cb e (Q0 (by grind))];rfl))
   | ((conv=>whnf);refine CB (i+1) ⟨ω,bJ d (O0 (by grind))⟩ ω ?_;(exact wB))
 ·repeat'(first|refine gD ?_|(conv=>whnf);first|refine C6 (aM _ 1 32) ?_)
  obtain rfl:i=t.Entries.length:=ω
  exact T0 (λz=>[B z]) ((by unfold fA;rw[d,Bool.true_and];exact decide_eq_decide.2 ω))
theorem ge(t:aG)(f:Int)(c:aG.sml t):ar Tryz.prog 111 false [.val (some 1) (aG.enc .imm t),.val none [I f]] .one (aD .own (pagesOn t f)):=by
 have j:=c.1;refine fO 37 [] Tryz.func111 rfl ?_ (.inr (bI _))
 repeat'(first|refine gO ?_|fail)
 (conv=>whnf)
 refine CC (ι:=Nat) (λi=>[(1,.hold .one [I (f)]),(2,.hold .box (aG.enc .imm t)),(5,.hold .one (aD .own (iK t f i))),(6,.hold .one [I ((i:Nat):Int)])]) (λi=>i<=t.Entries.length) (λi=>t.Entries.length - i) (0) ?_ (R0 _) λi k=>?_
 ·exact wB
 have d:=ri t f i;by_cases e:i<t.Entries.length
 ·have g:=ah e
  repeat'(first|refine gD ?_|(conv=>whnf);first|with_reducible (first|refine CA (aa g) ?_|refine Bf.D (λb=>?_) (λb=>?_)|refine Bf.N (λb=>?_) (λb=>?_)|refine Bf.E (λb=>?_) (λb=>?_))|refine CQ cq (λr h=>by rw[Z0.1 h];rfl) (by simp[aW,dz]) (by simp;omega) (by simp only[W0];exact wY (by simp;omega) (by decide)) rfl ?_)
  all_goals first
   |(have a:HF t f i=true:=O0 (by grind)
     (conv=>whnf)
     refine CB (i+1) ω ω ?_;rw[xV a]
     (repeat'(first|exact trivial|rfl|exact CH rfl (CH (T0 (C.s dy.own) (by simp[rI])) trivial)|refine CH ?_ ?_)))
   |(have a:HF t f i=false:=Q0 (by grind)
     (conv=>whnf)
     refine CB (i+1) ω ω ?_;rw[Bd a]
     (exact wA))
 ·repeat'(first|refine gD ?_|fail)
  obtain rfl:i=t.Entries.length:=ω
  rfl
theorem qq(t:aG)(f:Int)(c:aG.sml t):ar Tryz.prog 98 false [.val (some 1) (aG.enc .imm t),.val none [I f]] .one (aD .own (pagesOn t f)):=by
 have j:=c.1;refine fO 32 [] Tryz.func98 rfl ?_ (.inr (bI _))
 repeat'(first|refine gO ?_|fail)
 (conv=>whnf)
 refine CC (ι:=Nat) (λi=>[(1,.hold .one [I (f)]),(5,.hold .one (aD .own (iK t f i))),(10,.hold .one (lf .imm t.Entries)),(11,.hold .one [I (t.Entries.length)]),(12,.hold .one [I ((i:Nat):Int)])]) (λi=>i<=t.Entries.length) (λi=>t.Entries.length - i) (0) ?_ (R0 _) λi k=>?_
 ·exact wB
 have d:=ri t f i;by_cases e:i<t.Entries.length
 ·have g:=ah e
  repeat'(first|refine gD ?_|(conv=>whnf);first|with_reducible (first|refine CA (aa g) ?_|refine Bf.D (λb=>?_) (λb=>?_)|refine Bf.N (λb=>?_) (λb=>?_)|refine Bf.E (λb=>?_) (λb=>?_))|refine CQ cq (λr h=>by rw[Z0.1 h];rfl) (by simp[aW,dz]) (by simp;omega) (by simp only[W0];exact wY (by simp;omega) (by decide)) rfl ?_)
  all_goals first
   |(have a:HF t f i=true:=O0 (by grind)
     (conv=>whnf)
     refine CB (i+1) ω ω ?_;rw[xV a]
     (repeat'(first|exact trivial|rfl|exact CH rfl (CH (T0 (C.s dy.own) (by simp[rI])) trivial)|refine CH ?_ ?_)))
   |(have a:HF t f i=false:=Q0 (by grind)
     (conv=>whnf)
     refine CB (i+1) ω ω ?_;rw[Bd a]
     (exact wA))
 ·repeat'(first|refine gD ?_|fail)
  obtain rfl:i=t.Entries.length:=ω
  rfl
theorem cM(t:aG)(p:Int)(b:aG.sml t):ar Tryz.prog 110 false [.val (some 1) (aG.enc .imm t),.val none [I p]] .agg (aZ.enc .own (ao t p)):=by
 have d:=b.1;refine fO 18 [] Tryz.func110 rfl ?_ (.inr (aZ.enc_fr _));by_cases a:0<=p/\p<t.Entries.length
 ·have c:=ah (xs:=t.Entries) (i:=p.toNat) ω
  repeat'(first|refine gD ?_|(conv=>whnf);first|refine C6 (aE _ 0 _) ?_|refine CJ a.1 (aa c) ?_)
  all_goals(unfold ao;rw[C8 a];rfl)
 ·repeat'(first|refine gD ?_|(conv=>whnf);first|refine C6 (aE _ 0 _) ?_)
  all_goals(unfold ao;rw[C7 a];rfl)
theorem hC(t:aG)(p:Int)(b:aG.sml t):ar Tryz.prog 97 false [.val (some 1) (aG.enc .imm t),.val none [I p]] .agg (aZ.enc .own (ao t p)):=by
 have d:=b.1;refine fO 18 [] Tryz.func97 rfl ?_ (.inr (aZ.enc_fr _));by_cases a:0<=p/\p<t.Entries.length
 ·have c:=ah (xs:=t.Entries) (i:=p.toNat) ω
  repeat'(first|refine gD ?_|(conv=>whnf);first|refine C6 (aM _ 0 _) ?_|refine CJ a.1 (aa c) ?_)
  all_goals(unfold ao;rw[C8 a];rfl)
 ·repeat'(first|refine gD ?_|(conv=>whnf);first|refine C6 (aM _ 0 _) ?_)
  all_goals(unfold ao;rw[C7 a];rfl)
theorem pE(t:aG)(f:Int):(pagesOn t f).length<=t.Entries.length:=ri ..
theorem na(m:aJ)(b:aJ.sml m):ar Tryz.prog 266 false [.val (some 3) (aJ.enc .imm m)] .one [B (cK m)]:=by
 have q:m.Frames.Used.length<=1048576:=b.1.2;have l:m.Frames.Cells.length<=1048576:=b.1.1.1;have c:=xt m.Frames b.1;have e:=zG m.Table m.Frames.Cells.length b.2;cases a:cZ m.Frames with
 | false=>
  rw[a]at c;refine fO 39 [(6,13,[26,27,28,29,30,31,32,33,34,35,36,37,38])] Tryz.func266 rfl ?_
  repeat'(first|refine gO ?_|(conv=>whnf);first|refine C6 c ?_)
  exact T0 (λz=>[B z]) ((by unfold cK;rw[a];rfl))
 | true=>
  have g:=zw a;rw[a]at c;cases d:fA m.Table m.Frames.Used.length with
  | false=>
   rw[show(m.Frames.Cells.length:Int)=m.Frames.Used.length by omega,d]at e;refine fO 39 [(6,13,[26,27,28,29,30,31,32,33,34,35,36,37,38])] Tryz.func266 rfl ?_
   repeat'(first|refine gO ?_|(conv=>whnf);first|refine C6 c ?_|refine C6 ((show(m.Frames.Cells.length:Int)=m.Frames.Used.length by omega) ▸ e) ?_)
   exact T0 (λz=>[B z]) ((by unfold cK;rw[a,d];rfl))
  | true=>
   rw[show(m.Frames.Cells.length:Int)=m.Frames.Used.length by omega,d]at e;refine fO 39 [(6,13,[26,27,28,29,30,31,32,33,34,35,36,37,38])] Tryz.func266 rfl ?_
   repeat'(first|refine gO ?_|(conv=>whnf);first|refine C6 c ?_|refine C6 ((show(m.Frames.Cells.length:Int)=m.Frames.Used.length by omega) ▸ e) ?_)
   (conv=>whnf)
   refine CC (ι:=Nat) (λi=>[(1,.hold .box (aJ.enc .imm m)),(3,.hold .one [I ((i:Nat):Int)])]) (λi=>i<=m.Frames.Used.length/\cC i (m9 m)=true) (λi=>m.Frames.Used.length - i) 0 ?_ ⟨R0 _,rfl⟩ λi h=>?_
   ·exact wB
   obtain⟨h,j⟩:=h;by_cases k:i<m.Frames.Used.length
   ·have n:=ah k
    have o:=pE m.Table (i:Nat)
    repeat'(first|refine gD ?_|(conv=>whnf);first|with_reducible (first|refine CA (aa n) ?_|refine Bf.NB (λp=>?_) (λp=>?_))|refine C6 (ge m.Table (i:Nat) b.2) ?_)
    all_goals first
     | exact T0 (λz=>[B z]) ((by symm;unfold cK;rw[a,d,cb k (by unfold m9;grind)];rfl))
     | ((conv=>whnf);refine CB (i+1) ⟨ω,bJ j (by unfold m9;grind)⟩ ω ?_;(exact wB))
   ·repeat'(first|refine gD ?_|fail)
    obtain rfl:i=m.Frames.Used.length:=ω
    exact T0 (λz=>[B z]) ((by unfold cK;rw[a,d,j];rfl))
theorem nz(m:aJ)(d:aJ.sml m):ar Tryz.prog 144 false [.val (some 3) (aJ.enc .imm m)] .one [B (cK m)]:=by
 have o:m.Frames.Used.length<=1048576:=d.1.2;have b:=wR m.Frames d.1;have e:=Al m.Table m.Frames.Used.length d.2;cases a:cZ m.Frames with
 | false=>
  rw[a]at b;refine fO 37 [] Tryz.func144 rfl ?_
  repeat'(first|refine gO ?_|(conv=>whnf);first|refine C6 b ?_)
  exact T0 (λz=>[B z]) ((by unfold cK;rw[a];rfl))
 | true=>
  rw[a]at b;cases c:fA m.Table m.Frames.Used.length with
  | false=>
   rw[c]at e;refine fO 37 [] Tryz.func144 rfl ?_
   repeat'(first|refine gO ?_|(conv=>whnf);first|refine C6 b ?_|refine C6 e ?_)
   exact T0 (λz=>[B z]) ((by unfold cK;rw[a,c];rfl))
  | true=>
   rw[c]at e;refine fO 37 [] Tryz.func144 rfl ?_
   repeat'(first|refine gO ?_|(conv=>whnf);first|refine C6 b ?_|refine C6 e ?_)
   (conv=>whnf)
   refine CC (ι:=Nat) (λi=>[(1,.hold .box (aJ.enc .imm m)),(21,.hold .one (np .imm m.Frames.Used)),(22,.hold .one [I (m.Frames.Used.length)]),(23,.hold .one [I ((i:Nat):Int)])]) (λi=>i<=m.Frames.Used.length/\cC i (m9 m)=true) (λi=>m.Frames.Used.length - i) 0 ?_ ⟨R0 _,rfl⟩ λi g=>?_
   ·exact wB
   obtain⟨g,h⟩:=g;by_cases j:i<m.Frames.Used.length
   ·have k:=ah j
    have l:=pE m.Table (i:Nat)
    repeat'(first|refine gD ?_|(conv=>whnf);first|with_reducible (first|refine CA (aa k) ?_|refine Bf.NB (λn=>?_) (λn=>?_))|refine C6 (qq m.Table (i:Nat) d.2) ?_)
    all_goals first
     | exact T0 (λz=>[B z]) ((by symm;unfold cK;rw[a,c,cb j (by unfold m9;grind)];rfl))
     | ((conv=>whnf);refine CB (i+1) ⟨ω,bJ h (by unfold m9;grind)⟩ ω ?_;(exact wB))
   ·repeat'(first|refine gD ?_|fail)
    obtain rfl:i=m.Frames.Used.length:=ω
    exact T0 (λz=>[B z]) ((by unfold cK;rw[a,c,h];rfl))
theorem kz(k:af)(d:af.sml k):ar Tryz.prog 201 false [.val (some 5) (af.enc .imm k)] .one [B (aA k)]:=by
 have n:k.Refuse.length<=1048576:=d.2;have a:=na k.Machine d.1;refine fO 31 [] Tryz.func201 rfl ?_
 repeat'(first|refine gO ?_|fail)
 (conv=>whnf)
 refine CC (ι:=Nat) (λi=>[(1,.hold .box (af.enc .imm k)),(3,.hold .one [I ((i:Nat):Int)])]) (λi=>i<=k.Refuse.length/\cC i (λj=>decide (0<=nth k.Refuse j))=true) (λi=>k.Refuse.length - i) 0 ?_ ⟨R0 _,rfl⟩ λi e=>?_
 ·exact wB
 obtain⟨e,g⟩:=e;by_cases h:i<k.Refuse.length
 ·have l:=ah h
  repeat'(first|refine gD ?_|(conv=>whnf);first|with_reducible (first|refine CA (aa l) ?_|refine Bf.D (λc=>?_) (λc=>?_)))
  all_goals first
   | exact T0 (λz=>[B z]) ((by symm;unfold aA;rw[cb h (Q0 ω)];rfl))
   | ((conv=>whnf);refine CB (i+1) ⟨ω,bJ g (O0 ω)⟩ ω ?_;(exact wB))
 ·obtain rfl:i=k.Refuse.length:=ω
  cases b:cK k.Machine with
  | false=>
   rw[b]at a
   repeat'(first|refine gD ?_|(conv=>whnf);first|refine C6 a ?_)
   all_goals exact T0 (λz=>[B z]) ((by unfold aA;rw[b];simp))
  | true=>
   rw[b]at a
   repeat'(first|refine gD ?_|(conv=>whnf);first|with_reducible refine Bf.D (λc=>?_) (λc=>?_)|refine C6 a ?_|refine C6 (aE _ 0 100000) ?_)
   all_goals exact T0 (λz=>[B z]) ((by unfold aA;rw[b,g];simp only[Bool.true_and];first|exact decide_eq_decide.2 ω|(symm;exact Q0 ω)|(symm;exact O0 ω)))
theorem x8(k:af)(b:af.sml k):ar Tryz.prog 57 false [.val (some 5) (af.enc .imm k)] .one [B (aA k)]:=by
 have l:k.Refuse.length<=1048576:=b.2;have g:=nz k.Machine b.1;refine fO 29 [] Tryz.func57 rfl ?_
 repeat'(first|refine gO ?_|fail)
 (conv=>whnf)
 refine CC (ι:=Nat) (λi=>[(1,.hold .box (af.enc .imm k)),(6,.hold .one (aD .imm k.Refuse)),(7,.hold .one [I (k.Refuse.length)]),(8,.hold .one [I ((i:Nat):Int)])]) (λi=>i<=k.Refuse.length/\cC i (λj=>decide (0<=nth k.Refuse j))=true) (λi=>k.Refuse.length - i) 0 ?_ ⟨R0 _,rfl⟩ λi c=>?_
 ·exact wB
 obtain⟨c,d⟩:=c;by_cases e:i<k.Refuse.length
 ·have h:=ah e
  repeat'(first|refine gD ?_|(conv=>whnf);first|with_reducible (first|refine CA (aa h) ?_|refine Bf.D (λa=>?_) (λa=>?_)))
  all_goals first
   | exact T0 (λz=>[B z]) ((by symm;unfold aA;rw[cb e (Q0 ω)];rfl))
   | ((conv=>whnf);refine CB (i+1) ⟨ω,bJ d (O0 ω)⟩ ω ?_;(exact wB))
 ·obtain rfl:i=k.Refuse.length:=ω
  repeat'(first|refine gD ?_|(conv=>whnf);first|with_reducible refine Bf.D (λa=>?_) (λa=>?_)|refine C6 g ?_|refine C6 (aM _ 0 100000) ?_)
  all_goals exact T0 (λz=>[B z]) ((by unfold aA;rw[d];cases cK k.Machine<;>simp only[Bool.true_and,Bool.false_and]<;>first|rfl|exact decide_eq_decide.2 ω|(symm;exact Q0 ω)|(symm;exact O0 ω)))
theorem vr(pages:Int)(r:a7)(b:0<=pages/\pages<=1048576):ar Tryz.prog 267 false [.val none [I pages],.val (some 2) (a7.enc .imm r)] .one [B (rangeIn pages r)]:=by
 refine fO 18 [] Tryz.func267 rfl ?_
 repeat'(first|refine gO ?_|(conv=>whnf);first|with_reducible refine Bf.D (λa=>?_) (λa=>?_)|refine C6 (aE _ 1 _) ?_|refine C6 (aE _ 0 _) ?_)
 all_goals exact T0 (λz=>[B z]) ((by unfold rangeIn;first|(symm;exact Q0 ω)|exact decide_eq_decide.2 ω))
theorem DG(pages:Int)(r:a7)(b:0<=pages/\pages<=1048576):ar Tryz.prog 159 false [.val none [I pages],.val (some 2) (a7.enc .imm r)] .one [B (rangeIn pages r)]:=by
 refine fO 18 [] Tryz.func159 rfl ?_
 repeat'(first|refine gO ?_|(conv=>whnf);first|with_reducible refine Bf.D (λa=>?_) (λa=>?_)|refine C6 (aM _ 1 _) ?_|refine C6 (aM _ 0 _) ?_)
 all_goals exact T0 (λz=>[B z]) ((by unfold rangeIn;first|(symm;exact Q0 ω)|exact decide_eq_decide.2 ω))
theorem lQ(k:Int):ar Tryz.prog 194 false [.val none [I k]] .one [I (slots k)]:=by
 by_cases b:0<=k/\k<=3
 ·obtain rfl|rfl|rfl|rfl:k=0\/k=1\/k=2\/k=3:=ω
  all_goals
   refine fO 9 [] Tryz.func194 rfl ?_
   repeat'(first|refine gD ?_|(conv=>whnf);first|with_reducible refine Bf.D (λa=>?_) (λa=>?_)|refine C6 (aE _ 0 3) ?_|refine CK (by decide) ?_|refine CI rfl ?_|refine CM rfl ?_)
   exact T0 (λz=>[I z]) (by decide)
 ·refine fO 9 [] Tryz.func194 rfl ?_
  repeat'(first|refine gD ?_|(conv=>whnf);first|with_reducible refine Bf.D (λa=>?_) (λa=>?_)|refine C6 (aE _ 0 3) ?_)
  exact T0 (λz=>[I z]) (by unfold slots;rw[C7 ω,C7 ω,C7 ω,C7 ω])
theorem hB(k:Int):ar Tryz.prog 172 false [.val none [I k]] .one [I (slots k)]:=by
 by_cases b:0<=k/\k<=3
 ·obtain rfl|rfl|rfl|rfl:k=0\/k=1\/k=2\/k=3:=ω
  all_goals
   refine fO 9 [] Tryz.func172 rfl ?_
   repeat'(first|refine gD ?_|(conv=>whnf);first|with_reducible refine Bf.D (λa=>?_) (λa=>?_)|refine C6 (eP _) ?_|refine C6 (eC _) ?_|refine CK (by decide) ?_|refine CI rfl ?_|refine CM rfl ?_)
   exact T0 (λz=>[I z]) (by decide)
 ·refine fO 9 [] Tryz.func172 rfl ?_
  repeat'(first|refine gD ?_|(conv=>whnf);first|with_reducible refine Bf.D (λa=>?_) (λa=>?_)|refine C6 (eP _) ?_)
  exact T0 (λz=>[I z]) (by unfold slots;rw[C7 ω,C7 ω,C7 ω,C7 ω])
def HY(k b:Int):Bool:=decide (0<=k/\k<=3/\0<=b/\b<=lim k)
theorem o8(k b:Int):ar Tryz.prog 193 false [.val none [I (slots k)],.val none [I b]] .one [B (HY k b)]:=by
 by_cases d:0<=k/\k<=3
 ·obtain rfl|rfl|rfl|rfl:k=0\/k=1\/k=2\/k=3:=ω
  all_goals
   first|rw[show slots 0=16 from rfl]|rw[show slots 1=8 from rfl]|rw[show slots 2=4 from rfl]|rw[show slots 3=2 from rfl]
   refine fO 15 [] Tryz.func193 rfl ?_
   repeat'(first|refine gD ?_|(conv=>whnf);first|with_reducible refine Bf.D (λa=>?_) (λa=>?_)|refine C6 (aE _ 1 16) ?_|refine C6 (aE _ 0 _) ?_|refine CK (by decide) ?_|refine CI (show _=(65536:Int) by decide) ?_|refine CI (show _=(65535:Int) by decide) ?_|refine CI (show _=(256:Int) by decide) ?_|refine CI (show _=(255:Int) by decide) ?_|refine CI (show _=(16:Int) by decide) ?_|refine CI (show _=(15:Int) by decide) ?_|refine CI (show _=(4:Int) by decide) ?_|refine CI (show _=(8:Int) by decide) ?_|refine CI (show _=(2:Int) by decide) ?_|refine CI (show _=(3:Int) by decide) ?_)
   all_goals exact T0 (λz=>[B z]) ((decide_eq_decide.2 (by simp[lim])))
 ·have c:slots k=0:=by unfold slots;rw[C7 ω,C7 ω,C7 ω,C7 ω]
  rw[c];refine fO 15 [] Tryz.func193 rfl ?_
  repeat'(first|refine gD ?_|(conv=>whnf);first|with_reducible refine Bf.D (λa=>?_) (λa=>?_)|refine C6 (aE _ 1 16) ?_)
  exact T0 (λz=>[B z]) ((by symm;exact Q0 ω))
theorem wH(k b:Int):ar Tryz.prog 244 false [.val none [I (slots k)],.val none [I b]] .one [B (HY k b)]:=by
 by_cases d:0<=k/\k<=3
 ·obtain rfl|rfl|rfl|rfl:k=0\/k=1\/k=2\/k=3:=ω
  all_goals
   first|rw[show slots 0=16 from rfl]|rw[show slots 1=8 from rfl]|rw[show slots 2=4 from rfl]|rw[show slots 3=2 from rfl]
   refine fO 14 [] Tryz.func244 rfl ?_
   repeat'(first|refine gD ?_|(conv=>whnf);first|with_reducible refine Bf.D (λa=>?_) (λa=>?_)|refine C6 (aM _ 1 16) ?_|refine C6 (aM _ 0 _) ?_|refine CK (by decide) ?_|refine CI (eA (by decide) (by decide)) ?_)
   all_goals exact T0 (λz=>[B z]) ((decide_eq_decide.2 (by simp[lim,IntKind.bits])))
 ·have c:slots k=0:=by unfold slots;rw[C7 ω,C7 ω,C7 ω,C7 ω]
  rw[c];refine fO 14 [] Tryz.func244 rfl ?_
  repeat'(first|refine gD ?_|(conv=>whnf);first|with_reducible refine Bf.D (λa=>?_) (λa=>?_)|refine C6 (aM _ 1 16) ?_)
  exact T0 (λz=>[B z]) ((by symm;exact Q0 ω))
theorem fR(s:au):ar Tryz.prog 113 false [.val (some 3) (au.enc .imm s)] .one [B (bg s)]:=by
 refine fO 14 [(1,12,[3,4,5,6,7,8,9,10,11,12,13,2])] Tryz.func113 rfl ?_
 repeat'(first|refine gO ?_|(conv=>whnf);first|with_reducible refine Bf.D (λa=>?_) (λa=>?_)|refine C6 (aE _ 0 31) ?_|refine C6 (lQ _) ?_|refine C6 (o8 _ _) ?_)
 all_goals exact T0 (λz=>[B z]) ((by unfold bg;first|(symm;exact Q0 ω)|exact decide_eq_decide.2 ω))
theorem iJ(s:au):ar Tryz.prog 161 false [.val (some 3) (au.enc .imm s)] .one [B (bg s)]:=by
 refine fO 19 [(1,17,[3,4,5,6,7,8,9,10,11,12,13,14,15,16,17,18,2])] Tryz.func161 rfl ?_
 repeat'(first|refine gO ?_|(conv=>whnf);first|with_reducible refine Bf.D (λa=>?_) (λa=>?_)|refine C6 (aM _ 0 31) ?_|refine C6 (eP _) ?_|refine C6 (hB _) ?_|refine C6 (wH _ _) ?_)
 all_goals exact T0 (λz=>[B z]) ((by unfold bg;first|(symm;exact Q0 ω)|exact decide_eq_decide.2 ω))
section
variable{α:Type}{xs:List α}{p:α->Bool}{i:Nat}{y:α}
theorem yQ(h:xs[i]? = some y)(a:p y=true):xs.any p=true:=I3.2 ⟨y,Q1 h,a⟩
theorem wv(h:xs[i]? = some y)(a:(xs.take i).any p=false)(b:p y=false):(xs.take (i+1)).any p=false:=by
 rw[Q4,h,List.any_append,a];simp[b]
theorem Fg(a:xs.length<=i)(b:(xs.take i).any p=false):xs.any p=false:=by
 rwa [Q5 a]at b
theorem f6[Inhabited α](a:0<i)(b:i<xs.length):xs[((i:Int) - 1).toNat]? = some (nth xs (i - 1)):=by
 rw[show((i:Int) - 1).toNat=i - 1 by omega];exact ah ω
end
theorem wx{pages:Int}{xs:List a7}{i n:Nat}(a:cC n (f7 pages xs)=true)(b:i<n):1<=(nth xs i).Len/\(nth xs i).Len<=pages/\0<=(nth xs i).At/\(nth xs i).At<=pages - (nth xs i).Len:=by
 have:=d8 a b;unfold f7 rangeIn at this;simp only[I0,C0]at this;exact this.1
theorem kD(pages:Int)(xs:List a7)(e:0<=pages/\pages<=1048576)(k:gC xs):ar Tryz.prog 202 false [.val none [I pages],.val none (bw .imm xs)] .one [B (bv pages xs)]:=by
 have n:=k.1;refine fO 46 [(4,32,[12,13,14,15,16,17,18,19,20,21,22,23,24,25,26,27,28,29,30,31,32,33,34,35,36,37,38,39,40,41,42,43])] Tryz.func202 rfl ?_
 repeat'(first|refine gO ?_|fail)
 (conv=>whnf)
 refine CC (ι:=Nat) (λi=>[(0,.hold .one [I (pages)]),(1,.hold .one (bw .imm xs)),(5,.hold .one [I ((i:Nat):Int)])]) (λi=>i<=xs.length/\cC i (f7 pages xs)=true) (λi=>xs.length - i) 0 ?_ ⟨R0 _,rfl⟩ λi g=>?_
 ·exact wB
 obtain⟨g,d⟩:=g;by_cases c:i<xs.length
 ·have j:=ah c
  have o:0<i->1<=(nth xs (i - 1)).Len/\(nth xs (i - 1)).Len<=pages/\0<=(nth xs (i - 1)).At/\(nth xs (i - 1)).At<=pages - (nth xs (i - 1)).Len:=λh=>wx d ω
  cases a:rangeIn pages (nth xs i) with
  | false=>
   have b:=vr pages (nth xs i) e;rw[a]at b
   repeat'(first|refine gD ?_|(conv=>whnf);first|with_reducible refine CA (aa j) ?_|refine C6 b ?_)
   exact T0 (λz=>[B z]) ((by symm;unfold bv;rw[cb c (by unfold f7;rw[a];rfl)];rfl))
  | true=>
   have b:=vr pages (nth xs i) e;rw[a]at b
   repeat'(first|refine gD ?_|(conv=>whnf);first|with_reducible (first|refine CA (aa j) ?_|refine Bf.D (λl=>?_) (λl=>?_))|refine C6 b ?_|refine CJ ω (aa (f6 ω c)) ?_)
   all_goals first
    | exact T0 (λz=>[B z]) ((by symm;unfold bv;rw[cb c (by unfold f7;rw[a,Q0 ω];rfl)];rfl))
    | ((conv=>whnf);refine CB (i+1) ⟨ω,bJ d (by unfold f7;rw[a,O0 ω];rfl)⟩ ω ?_;(exact wB))
 ·repeat'(first|refine gD ?_|(conv=>whnf);first|refine C6 (aE pages 1 32) ?_)
  obtain rfl:i=xs.length:=ω
  exact T0 (λz=>[B z]) ((by unfold bv;rw[d];rfl))
theorem xk(pages:Int)(xs:List a7)(j:0<=pages/\pages<=1048576)(k:gC xs):ar Tryz.prog 67 false [.val none [I pages],.val none (bw .imm xs)] .one [B (bv pages xs)]:=by
 have n:=k.1;refine fO 43 [(4,26,[14,15,16,17,18,19,20,21,22,23,24,25,26,27,28,29,30,31,32,33,34,35,36,37,38,39])] Tryz.func67 rfl ?_
 repeat'(first|refine gO ?_|fail)
 (conv=>whnf)
 refine CC (ι:=Nat) (λi=>[(0,.hold .one [I (pages)]),(1,.hold .one (bw .imm xs)),(7,.hold .one (bw .imm xs)),(8,.hold .one [I (xs.length)]),(9,.hold .one [I ((i:Nat):Int)])]) (λi=>i<=xs.length/\cC i (f7 pages xs)=true) (λi=>xs.length - i) 0 ?_ ⟨R0 _,rfl⟩ λi e=>?_
 ·exact wB
 obtain⟨e,d⟩:=e;by_cases b:i<xs.length
 ·have g:=ah b
  have o:0<i->1<=(nth xs (i - 1)).Len/\(nth xs (i - 1)).Len<=pages/\0<=(nth xs (i - 1)).At/\(nth xs (i - 1)).At<=pages - (nth xs (i - 1)).Len:=λh=>wx d ω
  have c:=DG pages (nth xs i) j;cases a:rangeIn pages (nth xs i) with
  | false=>
   rw[a]at c
   repeat'(first|refine gD ?_|(conv=>whnf);first|with_reducible refine CA (aa g) ?_|refine C6 c ?_)
   exact T0 (λz=>[B z]) ((by symm;unfold bv;rw[cb b (by unfold f7;rw[a];rfl)];rfl))
  | true=>
   rw[a]at c
   repeat'(first|refine gD ?_|(conv=>whnf);first|with_reducible (first|refine CA (aa g) ?_|refine Bf.D (λl=>?_) (λl=>?_))|refine C6 c ?_|refine CJ ω (aa (f6 ω b)) ?_)
   all_goals first
    | exact T0 (λz=>[B z]) ((by symm;unfold bv;rw[cb b (by unfold f7;rw[a,Q0 ω];rfl)];rfl))
    | ((conv=>whnf);refine CB (i+1) ⟨ω,bJ d (by unfold f7;rw[a,O0 ω];rfl)⟩ ω ?_;(exact wB))
 ·repeat'(first|refine gD ?_|(conv=>whnf);first|refine C6 (aM pages 1 32) ?_)
  obtain rfl:i=xs.length:=ω
  exact T0 (λz=>[B z]) ((by unfold bv;rw[d];rfl))
theorem xy(xs:List a7)(page:Int)(g:xs.length<=9223372036854775807):ar Tryz.prog 270 false [.val none (bw .imm xs),.val none [I page]] .one [B (xs.any (pB page))]:=by
 refine fO 34 [(4,22,[12,13,14,15,16,17,18,19,20,21,22,23,24,25,26,27,28,29,30,31,32,33])] Tryz.func270 rfl ?_
 repeat'(first|refine gO ?_|fail)
 (conv=>whnf)
 refine CC (ι:=Nat) (λi=>[(0,.hold .one (bw .imm xs)),(1,.hold .one [I (page)]),(5,.hold .one [I ((i:Nat):Int)])]) (λi=>i<=xs.length/\(xs.take i).any (pB page)=false) (λi=>xs.length - i) (0) ?_ (⟨R0 _,rfl⟩) λi b=>?_
 ·exact wB
 obtain⟨b,c⟩:=b;by_cases d:i<xs.length
 ·have a:=ah d
  repeat'(first|refine gD ?_|(conv=>whnf);first|with_reducible (first|refine CA (aa a) ?_|refine Bf.D (λe=>?_) (λe=>?_))|refine CI rfl ?_)
  all_goals first
   | exact T0 (λz=>[B z]) ((yQ a (by unfold pB;rw[O0 (by assumption),O0 (by assumption)];rfl)).symm)
   | ((conv=>whnf);refine CB (i+1) ⟨ω,wv a c (by unfold pB;first|(rw[Q0 (by assumption:¬(nth xs i).At<=page)];rfl)|(rw[Q0 (by assumption:¬page<_)];simp))⟩ ω ?_;(exact wB))
 ·repeat'(first|refine gD ?_|fail)
  exact T0 (λz=>[B z]) ((Fg ω c).symm)
theorem tdiv16{z:Int}(h:0<=z):z.tdiv 16=z / 16:=Int.tdiv_eq_ediv_of_nonneg h
theorem kF(z:Int):ar Tryz.prog 293 false [.val none [I z]] .one [I (eD z)]:=by
 refine fO 10 [] Tryz.func293 rfl ?_;by_cases b:9<=z/\z<=1000
 ·repeat'(first|refine gD ?_|(conv=>whnf);first|with_reducible refine Bf.D (λa=>?_) (λa=>?_)|refine C6 (aE z 9 1000) ?_|refine CK (by decide) ?_|refine CI ((T0 _ (tdiv16 ω)).trans (eA ω ω)) ?_)
  all_goals exact T0 (λz=>[I z]) (by unfold eD;rw[C8 b];omega)
 ·repeat'(first|refine gD ?_|(conv=>whnf);first|with_reducible refine Bf.D (λa=>?_) (λa=>?_)|refine C6 (aE z 9 1000) ?_)
  all_goals exact T0 (λz=>[I z]) (by unfold eD;rw[C7 b])
theorem w5(z:Int):ar Tryz.prog 217 false [.val none [I z]] .one [I (eD z)]:=by
 refine fO 10 [] Tryz.func217 rfl ?_;by_cases b:9<=z/\z<=1000
 ·repeat'(first|refine gD ?_|(conv=>whnf);first|with_reducible refine Bf.D (λa=>?_) (λa=>?_)|refine C6 (aM z 9 1000) ?_|refine CK (by decide) ?_|refine CI ((T0 _ (tdiv16 ω)).trans (eA ω ω)) ?_)
  all_goals exact T0 (λz=>[I z]) (by unfold eD;rw[C8 b];omega)
 ·repeat'(first|refine gD ?_|(conv=>whnf);first|with_reducible refine Bf.D (λa=>?_) (λa=>?_)|refine C6 (aM z 9 1000) ?_)
  all_goals exact T0 (λz=>[I z]) (by unfold eD;rw[C7 b])
theorem md(l:a8):ar Tryz.prog 269 false [.val (some 3) (a8.enc .imm l)] .one [B (bR l)]:=by
 have b:=kF l.Size;by_cases c:9<=l.Size/\l.Size<=1000
 ·rw[show eD l.Size=(l.Size+15) / 16 from C8 c]at b
  refine fO 22 [] Tryz.func269 rfl ?_
  repeat'(first|refine gO ?_|(conv=>whnf);first|with_reducible (first|refine Bf.D (λa=>?_) (λa=>?_)|refine Bf.E (λa=>?_) (λa=>?_))|refine C6 b ?_|refine C6 (aE _ 0 _) ?_)
  all_goals exact T0 (λz=>[B z]) ((by unfold bR;first|(symm;exact Q0 ω)|exact decide_eq_decide.2 ω))
 ·rw[show eD l.Size=0 from C7 c]at b
  refine fO 22 [] Tryz.func269 rfl ?_
  repeat'(first|refine gD ?_|(conv=>whnf);first|with_reducible refine Bf.D (λa=>?_) (λa=>?_)|refine C6 b ?_)
  all_goals exact T0 (λz=>[B z]) ((by unfold bR;symm;exact Q0 ω))
theorem q9(l:a8):ar Tryz.prog 162 false [.val (some 3) (a8.enc .imm l)] .one [B (bR l)]:=by
 have b:=w5 l.Size;by_cases c:9<=l.Size/\l.Size<=1000
 ·rw[show eD l.Size=(l.Size+15) / 16 from C8 c]at b
  refine fO 22 [(1,20,[3,4,5,6,7,8,9,10,11,12,13,14,15,16,17,18,19,20,21,2])] Tryz.func162 rfl ?_
  repeat'(first|refine gD ?_|(conv=>whnf);first|with_reducible (first|refine Bf.D (λa=>?_) (λa=>?_)|refine Bf.E (λa=>?_) (λa=>?_))|refine C6 b ?_|refine C6 (aM _ 9 1000) ?_|refine C6 (aM _ 0 _) ?_)
  all_goals exact T0 (λz=>[B z]) ((by unfold bR;first|(symm;exact Q0 ω)|exact decide_eq_decide.2 ω))
 ·refine fO 22 [(1,20,[3,4,5,6,7,8,9,10,11,12,13,14,15,16,17,18,19,20,21,2])] Tryz.func162 rfl ?_
  repeat'(first|refine gD ?_|(conv=>whnf);first|with_reducible refine Bf.D (λa=>?_) (λa=>?_)|refine C6 (aM _ 9 1000) ?_)
  all_goals exact T0 (λz=>[B z]) ((by unfold bR;symm;exact Q0 ω))
theorem l8{z:Int}(h:0<=z/\z<=9223372036854775807):(BitVec.ofInt IntKind.i64.bits z).toNat=z.toNat:=by
 show(BitVec.ofInt 64 z).toNat=z.toNat;rw[BitVec.toNat_ofInt]
 congr 1
 exact Int.emod_eq_of_lt h.1 (by show z<((2 ^ 64:Nat):Int);have:=h.2;norm_cast;omega)
theorem and64{z1 z2:Int}(h1:0<=z1/\z1<=9223372036854775807)(a:0<=z2/\z2<=9223372036854775807):IntKind.i64.wrap ((BitVec.ofInt IntKind.i64.bits z1 &&& BitVec.ofInt IntKind.i64.bits z2).toNat:Nat)=((z1.toNat &&& z2.toNat:Nat):Int):=by
 rw[BitVec.toNat_and,l8 h1,l8 a];have:z1.toNat &&& z2.toNat<=z1.toNat:=Nat.and_le_left;exact eA ω ω
theorem DB(k:Int):lim k<=65535:=by
 unfold lim
 (repeat' split)<;>decide
theorem eE{s:au}(h:bg s=true):0<=s.Bits/\s.Bits<=9223372036854775807:=by
 unfold bg at h;simp only[C0]at h;have:=DB s.Class;omega
theorem kw(b c:au):ar Tryz.prog 40 false [.val (some 3) (au.enc .imm b),.val (some 3) (au.enc .imm c)] .one [B (meshable b c)]:=by
 have g:=fR b;have h:=fR c;cases d:bg b<;>rw[d]at g<;>cases e:bg c<;>rw[e]at h
 all_goals
  refine fO 33 [] Tryz.func40 rfl ?_
  repeat'(first|refine gO ?_|(conv=>whnf);first|with_reducible (first|refine Bf.D (λa=>?_) (λa=>?_)|refine Bf.N (λa=>?_) (λa=>?_)|refine Bf.E (λa=>?_) (λa=>?_))|refine C6 g ?_|refine C6 h ?_|refine CI (and64 (eE d) (eE e)) ?_)
  all_goals exact T0 (λz=>[B z]) ((by unfold meshable;rw[d,e];first|rfl|(symm;exact Q0 ω)|(rw[Z3];simp;omega)))
theorem x6(b c:au):ar Tryz.prog 165 false [.val (some 3) (au.enc .imm b),.val (some 3) (au.enc .imm c)] .one [B (meshable b c)]:=by
 have g:=iJ b;have h:=iJ c;cases d:bg b<;>rw[d]at g<;>cases e:bg c<;>rw[e]at h
 all_goals
  refine fO 33 [] Tryz.func165 rfl ?_
  repeat'(first|refine gO ?_|(conv=>whnf);first|with_reducible (first|refine Bf.D (λa=>?_) (λa=>?_)|refine Bf.N (λa=>?_) (λa=>?_)|refine Bf.E (λa=>?_) (λa=>?_))|refine C6 g ?_|refine C6 h ?_|refine CI (and64 (eE d) (eE e)) ?_)
  all_goals exact T0 (λz=>[B z]) ((by unfold meshable;rw[d,e];first|rfl|(symm;exact Q0 ω)|(rw[Z3];simp;omega)))
theorem Hf(k:Int):ar Tryz.prog 247 false [.val none [I k]] .one [B (decide (0<=k/\k<=15))]:=by
 refine fO 5 [] Tryz.func247 rfl ?_
 repeat'(first|refine gO ?_|(conv=>whnf);first|refine C6 (aM k 0 15) ?_)
 rfl
theorem sO(p:cg)(e:cg.sml p):ar Tryz.prog 279 false [.val (some 3) (cg.enc .imm p)] .one [B (ec p)]:=by
 have h:p.Cells.length<=1048576:=e;refine fO 51 [(4,25,[11,12,13,14,15,16,17,18,19,20,21,22,23,24,25,26,27,28,29,30,31,32,33,34,35])] Tryz.func279 rfl ?_
 repeat'(first|refine gO ?_|fail)
 (conv=>whnf)
 refine CC (ι:=Nat) (λi=>[(1,.hold .box (cg.enc .imm p)),(3,.hold .one [I ((i:Nat):Int)])]) (λi=>i<=p.Cells.length/\cC i (mh p.Cells)=true) (λi=>p.Cells.length - i) 0 ?_ ⟨R0 _,rfl⟩ λi c=>?_
 ·exact wB
 obtain⟨c,d⟩:=c;by_cases b:i<p.Cells.length
 ·have g:=ah b
  repeat'(first|refine gD ?_|(conv=>whnf);first|with_reducible (first|refine CA (aa g) ?_|refine Bf.D (λa=>?_) (λa=>?_))|refine C6 (aE _ 0 15) ?_|refine CJ ω (aa (f6 ω b)) ?_)
  all_goals first
   | exact T0 (λz=>[B z]) ((by symm;unfold ec;rw[cb b (Q0 ω)];rfl))
   | ((conv=>whnf);refine CB (i+1) ⟨ω,bJ d (O0 ω)⟩ ω ?_;(exact wB))
 ·obtain rfl:i=p.Cells.length:=ω
  repeat'(first|refine gD ?_|(conv=>whnf);first|with_reducible (first|refine Bf.D (λa=>?_) (λa=>?_)|refine Bf.NB (λa=>?_) (λa=>?_)|refine Bf.N (λa=>?_) (λa=>?_))|refine C6 (aE _ 0 31) ?_)
  all_goals exact T0 (λz=>[B z]) ((by unfold ec;rw[d];simp only[Bool.true_and];first|(symm;exact Q0 ω)|exact decide_eq_decide.2 ω|(rw[Z3];simp;omega)))
theorem AH(p:cg)(e:cg.sml p):ar Tryz.prog 171 false [.val (some 3) (cg.enc .imm p)] .one [B (ec p)]:=by
 have h:p.Cells.length<=1048576:=e;refine fO 46 [] Tryz.func171 rfl ?_
 repeat'(first|refine gO ?_|fail)
 (conv=>whnf)
 refine CC (ι:=Nat) (λi=>[(1,.hold .box (cg.enc .imm p)),(6,.hold .one (aD .imm p.Cells)),(7,.hold .one [I (p.Cells.length)]),(8,.hold .one [I ((i:Nat):Int)])]) (λi=>i<=p.Cells.length/\cC i (mh p.Cells)=true) (λi=>p.Cells.length - i) 0 ?_ ⟨R0 _,rfl⟩ λi c=>?_
 ·exact wB
 obtain⟨c,d⟩:=c;by_cases b:i<p.Cells.length
 ·have g:=ah b
  repeat'(first|refine gD ?_|(conv=>whnf);first|with_reducible (first|refine CA (aa g) ?_|refine Bf.D (λa=>?_) (λa=>?_))|refine C6 (Hf _) ?_|refine CJ ω (aa (f6 ω b)) ?_)
  all_goals first
   | exact T0 (λz=>[B z]) ((by symm;unfold ec;rw[cb b (Q0 ω)];rfl))
   | ((conv=>whnf);refine CB (i+1) ⟨ω,bJ d (O0 ω)⟩ ω ?_;(exact wB))
 ·obtain rfl:i=p.Cells.length:=ω
  repeat'(first|refine gD ?_|(conv=>whnf);first|with_reducible (first|refine Bf.D (λa=>?_) (λa=>?_)|refine Bf.NB (λa=>?_) (λa=>?_)|refine Bf.N (λa=>?_) (λa=>?_))|refine C6 (aM _ 0 31) ?_)
  all_goals exact T0 (λz=>[B z]) ((by unfold ec;rw[d];simp only[Bool.true_and];first|(symm;exact Q0 ω)|exact decide_eq_decide.2 ω|(rw[Z3];simp;omega)))
theorem vA(j:bW)(a:bW.sml j):ar Tryz.prog 212 false [.val (some 5) (bW.enc .imm j)] .one [B (iP j)]:=by
 have e:j.Plan.Cells.length<=1048576:=a;have b:=sO j.Plan a;cases c:ec j.Plan<;>rw[c]at b
 all_goals
  refine fO 20 [] Tryz.func212 rfl ?_
  repeat'(first|refine gO ?_|(conv=>whnf);first|with_reducible refine Bf.D (λd=>?_) (λd=>?_)|refine C6 b ?_|refine C6 (aE _ 0 5) ?_|refine C6 (aE _ 0 _) ?_)
  all_goals exact T0 (λz=>[B z]) ((by unfold iP;rw[c];first|rfl|(symm;exact Q0 ω)|(rw[Z3];simp;omega)))
theorem EJ(j:bW)(a:bW.sml j):ar Tryz.prog 77 false [.val (some 5) (bW.enc .imm j)] .one [B (iP j)]:=by
 have e:j.Plan.Cells.length<=1048576:=a;have b:=AH j.Plan a;cases c:ec j.Plan<;>rw[c]at b
 all_goals
  refine fO 20 [] Tryz.func77 rfl ?_
  repeat'(first|refine gO ?_|(conv=>whnf);first|with_reducible refine Bf.D (λd=>?_) (λd=>?_)|refine C6 b ?_|refine C6 (aM _ 0 5) ?_|refine C6 (aM _ 0 _) ?_)
  all_goals exact T0 (λz=>[B z]) ((by unfold iP;rw[c];first|rfl|(symm;exact Q0 ω)|(rw[Z3];simp;omega)))
theorem jy(l:a8)(k:Nat):lpgs l (k+1)=lpgs l k++[l.Page+(k:Nat)]:=by
 unfold lpgs;rw[List.range_succ,T4];rfl
theorem Da(l:a8)(k:Nat):(lpgs l k).length=k:=by unfold lpgs;simp
theorem J7(l:a8){k n:Nat}(h:k<=n):lpgs l k <+: lpgs l n:=by
 induction n with
 | zero=>
  obtain rfl:k=0:=ω
  exact List.prefix_refl _
 | succ n b=>
  rcases Nat.lt_or_ge n k with a|a
  ·obtain rfl:k=n+1:=ω
   exact List.prefix_refl _
  ·rw[jy];exact(b a).trans (List.prefix_append ..)
theorem nw(sp:List au){la:List a8}{i:Nat}{l:a8}(h:la[i]? = some l):pgs sp (la.take (i+1))=pgs sp (la.take i)++lpgs l l.Pages.toNat:=by
 unfold pgs;rw[Q4,h,List.flatMap_append];simp
theorem Mn(sp:List au)(la:List a8)(i:Nat):pgs sp (la.take i) <+: pgs sp la:=by
 unfold pgs;refine(List.prefix_append_right_inj _).2 ?_
 conv=>rhs;rw[<-List.take_append_drop i la,List.flatMap_append]
 exact List.prefix_append ..
theorem J2{S all:List Int}{p:Int}(h:(S++[p]) <+: all)(b:p∈S):decide all.Nodup=false:=by
 refine Q0 λc=>?_
 have a:=c.sublist h.sublist;rw[List.nodup_append]at a;exact a.2.2 p b p (by simp) rfl
theorem jC{S:List Int}{p:Int}(h:S.Nodup)(b:p∉S):(S++[p]).Nodup:=by
 rw[List.nodup_append];exact⟨h,by simp,λx c y a e=>by simp at a;subst a;subst e;exact b c⟩
theorem Dx{sp:List au}{la:List a8}{i:Nat}{s:au}(h:sp[i]? = some s):((sp.take i).map (·.Page)++[s.Page]) <+: pgs sp la:=by
 have a:(sp.take i).map (·.Page)++[s.Page]=(sp.take (i+1)).map (·.Page):=by rw[Q4,h];simp
 rw[a];refine List.IsPrefix.trans ?_ (List.prefix_append ..);rw[R3];exact List.take_prefix ..
theorem yc{sp:List au}{la:List a8}{i k:Nat}{l:a8}(h:la[i]? = some l)(a:k<l.Pages.toNat):(pgs sp (la.take i)++lpgs l k++[l.Page+(k:Nat)]) <+: pgs sp la:=by
 refine List.IsPrefix.trans ?_ (Mn sp la (i+1));rw[nw sp h,R4,<-jy];exact(List.prefix_append_right_inj _).2 (J7 l a)
theorem oM{sp:List au}{la:List a8}{i:Nat}{s:au}(h:sp[i]? = some s)(a:bg s=false):bj sp la=false:=by
 unfold bj;rw[dN h a];rfl
theorem nC{sp:List au}{la:List a8}{i:Nat}{l:a8}(h:la[i]? = some l)(a:bR l=false):bj sp la=false:=by
 unfold bj;rw[dN h a];simp
theorem ju{sp:List au}{la:List a8}{S:List Int}{p:Int}(h:(S++[p]) <+: pgs sp la)(a:p∈S):bj sp la=false:=by
 unfold bj;rw[J2 h a];simp
theorem qh{sp:List au}{la:List a8}(h1:sp.all bg=true)(a:la.all bR=true)(b:(pgs sp la).Nodup):bj sp la=true:=by
 unfold bj;rw[h1,a,O0 b];rfl
theorem aU{l:a8}(h:bR l=true):1<=l.Pages/\l.Pages<=63/\0<=l.Page/\l.Page<=31:=by
 unfold bR at h;simp only[C0]at h;omega
theorem kH(sp:List au)(la:List a8)(t:dn sp)(u:dq la):ar Tryz.prog 203 false [.val none (bP .imm sp),.val none (bN .imm la)] .one [B (bj sp la)]:=by
 have J:=t.1;have K:=u.1;refine fO 79 [] Tryz.func203 rfl ?_
 repeat'(first|refine gO ?_|fail)
 (conv=>whnf)
 refine CC (ι:=Nat × List Int) (λi=>[(0,.hold .one (bP .imm sp)),(1,.hold .one (bN .imm la)),(5,.hold .one (aD .own i.2)),(6,.hold .one [I ((i.1:Nat):Int)])]) (λi=>i.1<=sp.length/\i.2=(sp.take i.1).map (·.Page)/\(sp.take i.1).all bg=true/\i.2.Nodup) (λi=>sp.length - i.1) ((0,[])) ?_ (⟨R0 _,rfl,rfl,List.nodup_nil⟩) λi p=>?_
 ·exact wB
 obtain⟨i,S⟩:=i;obtain⟨p,o,h,l⟩:=p;simp only at p o h l |-;have L:S.length=i:=by rw[o,W0,I1];omega
 by_cases w:i<sp.length
 ·have a:=ah w
  have n:=fR (nth sp i);cases j:bg (nth sp i)<;>rw[j]at n
  ·repeat'(first|refine gD ?_|(conv=>whnf);first|with_reducible refine CA (aa a) ?_|refine C6 n ?_)
   exact T0 (λz=>[B z]) ((oM a j).symm)
  ·repeat'(first|refine gD ?_|(conv=>whnf);first|with_reducible (first|refine CA (aa a) ?_|refine Bf.D (λy=>?_) (λy=>?_))|refine C6 n ?_|refine CE (lg S _ ω) ⟨⟨rfl,dS _⟩,⟨rfl,rfl⟩,trivial⟩ ?_|refine CQ cq (λr E=>by rw[Z0.1 E];rfl) (by simp[aW,dz]) (by simp;omega) (by simp only[W0];exact wY (by simp;omega) (by decide)) rfl ?_)
   all_goals first
    | exact T0 (λz=>[B z]) ((ju (S:=S) (by rw[o];exact Dx a) (by assumption)).symm)
    | ((conv=>whnf)
       refine CB (i+1,S++[(nth sp i).Page]) ⟨(by simp only;omega),(by simp only;rw[o,Q4,a];simp),(cz a h j),jC l (by assumption)⟩ (by simp only;omega) ?_
       (repeat'(first|exact trivial|rfl|exact CH rfl (CH (T0 (C.s dy.own) (by simp[rI])) trivial)|refine CH ?_ ?_)))
 ·obtain rfl:i=sp.length:=ω
  rw[z4]at h o
  repeat'(first|refine gD ?_|fail)
  (conv=>whnf)
  refine CC (ι:=Nat × List Int) (λi=>[(1,.hold .one (bN .imm la)),(5,.hold .one (aD .own i.2)),(7,.hold .one [I ((i.1:Nat):Int)])]) (λi=>i.1<=la.length/\i.2=pgs sp (la.take i.1)/\(la.take i.1).all bR=true/\i.2.Nodup/\i.2.length<=1048576+64*i.1) (λi=>la.length - i.1) ((0,S)) ?_ (⟨R0 _,by rw[o];unfold pgs;simp,rfl,l,by simp only;omega⟩) λi p=>?_
  ·exact wB
  obtain⟨i,S2⟩:=i;obtain⟨F,c,b,d,G⟩:=p;simp only at F c b d G |-;by_cases w:i<la.length
  ·have a:=ah w
   have n:=md (nth la i);cases j:bR (nth la i)<;>rw[j]at n
   ·repeat'(first|refine gD ?_|(conv=>whnf);first|with_reducible refine CA (aa a) ?_|refine C6 n ?_)
    exact T0 (λz=>[B z]) ((nC a j).symm)
   ·have M:=aU j
    repeat'(first|refine gD ?_|(conv=>whnf);first|with_reducible refine CA (aa a) ?_|refine C6 n ?_)
    (conv=>whnf)
    refine CC (ι:=Nat × List Int) (λk=>[(1,.hold .one (bN .imm la)),(5,.hold .one (aD .own k.2)),(7,.hold .one [I ((i:Nat):Int)]),(8,.hold .one [I ((k.1:Nat):Int)])]) (λk=>k.1<=(nth la i).Pages.toNat/\k.2=S2++lpgs (nth la i) k.1/\k.2.Nodup) (λk=>(nth la i).Pages.toNat - k.1) ((0,S2)) ?_ (⟨R0 _,by simp[lpgs],d⟩) λk H=>?_
    ·exact wB
    obtain⟨k,q⟩:=k;obtain⟨H,e,g⟩:=H;simp only at H e g |-;have N:q.length=S2.length+k:=by rw[e,U2,Da]
    by_cases O:k<(nth la i).Pages.toNat
    ·repeat'(first|refine gD ?_|(conv=>whnf);first|with_reducible (first|refine CA (aa a) ?_|refine Bf.D (λy=>?_) (λy=>?_))|refine CE (lg q _ ω) ⟨⟨rfl,dS _⟩,⟨rfl,rfl⟩,trivial⟩ ?_|refine CQ cq (λr E=>by rw[Z0.1 E];rfl) (by simp[aW,dz]) (by simp;omega) (by show _*8<=_;simp;omega) rfl ?_)
     all_goals first
      | exact T0 (λz=>[B z]) ((ju (S:=q) (by rw[e,c];exact yc a O) (by assumption)).symm)
      | ((conv=>whnf)
         refine CB (k+1,q++[(nth la i).Page+(k:Nat)]) ⟨(by simp only;omega),(by simp only;rw[e,jy,R4]),jC g (by assumption)⟩ (by simp only;omega) ?_
         (repeat'(first|exact trivial|rfl|exact CH rfl (CH (T0 (C.s dy.own) (by simp[rI])) trivial)|refine CH ?_ ?_)))
    ·obtain rfl:k=(nth la i).Pages.toNat:=ω
     repeat'(first|refine gD ?_|(conv=>whnf);first|with_reducible refine CA (aa a) ?_)
     ((conv=>whnf);refine CB (i+1,q) ⟨(by simp only;omega),(by simp only;rw[e,c,<-nw sp a]),(cz a b j),g,(by simp only;omega)⟩ (by simp only;omega) ?_;(exact wB))
  ·obtain rfl:i=la.length:=ω
   rw[z4]at b c
   repeat'(first|refine gD ?_|fail)
   exact T0 (λz=>[B z]) ((qh h b (by rw[<-c];exact d)).symm)
def ins(S:List Int)(p:Int):List Int:=if p∈S then S else S++[p]
theorem FD{p:Int} : ∀{S:List Int},p∈S->mput (eG S) p (.bool true)=eG S
 | x::S,h=>by
  simp only[eG,V4,mput];by_cases a:x=p
  ·rw[C8 a,a]
  ·rw[C7 a]
   have:=FD (S:=S) ((List.mem_cons.1 h).resolve_left λe=>a e.symm);simp only[eG]at this;rw[this]
theorem uX(S:List Int)(p:Int):eG (ins S p)=mput (eG S) p (.bool true):=by
 unfold ins;split
 ·rw[FD (by assumption)]
 ·rw[rj (by assumption)]
theorem Jw(S:List Int)(p:Int):aS Tryz.prog 160 false [.val none [I p],.ptr [.m (eG S)]] [.val none [I p],.ptr [.m (eG (ins S p))]] .one [B (decide (p∉S))]:=by
 refine fM 12 [] [] [(0,0),(0,0)] Tryz.func160 rfl (λu q=>?_)
 repeat'(first|refine gO ?_|(conv=>whnf);first|refine Ml.mk (mi p S) ?_|refine Mu.mk (uX S p) ?_)
 refine CD rfl ?_ ?_
 ·exact T0 (λz=>[B z]) (by simp)
 ·exact wB
theorem oG(sp:List au)(la:List a8)(t:dn sp)(u:dq la):ar Tryz.prog 68 false [.val none (bP .imm sp),.val none (bN .imm la)] .one [B (bj sp la)]:=by
 have F:=t.1;have G:=u.1;refine fP 54 [(160,[0,2])] [] Tryz.func68 rfl ?_
 repeat'(first|refine gO ?_|fail)
 (conv=>whnf)
 refine CC (ι:=Nat × List Int) (λi=>[(1,.hold .one (bN .imm la)),(5,.hold .box [.m (eG i.2)]),(6,.fn 160 [5]),(14,.hold .one (bP .imm sp)),(15,.hold .one [I (sp.length)]),(16,.hold .one [I ((i.1:Nat):Int)])]) (λi=>i.1<=sp.length/\i.2=(sp.take i.1).map (·.Page)/\(sp.take i.1).all bg=true/\i.2.Nodup) (λi=>sp.length - i.1) ((0,[])) ?_ (⟨R0 _,rfl,rfl,List.nodup_nil⟩) λi p=>?_
 ·exact wB
 obtain⟨i,S⟩:=i;obtain⟨p,q,h,n⟩:=p;simp only at p q h n |-;by_cases w:i<sp.length
 ·have c:=ah w
  have o:=iJ (nth sp i);cases l:bg (nth sp i)<;>rw[l]at o
  ·repeat'(first|refine gD ?_|(conv=>whnf);first|with_reducible refine CA (aa c) ?_|refine C6 o ?_)
   exact T0 (λz=>[B z]) ((oM c l).symm)
  ·repeat'(first|refine gD ?_|(conv=>whnf);first|with_reducible (first|refine CA (aa c) ?_|refine Bf.D (λy=>?_) (λy=>?_))|refine C6 o ?_|refine CG (Jw S _) (.inl rfl) ?_)
   all_goals first
    | exact T0 (λz=>[B z]) ((ju (S:=S) (by rw[q];exact Dx c) (by grind)).symm)
    |(have a:(nth sp i).Page∉S:=by assumption
      (conv=>whnf)
      refine CB (i+1,ins S (nth sp i).Page) ⟨(by simp only;omega),(by simp only;unfold ins;rw[C7 a,q,Q4,c];simp),(cz c h l),(by simp only;unfold ins;rw[C7 a];exact jC n a)⟩ (by simp only;omega) ?_
      (exact wA))
 ·obtain rfl:i=sp.length:=ω
  rw[z4]at h q
  repeat'(first|refine gD ?_|fail)
  (conv=>whnf)
  refine CC (ι:=Nat × List Int) (λi=>[(5,.hold .box [.m (eG i.2)]),(6,.fn 160 [5]),(31,.hold .one (bN .imm la)),(32,.hold .one [I (la.length)]),(33,.hold .one [I ((i.1:Nat):Int)])]) (λi=>i.1<=la.length/\i.2=pgs sp (la.take i.1)/\(la.take i.1).all bR=true/\i.2.Nodup) (λi=>la.length - i.1) ((0,S)) ?_ (⟨R0 _,by rw[q];unfold pgs;simp,rfl,n⟩) λi p=>?_
  ·exact wB
  obtain⟨i,S2⟩:=i;obtain⟨C,d,b,e⟩:=p;simp only at C d b e |-;by_cases w:i<la.length
  ·have c:=ah w
   have o:=q9 (nth la i);cases l:bR (nth la i)<;>rw[l]at o
   ·repeat'(first|refine gD ?_|(conv=>whnf);first|with_reducible refine CA (aa c) ?_|refine C6 o ?_)
    exact T0 (λz=>[B z]) ((nC c l).symm)
   ·have H:=aU l
    repeat'(first|refine gD ?_|(conv=>whnf);first|with_reducible refine CA (aa c) ?_|refine C6 o ?_)
    (conv=>whnf)
    refine CC (ι:=Nat × List Int) (λk=>[(5,.hold .box [.m (eG k.2)]),(6,.fn 160 [5]),(10,.hold .box (a8.enc .imm (nth la i))),(11,.hold .one [I ((k.1:Nat):Int)]),(31,.hold .one (bN .imm la)),(32,.hold .one [I (la.length)]),(33,.hold .one [I ((i:Nat):Int)])]) (λk=>k.1<=(nth la i).Pages.toNat/\k.2=S2++lpgs (nth la i) k.1/\k.2.Nodup) (λk=>(nth la i).Pages.toNat - k.1) ((0,S2)) ?_ (⟨R0 _,by simp[lpgs],e⟩) λk E=>?_
    ·exact wB
    obtain⟨k,r⟩:=k;obtain⟨E,j,g⟩:=E;simp only at E j g |-;by_cases J:k<(nth la i).Pages.toNat
    ·repeat'(first|refine gD ?_|(conv=>whnf);first|with_reducible refine Bf.D (λy=>?_) (λy=>?_)|refine CG (Jw r _) (.inl rfl) ?_)
     all_goals first
      | exact T0 (λz=>[B z]) ((ju (S:=r) (by rw[j,d];exact yc c J) (by grind)).symm)
      |(have a:(nth la i).Page+(k:Nat)∉r:=by assumption
        (conv=>whnf)
        refine CB (k+1,ins r ((nth la i).Page+(k:Nat))) ⟨(by simp only;omega),(by simp only;unfold ins;rw[C7 a,j,jy,R4]),(by simp only;unfold ins;rw[C7 a];exact jC g a)⟩ (by simp only;omega) ?_
        (exact wA))
    ·obtain rfl:k=(nth la i).Pages.toNat:=ω
     repeat'(first|refine gD ?_|fail)
     ((conv=>whnf);refine CB (i+1,r) ⟨(by simp only;omega),(by simp only;rw[j,d,<-nw sp c]),(cz c b l),g⟩ (by simp only;omega) ?_;(exact wB))
  ·obtain rfl:i=la.length:=ω
   rw[z4]at b d
   repeat'(first|refine gD ?_|fail)
   exact T0 (λz=>[B z]) ((qh h b (by rw[<-d];exact e)).symm)
theorem aF{s:au}(h:bg s=true):0<=s.Page/\s.Page<=31/\0<=s.Class/\s.Class<=3:=by
 unfold bg at h;simp only[C0]at h;omega
theorem co{k:Int}(h:0<=k/\k<=3):csz k=1\/csz k=2\/csz k=4\/csz k=8:=by
 obtain rfl|rfl|rfl|rfl:k=0\/k=1\/k=2\/k=3:=ω
 all_goals decide
theorem mW{x y:Int}(h:0<=x):x.tdiv y=x / y:=Int.tdiv_eq_ediv_of_nonneg h
theorem dI{x y:Int}(h:0<=x):x.tmod y=x % y:=Int.tmod_eq_emod_of_nonneg h
def S2(p:Int × Int):List C:=[I p.1,I p.2]
theorem yr{a b:Int}{p:Int × Int}(h:(a,b)=p):[I a,I b]=S2 p:=by subst h;rfl
theorem sr(s:au)(a:Int)(k:lr a):ar Tryz.prog 328 false [.val (some 3) (au.enc .imm s),.val none [I a]] (.tup [none,none]) (S2 (gR s a)):=by
 have g:=fR s;have l:=dt s.Class;obtain⟨n,o⟩:=k;cases b:bg s<;>rw[b]at g
 ·refine fO 33 [(4,12,[23,24,25,26,27,28,29,30,31,32,4,5])] Tryz.func328 rfl ?_ (.inr ⟨trivial,trivial,trivial⟩)
  repeat'(first|refine gO ?_|(conv=>whnf);first|refine C6 g ?_)
  exact yr (by unfold gR cA;rw[b];rfl)
 ·have h:=aF b
  have i:=co ⟨h.2.2.1,h.2.2.2⟩;by_cases c:16*s.Page<=a/\a<=16*s.Page+15
  ·have j:0<=a:=ω
   refine fO 33 [(4,12,[23,24,25,26,27,28,29,30,31,32,4,5])] Tryz.func328 rfl ?_ (.inr ⟨trivial,trivial,trivial⟩)
   repeat'(first|refine gD ?_|(conv=>whnf);first|with_reducible refine Bf.N (λd=>?_) (λd=>?_)|refine C6 g ?_|refine C6 l ?_|refine CK (by decide) ?_|refine CK ω ?_|refine CI ((T0 _ (mW j)).trans (eA ω ω)) ?_|refine CM (dI j) ?_|refine CI ((T0 _ (mW ω)).trans (eA (by rcases i with e|e|e|e<;>rw[e]<;>omega) (by rcases i with e|e|e|e<;>rw[e]<;>omega))) ?_|refine CM (dI ω) ?_)
   all_goals first
    |(exfalso;omega)
    |exact yr (by unfold gR cA;rw[b,O0 c];show _=((a - 16*s.Page) / csz s.Class,(a - 16*s.Page) % csz s.Class);rw[show a % 16=a - 16*s.Page by omega])
  ·refine fO 33 [(4,12,[23,24,25,26,27,28,29,30,31,32,4,5])] Tryz.func328 rfl ?_ (.inr ⟨trivial,trivial,trivial⟩)
   repeat'(first|refine gO ?_|(conv=>whnf);first|with_reducible (first|refine Bf.D (λd=>?_) (λd=>?_)|refine Bf.N (λd=>?_) (λd=>?_))|refine C6 g ?_|refine CK (by decide) ?_|refine CI ((T0 _ (mW ω)).trans (eA ω ω)) ?_)
   all_goals first
    |exact yr (by unfold gR cA;rw[b,Q0 c];rfl)
    |(exfalso;omega)
theorem A9(s:au)(a:Int):ar Tryz.prog 182 false [.val (some 3) (au.enc .imm s),.val none [I a]] (.tup [none,none]) (S2 (gR s a)):=by
 have d:=iJ s;have j:=eC s.Class;cases b:bg s<;>rw[b]at d
 ·refine fO 38 [(4,12,[28,29,30,31,32,33,34,35,36,37,4,5])] Tryz.func182 rfl ?_ (.inr ⟨trivial,trivial,trivial⟩)
  repeat'(first|refine gO ?_|(conv=>whnf);first|refine C6 d ?_)
  exact yr (by unfold gR cA;rw[b];rfl)
 ·have h:=aF b
  have i:=co ⟨h.2.2.1,h.2.2.2⟩;by_cases c:16*s.Page<=a/\a<=16*s.Page+15
  ·refine fO 38 [(4,12,[28,29,30,31,32,33,34,35,36,37,4,5])] Tryz.func182 rfl ?_ (.inr ⟨trivial,trivial,trivial⟩)
   repeat'(first|refine gD ?_|(conv=>whnf);first|with_reducible refine Bf.D (λg=>?_) (λg=>?_)|refine C6 d ?_|refine C6 j ?_|refine C6 (aM _ _ _) ?_|refine CK ω ?_|refine CI ((T0 _ (mW ω)).trans (eA (by rcases i with e|e|e|e<;>rw[e]<;>omega) (by rcases i with e|e|e|e<;>rw[e]<;>omega))) ?_|refine CM (dI ω) ?_)
   all_goals exact yr (by unfold gR cA;rw[b,O0 c];show _=((a - 16*s.Page) / csz s.Class,(a - 16*s.Page) % csz s.Class);rw[show a - s.Page*16=a - 16*s.Page by omega])
  ·refine fO 38 [(4,12,[28,29,30,31,32,33,34,35,36,37,4,5])] Tryz.func182 rfl ?_ (.inr ⟨trivial,trivial,trivial⟩)
   repeat'(first|refine gD ?_|(conv=>whnf);first|with_reducible refine Bf.D (λg=>?_) (λg=>?_)|refine C6 d ?_|refine C6 (aM _ _ _) ?_)
   all_goals exact yr (by unfold gR cA;rw[b,Q0 c];rfl)
theorem nR(b i:Int):ar Tryz.prog 260 false [.val none [I b],.val none [I i]] .one [B (decide (0<=b/\0<=i/\i<=15))]:=by
 refine fO 11 [] Tryz.func260 rfl ?_
 repeat'(first|refine gO ?_|(conv=>whnf);first|with_reducible refine Bf.D (λa=>?_) (λa=>?_)|refine C6 (aE _ 0 15) ?_)
 all_goals exact T0 (λz=>[B z]) ((by first|(symm;exact Q0 ω)|exact decide_eq_decide.2 ω))
theorem yy(b i:Int):ar Tryz.prog 248 false [.val none [I b],.val none [I i]] .one [B (decide (0<=b/\0<=i/\i<=15))]:=by
 refine fO 11 [] Tryz.func248 rfl ?_
 repeat'(first|refine gO ?_|(conv=>whnf);first|with_reducible refine Bf.D (λa=>?_) (λa=>?_)|refine C6 (aM _ 0 15) ?_)
 all_goals exact T0 (λz=>[B z]) ((by first|(symm;exact Q0 ω)|exact decide_eq_decide.2 ω))
theorem JE{b i:Int}(a:0<=b/\b<=9223372036854775807)(e:0<=i/\i<=15):b.fdiv (2 ^ min i.toNat IntKind.i64.bits)=b / 2 ^ i.toNat/\0<=b / 2 ^ i.toNat/\b / 2 ^ i.toNat<=9223372036854775807:=by
 have d:min i.toNat IntKind.i64.bits=i.toNat:=Nat.min_eq_left (show i.toNat<=64 by omega);rw[d];have c:(0:Int)<=2 ^ i.toNat:=Int.pow_nonneg (by decide);refine⟨Int.fdiv_eq_ediv_of_nonneg _ c,Int.ediv_nonneg a.1 c,?_⟩;have:=Int.ediv_le_self (2 ^ i.toNat:Int) a.1;omega
theorem uU{b i:Int}(a:0<=b)(e:0<=i/\i<=15):((((b / 2 ^ i.toNat).toNat &&& (1:Int).toNat:Nat):Int) == 1)=aY b i:=by
 have c:(0:Int)<=b / 2 ^ i.toNat:=Int.ediv_nonneg a (Int.pow_nonneg (by decide));have d:(b / 2 ^ i.toNat).toNat &&& (1:Int).toNat=(b / 2 ^ i.toNat).toNat % 2:=Nat.and_one_is_mod _;rw[d];unfold aY;generalize b / 2 ^ i.toNat=q at c |-;rw[Z3,beq_iff_eq,C0];omega
theorem ia(b i:Int)(c:b<=9223372036854775807):ar Tryz.prog 192 false [.val none [I b],.val none [I i]] .one [B (aY b i)]:=by
 by_cases h:0<=b/\0<=i/\i<=15
 ·obtain⟨d,g⟩:=JE (b:=b) (i:=i) ⟨h.1,c⟩ h.2
  have j:IntKind.u64.wrap i=i:=by unfold IntKind.wrap;simp[IntKind.signed,IntKind.bits];omega
  refine fO 16 [] Tryz.func192 rfl ?_
  repeat'(first|refine gD ?_|(conv=>whnf);first|with_reducible refine Bf.D (λa=>?_) (λa=>?_)|refine C6 (nR _ _) ?_|refine CK ω ?_|refine CI j ?_|refine CM d ?_|refine CI (and64 g ⟨by decide,by decide⟩) ?_)
  all_goals exact T0 (λz=>[B z]) ((uU h.1 h.2))
 ·refine fO 16 [] Tryz.func192 rfl ?_
  repeat'(first|refine gD ?_|(conv=>whnf);first|with_reducible refine Bf.D (λa=>?_) (λa=>?_)|refine C6 (nR _ _) ?_)
  all_goals exact T0 (λz=>[B z]) ((by unfold aY;symm;exact Q0 λe=>h ⟨e.1,e.2.1,e.2.2.1⟩))
theorem pT(b i:Int)(c:b<=9223372036854775807):ar Tryz.prog 173 false [.val none [I b],.val none [I i]] .one [B (aY b i)]:=by
 by_cases h:0<=b/\0<=i/\i<=15
 ·obtain⟨d,g⟩:=JE (b:=b) (i:=i) ⟨h.1,c⟩ h.2
  refine fO 15 [] Tryz.func173 rfl ?_
  repeat'(first|refine gD ?_|(conv=>whnf);first|with_reducible refine Bf.D (λa=>?_) (λa=>?_)|refine C6 (yy _ _) ?_|refine CK ω ?_|refine CM d ?_|refine CI (and64 g ⟨by decide,by decide⟩) ?_)
  all_goals exact T0 (λz=>[B z]) ((uU h.1 h.2))
 ·refine fO 15 [] Tryz.func173 rfl ?_
  repeat'(first|refine gD ?_|(conv=>whnf);first|with_reducible refine Bf.D (λa=>?_) (λa=>?_)|refine C6 (yy _ _) ?_)
  all_goals exact T0 (λz=>[B z]) ((by unfold aY;symm;exact Q0 λe=>h ⟨e.1,e.2.1,e.2.2.1⟩))
theorem cu{l:a8}(h:bR l=true):9<=l.Size/\l.Size<=1000/\0<=l.Page/\l.Page<=31:=by
 unfold bR at h;simp only[C0]at h;omega
theorem o9(l:a8)(a:Int):ar Tryz.prog 329 false [.val (some 3) (a8.enc .imm l),.val none [I a]] .one [B (bx l a)]:=by
 have c:=md l;cases b:bR l<;>rw[b]at c
 ·refine fO 24 [] Tryz.func329 rfl ?_
  repeat'(first|refine gO ?_|(conv=>whnf);first|refine C6 c ?_)
  exact T0 (λz=>[B z]) ((by unfold bx;rw[b];rfl))
 ·have e:=cu b
  refine fO 24 [] Tryz.func329 rfl ?_
  repeat'(first|refine gO ?_|(conv=>whnf);first|with_reducible refine Bf.D (λd=>?_) (λd=>?_)|refine C6 c ?_)
  all_goals exact T0 (λz=>[B z]) ((by unfold bx;rw[b,Bool.true_and];first|(symm;exact Q0 ω)|exact decide_eq_decide.2 ω))
theorem oH(l:a8)(a:Int):ar Tryz.prog 183 false [.val (some 3) (a8.enc .imm l),.val none [I a]] .one [B (bx l a)]:=by
 have c:=q9 l;cases b:bR l<;>rw[b]at c
 ·refine fO 21 [] Tryz.func183 rfl ?_
  repeat'(first|refine gO ?_|(conv=>whnf);first|refine C6 c ?_)
  exact T0 (λz=>[B z]) ((by unfold bx;rw[b];rfl))
 ·have e:=cu b
  refine fO 21 [] Tryz.func183 rfl ?_
  repeat'(first|refine gO ?_|(conv=>whnf);first|with_reducible refine Bf.D (λd=>?_) (λd=>?_)|refine C6 c ?_|refine C6 (aM _ _ _) ?_)
  all_goals exact T0 (λz=>[B z]) ((by unfold bx;rw[b,Bool.true_and];exact decide_eq_decide.2 ω))
theorem rJ(l:a8)(a:Int)(h:bx l a=true):ar Tryz.prog 330 false [.val (some 3) (a8.enc .imm l),.val none [I a]] .one [I (a - 16*l.Page)]:=by
 have b:=o9 l a;rw[h]at b;unfold bx at h;simp only[I0,C0]at h;have c:=cu h.1;refine fO 14 [] Tryz.func330 rfl ?_
 repeat'(first|refine gO ?_|(conv=>whnf);first|refine C6 b ?_)
 exact T0 (λz=>[I z]) ω
theorem rV(l:a8)(a:Int)(h:bx l a=true):ar Tryz.prog 184 false [.val (some 3) (a8.enc .imm l),.val none [I a]] .one [I (a - 16*l.Page)]:=by
 have b:=oH l a;rw[h]at b;unfold bx at h;simp only[I0,C0]at h;have c:=cu h.1;refine fO 14 [] Tryz.func184 rfl ?_
 repeat'(first|refine gO ?_|(conv=>whnf);first|refine C6 b ?_)
 exact T0 (λz=>[I z]) ω
theorem om{m:aH}{i:Nat}(a:i<m.Buffers.length)(h:fW m i=false):bD m=false:=by
 unfold bD;rw[cb a h];simp
theorem vR{m:aH}(h:¬(1<=m.Buffers.length/\m.Buffers.length<=4/\m.Inbox.length=m.Buffers.length)):bD m=false:=by
 unfold bD;rw[Q0 h];rfl
theorem uL{m:aH}(h1:1<=m.Buffers.length/\m.Buffers.length<=4/\m.Inbox.length=m.Buffers.length)(a:cC m.Buffers.length (fW m)=true):bD m=decide (bp m m.Buffers.length<=30):=by
 unfold bD;rw[O0 h1,a];rfl
theorem kq(m:aH)(h:aH.sml m):ar Tryz.prog 206 false [.val (some 2) (aH.enc .imm m)] .one [B (bD m)]:=by
 have u:m.Buffers.length<=1048576:=h.1.1;have w:m.Inbox.length<=1048576:=h.2.1;by_cases n:1<=m.Buffers.length/\m.Buffers.length<=4/\m.Inbox.length=m.Buffers.length
 ·refine fO 92 [(19,15,[75,76,77,78,79,80,81,82,83,84,85,86,87,88,89])] Tryz.func206 rfl ?_
  repeat'(first|refine gA ?_|(conv=>whnf);first|with_reducible (first|refine Bf.D (λa=>?_) (λa=>?_)|refine Bf.N (λa=>?_) (λa=>?_))|refine C6 (aE _ 1 4) ?_)
  (conv=>whnf)
  refine CC (ι:=Nat) (λi=>[(1,.hold .box (aH.enc .imm m)),(3,.hold .one [I (m.Buffers.length)]),(4,.hold .one [I (bp m i)]),(5,.hold .one [I ((i:Nat):Int)])]) (λi=>i<=m.Buffers.length/\cC i (fW m)=true/\0<=bp m i/\bp m i<=2097152*i) (λi=>m.Buffers.length - i) (0) ?_ (⟨R0 _,rfl,by simp[bp],by simp[bp]⟩) λi o=>?_
  ·exact wB
  obtain⟨o,p,G,H⟩:=o;by_cases j:i<m.Buffers.length
  ·have l:=ah j
   have q:=ah (xs:=m.Inbox) (i:=i) ω;have y:(nth m.Buffers i).length<=1048576:=(h.1.2 _ (am j)).1;have C:(nth m.Inbox i).length<=1048576:=h.2.2 _ (am ω)
   repeat'(first|refine gD ?_|fail)
   (conv=>whnf)
   refine CC (ι:=Nat) (λk=>[(1,.hold .box (aH.enc .imm m)),(3,.hold .one [I (m.Buffers.length)]),(4,.hold .one [I (bp m i)]),(5,.hold .one [I ((i:Nat):Int)]),(6,.hold .one [I ((k:Nat):Int)])]) (λk=>k<=(nth m.Buffers i).length/\((nth m.Buffers i).take k).all (lX m.Buffers.length)=true) (λk=>(nth m.Buffers i).length - k) (0) ?_ (⟨R0 _,rfl⟩) λk r=>?_
   ·exact wB
   obtain⟨r,t⟩:=r;by_cases E:k<(nth m.Buffers i).length
   ·have c:=ah E
    repeat'(first|refine gD ?_|(conv=>whnf);first|with_reducible (first|refine CA (aa l) ?_|refine CA (aa c) ?_|refine Bf.D (λa=>?_) (λa=>?_))|refine C6 (aE _ 0 _) ?_)
    all_goals first
     | exact T0 (λz=>[B z]) ((om j (by unfold fW;rw[dN c (by unfold lX;exact Q0 ω)];rfl)).symm)
     | ((conv=>whnf);refine CB (k+1) ⟨ω,cz c t (by unfold lX;exact O0 ω)⟩ ω ?_;(exact wB))
   ·have F:=fV ω t
    repeat'(first|refine gD ?_|(conv=>whnf);first|with_reducible refine CA (aa l) ?_)
    (conv=>whnf)
    refine CC (ι:=Nat) (λb=>[(1,.hold .box (aH.enc .imm m)),(3,.hold .one [I (m.Buffers.length)]),(4,.hold .one [I (bp m i)]),(5,.hold .one [I ((i:Nat):Int)]),(8,.hold .one [I ((b:Nat):Int)])]) (λb=>b<=(nth m.Inbox i).length/\((nth m.Inbox i).take b).all Mo=true) (λb=>(nth m.Inbox i).length - b) (0) ?_ (⟨R0 _,rfl⟩) λb e=>?_
    ·exact wB
    obtain⟨e,ak2⟩:=e;by_cases lk2:b<(nth m.Inbox i).length
    ·have c:=ah lk2
     repeat'(first|refine gD ?_|(conv=>whnf);first|with_reducible (first|refine CA (aa q) ?_|refine CA (aa c) ?_|refine Bf.D (λa=>?_) (λa=>?_)))
     all_goals first
      | exact T0 (λz=>[B z]) ((om j (by unfold fW;rw[dN c (by unfold Mo;exact Q0 ω)];simp)).symm)
      | ((conv=>whnf);refine CB (b+1) ⟨ω,cz c ak2 (by unfold Mo;exact O0 ω)⟩ ω ?_;(exact wB))
    ·have ae2:=fV ω ak2
     have g:bp m (i+1)=bp m i+((nth m.Buffers i).length+(nth m.Inbox i).length):=rfl;have d:bp m (i+1)=bp m i+(nth m.Buffers i).length+(nth m.Inbox i).length:=by rw[g];omega
     repeat'(first|refine gD ?_|(conv=>whnf);first|with_reducible (first|refine CA (aa l) ?_|refine CA (aa q) ?_))
     ((conv=>whnf);refine CB (i+1) ⟨ω,bJ p (by unfold fW;rw[F,ae2];rfl),ω,ω⟩ ω ?_)
     rw[d];exact wB
  ·obtain rfl:i=m.Buffers.length:=ω
   repeat'(first|refine gD ?_|fail)
   exact T0 (λz=>[B z]) ((uL n p).symm)
 ·refine fO 92 [(19,15,[75,76,77,78,79,80,81,82,83,84,85,86,87,88,89])] Tryz.func206 rfl ?_
  repeat'(first|refine gO ?_|(conv=>whnf);first|with_reducible (first|refine Bf.D (λa=>?_) (λa=>?_)|refine Bf.N (λa=>?_) (λa=>?_))|refine C6 (aE _ 1 4) ?_)
  all_goals first
   | exact T0 (λz=>[B z]) ((vR n).symm)
   |(exfalso;omega)
theorem su(m:aH)(g:aH.sml m):ar Tryz.prog 70 false [.val (some 2) (aH.enc .imm m)] .one [B (bD m)]:=by
 have t:m.Buffers.length<=1048576:=g.1.1;have u:m.Inbox.length<=1048576:=g.2.1;by_cases n:1<=m.Buffers.length/\m.Buffers.length<=4/\m.Inbox.length=m.Buffers.length
 ·refine fO 82 [(20,15,[64,65,66,67,68,69,70,71,72,73,74,75,76,77,78])] Tryz.func70 rfl ?_
  repeat'(first|refine gA ?_|(conv=>whnf);first|with_reducible (first|refine Bf.D (λa=>?_) (λa=>?_)|refine Bf.N (λa=>?_) (λa=>?_))|refine C6 (aM _ 1 4) ?_)
  (conv=>whnf)
  refine CC (ι:=Nat) (λi=>[(1,.hold .box (aH.enc .imm m)),(3,.hold .one [I (m.Buffers.length)]),(4,.hold .one [I (bp m i)]),(25,.hold .one [I (m.Buffers.length)]),(26,.hold .one [I ((i:Nat):Int)])]) (λi=>i<=m.Buffers.length/\cC i (fW m)=true/\0<=bp m i/\bp m i<=2097152*i) (λi=>m.Buffers.length - i) (0) ?_ (⟨R0 _,rfl,by simp[bp],by simp[bp]⟩) λi o=>?_
  ·exact wB
  obtain⟨o,p,F,G⟩:=o;by_cases h:i<m.Buffers.length
  ·have j:=ah h
   have l:=ah (xs:=m.Inbox) (i:=i) ω;have w:(nth m.Buffers i).length<=1048576:=(g.1.2 _ (am h)).1;have y:(nth m.Inbox i).length<=1048576:=g.2.2 _ (am ω)
   repeat'(first|refine gD ?_|(conv=>whnf);first|with_reducible refine CA (aa j) ?_)
   (conv=>whnf)
   refine CC (ι:=Nat) (λk=>[(1,.hold .box (aH.enc .imm m)),(3,.hold .one [I (m.Buffers.length)]),(4,.hold .one [I (bp m i)]),(5,.hold .one [I ((i:Nat):Int)]),(25,.hold .one [I (m.Buffers.length)]),(26,.hold .one [I ((i:Nat):Int)]),(33,.hold .one (bT .imm (nth m.Buffers i))),(34,.hold .one [I ((nth m.Buffers i).length)]),(35,.hold .one [I ((k:Nat):Int)])]) (λk=>k<=(nth m.Buffers i).length/\((nth m.Buffers i).take k).all (lX m.Buffers.length)=true) (λk=>(nth m.Buffers i).length - k) (0) ?_ (⟨R0 _,rfl⟩) λk q=>?_
   ·exact wB
   obtain⟨q,r⟩:=q;by_cases C:k<(nth m.Buffers i).length
   ·have c:=ah C
    repeat'(first|refine gD ?_|(conv=>whnf);first|with_reducible (first|refine CA (aa j) ?_|refine CA (aa c) ?_|refine Bf.D (λa=>?_) (λa=>?_))|refine C6 (aM _ 0 _) ?_)
    all_goals first
     | exact T0 (λz=>[B z]) ((om h (by unfold fW;rw[dN c (by unfold lX;exact Q0 ω)];rfl)).symm)
     | ((conv=>whnf);refine CB (k+1) ⟨ω,cz c r (by unfold lX;exact O0 ω)⟩ ω ?_;(exact wB))
   ·have E:=fV ω r
    repeat'(first|refine gD ?_|(conv=>whnf);first|with_reducible (first|refine CA (aa j) ?_|refine CA (aa l) ?_))
    (conv=>whnf)
    refine CC (ι:=Nat) (λb=>[(1,.hold .box (aH.enc .imm m)),(3,.hold .one [I (m.Buffers.length)]),(4,.hold .one [I (bp m i)]),(5,.hold .one [I ((i:Nat):Int)]),(25,.hold .one [I (m.Buffers.length)]),(26,.hold .one [I ((i:Nat):Int)]),(55,.hold .one (aD .imm (nth m.Inbox i))),(56,.hold .one [I ((nth m.Inbox i).length)]),(57,.hold .one [I ((b:Nat):Int)])]) (λb=>b<=(nth m.Inbox i).length/\((nth m.Inbox i).take b).all Mo=true) (λb=>(nth m.Inbox i).length - b) (0) ?_ (⟨R0 _,rfl⟩) λb d=>?_
    ·exact wB
    obtain⟨d,ak2⟩:=d;by_cases lk2:b<(nth m.Inbox i).length
    ·have c:=ah lk2
     repeat'(first|refine gD ?_|(conv=>whnf);first|with_reducible (first|refine CA (aa l) ?_|refine CA (aa c) ?_|refine Bf.D (λa=>?_) (λa=>?_)))
     all_goals first
      | exact T0 (λz=>[B z]) ((om h (by unfold fW;rw[dN c (by unfold Mo;exact Q0 ω)];simp)).symm)
      | ((conv=>whnf);refine CB (b+1) ⟨ω,cz c ak2 (by unfold Mo;exact O0 ω)⟩ ω ?_;(exact wB))
    ·have ae2:=fV ω ak2
     have e:bp m (i+1)=bp m i+((nth m.Buffers i).length+(nth m.Inbox i).length):=rfl
     repeat'(first|refine gD ?_|(conv=>whnf);first|with_reducible (first|refine CA (aa j) ?_|refine CA (aa l) ?_))
     ((conv=>whnf);refine CB (i+1) ⟨ω,bJ p (by unfold fW;rw[E,ae2];rfl),ω,ω⟩ ω ?_)
     rw[e];exact wB
  ·obtain rfl:i=m.Buffers.length:=ω
   repeat'(first|refine gD ?_|fail)
   exact T0 (λz=>[B z]) ((uL n p).symm)
 ·refine fO 82 [(20,15,[64,65,66,67,68,69,70,71,72,73,74,75,76,77,78])] Tryz.func70 rfl ?_
  repeat'(first|refine gO ?_|(conv=>whnf);first|with_reducible (first|refine Bf.D (λa=>?_) (λa=>?_)|refine Bf.N (λa=>?_) (λa=>?_))|refine C6 (aM _ 1 4) ?_)
  all_goals first
   | exact T0 (λz=>[B z]) ((vR n).symm)
   |(exfalso;omega)
theorem y9{s:au}{a:Int}(h:cA s a=false):S2 (gR s a)=[I (-1),I (-1)]:=by
 unfold gR;rw[h];rfl
theorem ug{s:au}{a:Int}(h:cA s a=true):S2 (gR s a)=[I ((a - 16*s.Page) / csz s.Class),I ((a - 16*s.Page) % csz s.Class)]:=by
 unfold gR;rw[h];rfl
theorem qg{s:au}{a:Int}(h:cA s a=true):bg s=true/\0<=(a - 16*s.Page) / csz s.Class/\(a - 16*s.Page) / csz s.Class<=15:=by
 unfold cA at h;simp only[I0,C0]at h;have b:=aF h.1;refine⟨h.1,?_⟩;rcases co ⟨b.2.2.1,b.2.2.2⟩ with e|e|e|e<;>rw[e]<;>omega
theorem lS{sp:List au}{la:List a8}{a:Int}{i:Nat}(b:i<sp.length)(h:cA (nth sp i) a=true)(c:∀(j:Nat)(z:au),j<i->sp[j]? = some z->cA z a=false):denotes sp la a=ou i (nth sp i) a:=by
 unfold denotes;rw[tD (pr:=(cA · a)) (ah b) h c]
theorem k4{sp:List au}{la:List a8}{a:Int}{i n:Nat}(b:sp.length<=n)(c:∀(j:Nat)(z:au),j<n->sp[j]? = some z->cA z a=false)(d:i<la.length)(h:bx (nth la i) a=true)(e:∀(j:Nat)(z:a8),j<i->la[j]? = some z->bx z a=false) :
  denotes sp la a = ⟨3,i,0,a - 16*(nth la i).Page⟩:=by
 unfold denotes;rw[ul (pr:=(cA · a)) b c,tD (pr:=(bx · a)) (ah d) h e]
theorem vq{sp:List au}{la:List a8}{a:Int}{n k:Nat}(b:sp.length<=n)(c:∀(j:Nat)(z:au),j<n->sp[j]? = some z->cA z a=false)(d:la.length<=k)(e:∀(j:Nat)(z:a8),j<k->la[j]? = some z->bx z a=false):denotes sp la a = ⟨0,0,0,0⟩:=by
 unfold denotes;rw[ul (pr:=(cA · a)) b c,ul (pr:=(bx · a)) d e]
theorem lz(sp:List au)(la:List a8)(a:Int)(e:dn sp)(g:dq la)(h:bj sp la=true)(C:lr a):ar Tryz.prog 275 false [.val none (bP .imm sp),.val none (bN .imm la),.val none [I a]] .agg (i7.enc .own (denotes sp la a)):=by
 have E:=e.1;have F:=g.1;have q:=kH sp la e g;rw[h]at q;refine fO 67 [] Tryz.func275 rfl ?_ (.inr (i7.enc_fr _))
 repeat'(first|refine gO ?_|(conv=>whnf);first|refine C6 q ?_)
 (conv=>whnf)
 refine CC (ι:=Nat) (λi=>[(0,.hold .one (bP .imm sp)),(1,.hold .one (bN .imm la)),(2,.hold .one [I (a)]),(6,.hold .box ([I 0,I 0,I 0,I 0])),(7,.hold .one [I ((i:Nat):Int)])]) (λi=>i<=sp.length/\∀(j:Nat)(z:au),j<i->sp[j]? = some z->cA z a=false) (λi=>sp.length - i) (0) ?_ (⟨R0 _,λj z G=>ω⟩) λi r=>?_
 ·exact wB
 obtain⟨r,l⟩:=r;by_cases t:i<sp.length
 ·have d:=ah t
  have c:=sr (nth sp i) a C;cases b:cA (nth sp i) a with
  | false=>
   rw[y9 b]at c
   repeat'(first|refine gD ?_|(conv=>whnf);first|with_reducible (first|refine CA (aa d) ?_|refine Bf.D (λo=>?_) (λo=>?_))|refine C6 c ?_)
   ((conv=>whnf);refine CB (i+1) ⟨ω,cY (pr:=(cA · a)) d b l⟩ ω ?_;(exact wB))
  | true=>
   rw[ug b]at c;obtain⟨H,J,K⟩:=qg b;have u:=ia (nth sp i).Bits ((a - 16*(nth sp i).Page) / csz (nth sp i).Class) (eE H).2;cases w:aY (nth sp i).Bits ((a - 16*(nth sp i).Page) / csz (nth sp i).Class)<;>rw[w]at u
   all_goals
    repeat'(first|refine gD ?_|(conv=>whnf);first|with_reducible (first|refine CA (aa d) ?_|refine Bf.D (λo=>?_) (λo=>?_))|refine C6 c ?_|refine C6 u ?_)
    all_goals(rw[lS t b l];unfold ou;rw[w];rfl)
 ·repeat'(first|refine gD ?_|fail)
  (conv=>whnf)
  refine CC (ι:=Nat) (λk=>[(1,.hold .one (bN .imm la)),(2,.hold .one [I (a)]),(6,.hold .box ([I 0,I 0,I 0,I 0])),(11,.hold .one [I ((k:Nat):Int)])]) (λk=>k<=la.length/\∀(j:Nat)(z:a8),j<k->la[j]? = some z->bx z a=false) (λk=>la.length - k) (0) ?_ (⟨R0 _,λj z G=>ω⟩) λk y=>?_
  ·exact wB
  obtain⟨y,p⟩:=y;by_cases B:k<la.length
  ·have d:=ah B
   have c:=o9 (nth la k) a;cases b:bx (nth la k) a<;>rw[b]at c
   ·repeat'(first|refine gD ?_|(conv=>whnf);first|with_reducible refine CA (aa d) ?_|refine C6 c ?_)
    ((conv=>whnf);refine CB (k+1) ⟨ω,cY (pr:=(bx · a)) d b p⟩ ω ?_;(exact wB))
   ·repeat'(first|refine gD ?_|(conv=>whnf);first|with_reducible refine CA (aa d) ?_|refine C6 c ?_|refine C6 (rJ (nth la k) a b) ?_)
    rw[k4 (n:=i) ω l B b p];rfl
  ·repeat'(first|refine gD ?_|fail)
   rw[vq (n:=i) (k:=k) ω l ω p];rfl
theorem qD(sp:List au)(la:List a8)(a:Int)(g:dn sp)(h:dq la):ar Tryz.prog 91 false [.val none (bP .imm sp),.val none (bN .imm la),.val none [I a]] .agg (i7.enc .own (denotes sp la a)):=by
 have y:=g.1;have B:=h.1;refine fO 56 [] Tryz.func91 rfl ?_ (.inr (i7.enc_fr _))
 repeat'(first|refine gO ?_|fail)
 (conv=>whnf)
 refine CC (ι:=Nat) (λi=>[(1,.hold .one (bN .imm la)),(2,.hold .one [I (a)]),(6,.hold .box ([I 0,I 0,I 0,I 0])),(14,.hold .one (bP .imm sp)),(15,.hold .one [I (sp.length)]),(16,.hold .one [I ((i:Nat):Int)])]) (λi=>i<=sp.length/\∀(j:Nat)(z:au),j<i->sp[j]? = some z->cA z a=false) (λi=>sp.length - i) (0) ?_ (⟨R0 _,λj z C=>ω⟩) λi p=>?_
 ·exact wB
 obtain⟨p,e⟩:=p;by_cases q:i<sp.length
 ·have d:=ah q
  have c:=A9 (nth sp i) a;cases b:cA (nth sp i) a with
  | false=>
   rw[y9 b]at c
   repeat'(first|refine gD ?_|(conv=>whnf);first|with_reducible (first|refine CA (aa d) ?_|refine Bf.D (λl=>?_) (λl=>?_))|refine C6 c ?_)
   ((conv=>whnf);refine CB (i+1) ⟨ω,cY (pr:=(cA · a)) d b e⟩ ω ?_;(exact wB))
  | true=>
   rw[ug b]at c;obtain⟨E,F,G⟩:=qg b;have r:=pT (nth sp i).Bits ((a - 16*(nth sp i).Page) / csz (nth sp i).Class) (eE E).2;cases t:aY (nth sp i).Bits ((a - 16*(nth sp i).Page) / csz (nth sp i).Class)<;>rw[t]at r
   all_goals
    repeat'(first|refine gD ?_|(conv=>whnf);first|with_reducible (first|refine CA (aa d) ?_|refine Bf.D (λl=>?_) (λl=>?_))|refine C6 c ?_|refine C6 r ?_)
    all_goals(rw[lS q b e];unfold ou;rw[t];rfl)
 ·repeat'(first|refine gD ?_|fail)
  (conv=>whnf)
  refine CC (ι:=Nat) (λk=>[(2,.hold .one [I (a)]),(6,.hold .box ([I 0,I 0,I 0,I 0])),(39,.hold .one (bN .imm la)),(40,.hold .one [I (la.length)]),(41,.hold .one [I ((k:Nat):Int)])]) (λk=>k<=la.length/\∀(j:Nat)(z:a8),j<k->la[j]? = some z->bx z a=false) (λk=>la.length - k) (0) ?_ (⟨R0 _,λj z C=>ω⟩) λk u=>?_
  ·exact wB
  obtain⟨u,o⟩:=u;by_cases w:k<la.length
  ·have d:=ah w
   have c:=oH (nth la k) a;cases b:bx (nth la k) a<;>rw[b]at c
   ·repeat'(first|refine gD ?_|(conv=>whnf);first|with_reducible refine CA (aa d) ?_|refine C6 c ?_)
    ((conv=>whnf);refine CB (k+1) ⟨ω,cY (pr:=(bx · a)) d b o⟩ ω ?_;(exact wB))
   ·repeat'(first|refine gD ?_|(conv=>whnf);first|with_reducible refine CA (aa d) ?_|refine C6 c ?_|refine C6 (rV (nth la k) a b) ?_)
    rw[k4 (n:=i) ω e w b o];rfl
  ·repeat'(first|refine gD ?_|fail)
   rw[vq (n:=i) (k:=k) ω e ω o];rfl
section
variable{α:Type}
def BK(ag:Option Nat)(e:α->List C)(pr:α->Bool)(xs:List α):List (Option Nat × List C)->Kd->List C->Prop:=λL k rcs=>∃x,x∈xs/\L=[(ag,e x)]/\k=.one/\rcs=[B (pr x)]
end
theorem tA(xs:List a7)(pr:a7->Bool)(n:xs.length<=9223372036854775807):ar Tryz.prog 311 false [.val none (bw .imm xs),.fn (p6 Tryz.prog (BK (some 2) (a7.enc .imm) pr xs))] .one [I (di pr xs)]:=by
 refine fO 19 [] Tryz.func311 rfl ?_
 repeat'(first|refine gO ?_|fail)
 (conv=>whnf)
 refine CC (ι:=Nat) (λi=>[(0,.hold .one (bw .imm xs)),(1,.fv (p6 Tryz.prog (BK (some 2) (a7.enc .imm) pr xs))),(7,.hold .one [I xs.length]),(8,.hold .one [I (i:Nat)])]) (λi=>i<=xs.length/\∀(j:Nat)(z:a7),j<i->xs[j]? = some z->pr z=false) (λi=>xs.length - i) 0 ?_ ⟨R0 _,λj z h=>ω⟩ λi e=>?_
 ·exact wB
 ·obtain⟨e,b⟩:=e
  by_cases c:i<xs.length
  ·obtain⟨y,a⟩ : ∃y,xs[i]? = some y:=⟨_,U1 c⟩
   repeat'(first|refine gD ?_|(conv=>whnf);first|with_reducible refine CA (aa a) ?_|refine Fv.mk (k:=.one) (rcs:=[B (pr y)]) ⟨y,Q1 a,rfl,rfl,rfl⟩ ?_|refine Bf.P (λl=>?_) (λl=>?_))
   ·exact T0 (λz=>[I z]) (dB a ‹_› b).symm
   ·(conv=>whnf)
    refine CB (i+1) ⟨ω,λj z h d=>?_⟩ ω ?_
    ·rcases Nat.lt_or_ge j i with g|g
     ·exact b j z g d
     ·obtain rfl:j=i:=ω
      rw[a]at d;cases d;assumption
    ·exact wB
  ·repeat'(first|refine gD ?_|fail)
   exact T0 (λz=>[I z]) (fH ω b).symm
theorem pp(xs:List a7)(pr:a7->Bool)(a:xs.length<=9223372036854775807):ar Tryz.prog 245 false [.val none (bw .imm xs),.fn (p6 Tryz.prog (BK (some 2) (a7.enc .imm) pr xs))] .one [B (xs.any pr)]:=by
 refine fO 9 [] Tryz.func245 rfl ?_
 repeat'(first|refine gO ?_|(conv=>whnf);first|refine C6 (tA xs pr a) ?_)
 exact T0 (λz=>[B z]) (kO pr xs)
theorem sD(r:a7)(page:Int):ar Tryz.prog 246 false [.val (some 2) (a7.enc .imm r),.ptr [I page]] .one [B (pB page r)]:=by
 refine fO 17 [] Tryz.func246 rfl ?_
 repeat'(first|refine gO ?_|(conv=>whnf);first|with_reducible refine Bf.D (λa=>?_) (λa=>?_)|refine CI rfl ?_)
 all_goals exact T0 (λz=>[B z]) (by unfold pB;first|(rw[O0 (by assumption:r.At<=page)];simp;done)|(rw[Q0 (by assumption:¬r.At<=page)];rfl))
theorem xh(xs:List a7)(page:Int)(a:xs.length<=9223372036854775807):ar Tryz.prog 164 false [.val none (bw .imm xs),.val none [I page]] .one [B (xs.any (pB page))]:=by
 refine fO 8 [] Tryz.func164 rfl ?_
 repeat'(first|refine gO ?_|(conv=>whnf);first|refine Cq.mk (BK (some 2) (a7.enc .imm) (pB page) xs) (sD default page).has (λL k rcs b=>?_) ?_|refine C6 (pp xs (pB page) a) ?_)
 ·obtain⟨x,-,rfl,rfl,rfl⟩:=b
  exact sD x page
 ·rfl
theorem tq(xs:List aL)(pr:aL->Bool)(g:xs.length<=9223372036854775807):ar Tryz.prog 323 false [.val none (bV .imm xs),.fn (p6 Tryz.prog (BK (some 3) (aL.enc .imm) pr xs))] .one [I (di pr xs)]:=by
 refine fO 19 [] Tryz.func323 rfl ?_
 repeat'(first|refine gO ?_|fail)
 (conv=>whnf)
 refine CC (ι:=Nat) (λi=>[(0,.hold .one (bV .imm xs)),(1,.fv (p6 Tryz.prog (BK (some 3) (aL.enc .imm) pr xs))),(7,.hold .one [I xs.length]),(8,.hold .one [I (i:Nat)])]) (λi=>i<=xs.length/\∀(j:Nat)(z:aL),j<i->xs[j]? = some z->pr z=false) (λi=>xs.length - i) 0 ?_ ⟨R0 _,λj z h=>ω⟩ λi d=>?_
 ·exact wB
 ·obtain⟨d,b⟩:=d
  by_cases c:i<xs.length
  ·obtain⟨y,a⟩ : ∃y,xs[i]? = some y:=⟨_,U1 c⟩
   repeat'(first|refine gD ?_|(conv=>whnf);first|with_reducible refine CA (aa a) ?_|refine Fv.mk (k:=.one) (rcs:=[B (pr y)]) ⟨y,Q1 a,rfl,rfl,rfl⟩ ?_|refine Bf.P (λe=>?_) (λe=>?_))
   ·exact T0 (λz=>[I z]) (dB a ‹_› b).symm
   ·(conv=>whnf)
    refine CB (i+1) ⟨ω,cY a (by assumption) b⟩ ω ?_;exact wB
  ·repeat'(first|refine gD ?_|fail)
   exact T0 (λz=>[I z]) (fH ω b).symm
theorem po(xs:List aL)(pr:aL->Bool)(a:xs.length<=9223372036854775807):ar Tryz.prog 252 false [.val none (bV .imm xs),.fn (p6 Tryz.prog (BK (some 3) (aL.enc .imm) pr xs))] .one [B (xs.any pr)]:=by
 refine fO 9 [] Tryz.func252 rfl ?_
 repeat'(first|refine gO ?_|(conv=>whnf);first|refine C6 (tq xs pr a) ?_)
 exact T0 (λz=>[B z]) (kO pr xs)
theorem uQ(xs:List au)(pr:au->Bool)(g:xs.length<=9223372036854775807):ar Tryz.prog 99 false [.val none (bP .imm xs),.fn (p6 Tryz.prog (BK (some 3) (au.enc .imm) pr xs))] .one [I (di pr xs)]:=by
 refine fO 19 [] Tryz.func99 rfl ?_
 repeat'(first|refine gO ?_|fail)
 (conv=>whnf)
 refine CC (ι:=Nat) (λi=>[(0,.hold .one (bP .imm xs)),(1,.fv (p6 Tryz.prog (BK (some 3) (au.enc .imm) pr xs))),(7,.hold .one [I xs.length]),(8,.hold .one [I (i:Nat)])]) (λi=>i<=xs.length/\∀(j:Nat)(z:au),j<i->xs[j]? = some z->pr z=false) (λi=>xs.length - i) 0 ?_ ⟨R0 _,λj z h=>ω⟩ λi d=>?_
 ·exact wB
 ·obtain⟨d,b⟩:=d
  by_cases c:i<xs.length
  ·obtain⟨y,a⟩ : ∃y,xs[i]? = some y:=⟨_,U1 c⟩
   repeat'(first|refine gD ?_|(conv=>whnf);first|with_reducible refine CA (aa a) ?_|refine Fv.mk (k:=.one) (rcs:=[B (pr y)]) ⟨y,Q1 a,rfl,rfl,rfl⟩ ?_|refine Bf.P (λe=>?_) (λe=>?_))
   ·exact T0 (λz=>[I z]) (dB a ‹_› b).symm
   ·(conv=>whnf)
    refine CB (i+1) ⟨ω,cY a (by assumption) b⟩ ω ?_;exact wB
  ·repeat'(first|refine gD ?_|fail)
   exact T0 (λz=>[I z]) (fH ω b).symm
theorem oK(xs:List bC)(pr:bC->Bool)(g:xs.length<=9223372036854775807):ar Tryz.prog 101 false [.val none (iX .imm xs),.fn (p6 Tryz.prog (BK (some 4) (bC.enc .imm) pr xs))] .one [I (di pr xs)]:=by
 refine fO 19 [] Tryz.func101 rfl ?_
 repeat'(first|refine gO ?_|fail)
 (conv=>whnf)
 refine CC (ι:=Nat) (λi=>[(0,.hold .one (iX .imm xs)),(1,.fv (p6 Tryz.prog (BK (some 4) (bC.enc .imm) pr xs))),(7,.hold .one [I xs.length]),(8,.hold .one [I (i:Nat)])]) (λi=>i<=xs.length/\∀(j:Nat)(z:bC),j<i->xs[j]? = some z->pr z=false) (λi=>xs.length - i) 0 ?_ ⟨R0 _,λj z h=>ω⟩ λi d=>?_
 ·exact wB
 ·obtain⟨d,b⟩:=d
  by_cases c:i<xs.length
  ·obtain⟨y,a⟩ : ∃y,xs[i]? = some y:=⟨_,U1 c⟩
   repeat'(first|refine gD ?_|(conv=>whnf);first|with_reducible refine CA (aa a) ?_|refine Fv.mk (k:=.one) (rcs:=[B (pr y)]) ⟨y,Q1 a,rfl,rfl,rfl⟩ ?_|refine Bf.P (λe=>?_) (λe=>?_))
   ·exact T0 (λz=>[I z]) (dB a ‹_› b).symm
   ·(conv=>whnf)
    refine CB (i+1) ⟨ω,cY a (by assumption) b⟩ ω ?_;exact wB
  ·repeat'(first|refine gD ?_|fail)
   exact T0 (λz=>[I z]) (fH ω b).symm
theorem rL(xs:List bC)(pr:bC->Bool)(a:xs.length<=9223372036854775807):ar Tryz.prog 168 false [.val none (iX .imm xs),.fn (p6 Tryz.prog (BK (some 4) (bC.enc .imm) pr xs))] .one [B (xs.any pr)]:=by
 refine fO 9 [] Tryz.func168 rfl ?_
 repeat'(first|refine gO ?_|(conv=>whnf);first|refine C6 (oK xs pr a) ?_)
 exact T0 (λz=>[B z]) (kO pr xs)
theorem Mb{k:Nat}(a:k<=3):IntKind.i64.wrap (1*2 ^ min ((k:Nat):Int).toNat IntKind.i64.bits)=csz (k:Nat):=by
 obtain rfl|rfl|rfl|rfl:k=0\/k=1\/k=2\/k=3:=ω
 all_goals decide
theorem Mw{k:Nat}(a:k<=100):IntKind.u64.wrap (k:Nat)=(k:Nat):=by
 unfold IntKind.wrap;simp[IntKind.signed,IntKind.bits];omega
theorem Am{k:Nat}{z:Int}(a:k<=3)(h:csz (k:Nat)<z)(b:z<=8):k<=2:=by
 have c:csz ((3:Nat):Int)=8:=by decide
 obtain rfl|rfl|rfl|rfl:k=0\/k=1\/k=2\/k=3:=ω
 all_goals omega
theorem vU{k:Nat}{z:Int}(g:k<=3)(h1:1<=z)(a:k=0\/csz ((k - 1:Nat):Int)<z)(b:¬csz (k:Nat)<z):aN z=(k:Nat):=by
 have c:csz ((0:Nat):Int)=1:=by decide
 have d:csz ((1:Nat):Int)=2:=by decide
 have e:csz ((2:Nat):Int)=4:=by decide
 have f:csz ((3:Nat):Int)=8:=by decide
 unfold aN;obtain rfl|rfl|rfl|rfl:k=0\/k=1\/k=2\/k=3:=ω
 all_goals simp only[Nat.reduceSub,c,d,e,f]at a b
 all_goals(repeat' split)<;>omega
theorem jh(z:Int):ar Tryz.prog 233 false [.val none [I z]] .one [I (aN z)]:=by
 refine fO 15 [] Tryz.func233 rfl ?_;by_cases c:1<=z/\z<=8
 ·repeat'(first|refine gD ?_|(conv=>whnf);first|with_reducible refine Bf.D (λb=>?_) (λb=>?_)|refine C6 (aE z 1 8) ?_)
  (conv=>whnf)
  refine CC (ι:=Nat) (λk=>[(0,.hold .one [I (z)]),(3,.hold .one [I ((k:Nat):Int)])]) (λk=>k<=3/\(k=0\/csz ((k - 1:Nat):Int)<z)) (λk=>4 - k) (0) ?_ (⟨ω,.inl rfl⟩) λk a=>?_
  ·exact wB
  obtain⟨a,d⟩:=a
  repeat'(first|refine gO ?_|(conv=>whnf);first|with_reducible refine Bf.D (λb=>?_) (λb=>?_)|refine CI (Mw ω) ?_|refine CI (Mb a) ?_|refine CK ω ?_)
  all_goals first
   | exact T0 (λz=>[I z]) (vU a c.1 d (by assumption)).symm
   | ((conv=>whnf);refine CB (k+1) ⟨by have:=Am a (by assumption) c.2;omega,.inr (by simpa using (by assumption:csz (k:Nat)<z))⟩ (by have:=Am a (by assumption) c.2;omega) ?_;(exact wB))
 ·repeat'(first|refine gD ?_|(conv=>whnf);first|with_reducible refine Bf.D (λb=>?_) (λb=>?_)|refine C6 (aE z 1 8) ?_)
  all_goals exact T0 (λz=>[I z]) (by unfold aN;(repeat' split)<;>omega)
theorem yR(z:Int):ar Tryz.prog 88 false [.val none [I z]] .one [I (aN z)]:=by
 refine fO 14 [] Tryz.func88 rfl ?_;by_cases c:1<=z/\z<=8
 ·repeat'(first|refine gD ?_|(conv=>whnf);first|with_reducible refine Bf.D (λa=>?_) (λa=>?_)|refine C6 (aM z 1 8) ?_)
  (conv=>whnf)
  refine CC (ι:=Nat) (λk=>[(0,.hold .one [I (z)]),(3,.hold .one [I ((k:Nat):Int)])]) (λk=>k<=3/\(k=0\/csz ((k - 1:Nat):Int)<z)) (λk=>4 - k) (0) ?_ (⟨ω,.inl rfl⟩) λk b=>?_
  ·exact wB
  obtain⟨b,d⟩:=b
  repeat'(first|refine gO ?_|(conv=>whnf);first|with_reducible refine Bf.D (λa=>?_) (λa=>?_)|refine C6 (eC _) ?_)
  all_goals first
   | exact T0 (λz=>[I z]) (vU b c.1 d (by assumption)).symm
   | ((conv=>whnf);refine CB (k+1) ⟨by have:=Am b (by assumption) c.2;omega,.inr (by simpa using (by assumption:csz (k:Nat)<z))⟩ (by have:=Am b (by assumption) c.2;omega) ?_;(exact wB))
 ·repeat'(first|refine gD ?_|(conv=>whnf);first|with_reducible refine Bf.D (λa=>?_) (λa=>?_)|refine C6 (aM z 1 8) ?_)
  all_goals exact T0 (λz=>[I z]) (by unfold aN;(repeat' split)<;>omega)
theorem qE(q:bB)(a:Int)(e:bB.sml q):ar Tryz.prog 272 false [.val (some 2) (bB.enc .imm q),.val none [I a]] .one [B (q.Lst.any (dD a))]:=by
 have j:q.Lst.length<=1048576:=e.1;refine fO 21 [] Tryz.func272 rfl ?_
 repeat'(first|refine gO ?_|fail)
 (conv=>whnf)
 refine CC (ι:=Nat) (λi=>[(1,.hold .one [I (a)]),(2,.hold .box (bB.enc .imm q)),(5,.hold .one [I ((i:Nat):Int)])]) (λi=>i<=q.Lst.length/\(q.Lst.take i).any (dD a)=false) (λi=>q.Lst.length - i) (0) ?_ (⟨R0 _,rfl⟩) λi c=>?_
 ·exact wB
 obtain⟨c,d⟩:=c;by_cases g:i<q.Lst.length
 ·have b:=ah g
  repeat'(first|refine gD ?_|(conv=>whnf);first|with_reducible (first|refine CA (aa b) ?_|refine Bf.E (λh=>?_) (λh=>?_)))
  all_goals first
   | exact T0 (λz=>[B z]) ((yQ b (O0 (by assumption))).symm)
   | ((conv=>whnf);refine CB (i+1) ⟨ω,wv b d (Q0 (by assumption))⟩ ω ?_;(exact wB))
 ·repeat'(first|refine gD ?_|fail)
  exact T0 (λz=>[B z]) ((Fg ω d).symm)
theorem ig(xs:List aL)(i:Nat):quarCells xs (i+1)=quarCells xs i+csz (nth xs i).Class:=rfl
theorem Jk(k:Int):0<=csz k/\csz k<=8:=by
 by_cases h:0<=k/\k<=3
 ·rcases co h with e|e|e|e<;>rw[e]<;>decide
 ·unfold csz;rw[C7 h];decide
theorem sN(xs:List aL)(c:jI xs):ar Tryz.prog 273 false [.val none (bV .imm xs)] .one [I (quarCells xs xs.length)]:=by
 have g:=c.1;refine fO 20 [] Tryz.func273 rfl ?_
 repeat'(first|refine gO ?_|fail)
 (conv=>whnf)
 refine CC (ι:=Nat) (λi=>[(0,.hold .one (bV .imm xs)),(3,.hold .one [I (quarCells xs i)]),(4,.hold .one [I ((i:Nat):Int)])]) (λi=>i<=xs.length/\0<=quarCells xs i/\quarCells xs i<=8*i) (λi=>xs.length - i) (0) ?_ (⟨R0 _,by simp[quarCells],by simp[quarCells]⟩) λi b=>?_
 ·exact wB
 obtain⟨b,h,j⟩:=b;by_cases d:i<xs.length
 ·have e:=ah d
  have k:=Jk (nth xs i).Class;have a:=ig xs i
  repeat'(first|refine gD ?_|(conv=>whnf);first|with_reducible refine CA (aa e) ?_|refine C6 (dt _) ?_)
  ((conv=>whnf);refine CB (i+1) ⟨ω,ω,ω⟩ ω ?_)
  rw[a];exact wB
 ·repeat'(first|refine gD ?_|fail)
  obtain rfl:i=xs.length:=ω
  rfl
theorem we(xs:List aL)(c:jI xs):ar Tryz.prog 87 false [.val none (bV .imm xs)] .one [I (quarCells xs xs.length)]:=by
 have g:=c.1;refine fO 19 [] Tryz.func87 rfl ?_
 repeat'(first|refine gO ?_|fail)
 (conv=>whnf)
 refine CC (ι:=Nat) (λi=>[(3,.hold .one [I (quarCells xs i)]),(6,.hold .one (bV .imm xs)),(7,.hold .one [I (xs.length)]),(8,.hold .one [I ((i:Nat):Int)])]) (λi=>i<=xs.length/\0<=quarCells xs i/\quarCells xs i<=8*i) (λi=>xs.length - i) (0) ?_ (⟨R0 _,by simp[quarCells],by simp[quarCells]⟩) λi b=>?_
 ·exact wB
 obtain⟨b,h,j⟩:=b;by_cases d:i<xs.length
 ·have e:=ah d
  have k:=Jk (nth xs i).Class;have a:=ig xs i
  repeat'(first|refine gD ?_|(conv=>whnf);first|with_reducible refine CA (aa e) ?_|refine C6 (eC _) ?_)
  ((conv=>whnf);refine CB (i+1) ⟨ω,ω,ω⟩ ω ?_)
  rw[a];exact wB
 ·repeat'(first|refine gD ?_|fail)
  obtain rfl:i=xs.length:=ω
  rfl
theorem ym(a:aL):ar Tryz.prog 271 false [.val (some 3) (aL.enc .imm a)] .one [B (decide (0<=a.Class/\a.Class<=3/\0<=a.Addr/\0<=a.Since))]:=by
 refine fO 16 [] Tryz.func271 rfl ?_
 repeat'(first|refine gO ?_|(conv=>whnf);first|with_reducible refine Bf.D (λb=>?_) (λb=>?_)|refine C6 (aE _ 0 3) ?_)
 all_goals exact T0 (λz=>[B z]) ((by first|(symm;exact Q0 ω)|exact decide_eq_decide.2 ω))
theorem La{xs:List aL}(a:jI xs)(i:Nat):jI (xs.take i):=⟨by have:=a.1;rw[I1];omega,λ_ _=>trivial⟩
theorem mF(q:bB)(a:bB.sml q):ar Tryz.prog 207 false [.val (some 2) (bB.enc .imm q)] .one [B (fx q)]:=by
 have l:q.Lst.length<=1048576:=a.1;refine fO 57 [(5,29,[17,18,19,20,21,22,23,24,25,26,27,28,29,30,31,32,33,34,35,36,37,38,39,40,41,42,43,44,45]),(7,11,[46,47,48,49,50,51,52,53,54,55,56])] Tryz.func207 rfl ?_
 repeat'(first|refine gO ?_|fail)
 (conv=>whnf)
 refine CC (ι:=Nat) (λi=>[(1,.hold .box (bB.enc .imm q)),(3,.hold .one [I ((i:Nat):Int)])]) (λi=>i<=q.Lst.length/\cC i (jr q.Lst)=true) (λi=>q.Lst.length - i) 0 ?_ ⟨R0 _,rfl⟩ λi e=>?_
 ·exact wB
 obtain⟨e,g⟩:=e;by_cases b:i<q.Lst.length
 ·have j:=ah b
  have h:=qE ⟨0,q.Lst.take i⟩ (nth q.Lst i).Addr (La a i);cases c:(q.Lst.take i).any (dD (nth q.Lst i).Addr)<;>rw[show(bB.mk 0 (q.Lst.take i)).Lst.any (dD (nth q.Lst i).Addr)=_ from c]at h
  all_goals
   repeat'(first|refine gD ?_|(conv=>whnf);first|with_reducible (first|refine CA (aa j) ?_|refine Bf.D (λd=>?_) (λd=>?_))|refine C6 (ym _) ?_|refine CJ ω (aa (f6 ω b)) ?_|refine CS i rfl (by simp;omega) (λr k=>by obtain⟨z,-,rfl⟩:=U3.1 k;rfl) (R3 ..) ?_|refine C6 h ?_)
   all_goals first
    | exact T0 (λz=>[B z]) ((by symm;unfold fx;rw[cb b (by unfold jr;first|(rw[c];simp;done)|(rw[Q0 ω];rfl))];rfl))
    | ((conv=>whnf);refine CB (i+1) ⟨ω,bJ g (by unfold jr;rw[c,O0 ω];rfl)⟩ ω ?_;(exact wB))
 ·obtain rfl:i=q.Lst.length:=ω
  repeat'(first|refine gD ?_|(conv=>whnf);first|with_reducible refine Bf.D (λd=>?_) (λd=>?_)|refine C6 (aE _ 0 500) ?_|refine C6 (sN q.Lst a) ?_)
  all_goals exact T0 (λz=>[B z]) ((by unfold fx;rw[g];simp only[Bool.true_and];first|(symm;exact Q0 ω)|exact decide_eq_decide.2 ω))
theorem sM(b:aL)(a:Int):ar Tryz.prog 253 false [.val (some 3) (aL.enc .imm b),.ptr [I a]] .one [B (dD a b)]:=by
 refine fO 8 [] Tryz.func253 rfl ?_
 repeat'(first|refine gO ?_|fail)
 exact T0 (λz=>[B z]) ((by unfold dD;rw[Z3];simp))
theorem x3(xs:List aL)(a:Int)(b:xs.length<=9223372036854775807):ar Tryz.prog 179 false [.val none (bV .imm xs),.val none [I a]] .one [B (xs.any (dD a))]:=by
 refine fO 8 [] Tryz.func179 rfl ?_
 repeat'(first|refine gO ?_|(conv=>whnf);first|refine Cq.mk (BK (some 3) (aL.enc .imm) (dD a) xs) (sM default a).has (λL k rcs c=>?_) ?_|refine C6 (po xs (dD a) b) ?_)
 ·obtain⟨y,-,rfl,rfl,rfl⟩:=c
  exact sM y a
 ·rfl
def oh(xs:List aL)(a:aL):Bool:=decide (0<=a.Class/\a.Class<=3/\0<=a.Addr/\0<=a.Since/\(xs.length=0\/(nth xs (xs.length - 1)).Since<=a.Since))&&!xs.any (dD a.Addr)
theorem za(xs:List aL)(b:aL)(g:xs.length<=1048576):ar Tryz.prog 166 false [.val none (bV .imm xs),.val (some 3) (aL.enc .imm b)] .one [B (oh xs b)]:=by
 have c:=x3 xs b.Addr ω;cases d:xs.any (dD b.Addr)<;>rw[d]at c
 ·by_cases h:xs.length=0
  ·refine fO 40 [(3,15,[25,26,27,28,29,30,31,32,33,34,35,36,37,38,39])] Tryz.func166 rfl ?_
   repeat'(first|refine gO ?_|(conv=>whnf);first|with_reducible (first|refine Bf.D (λa=>?_) (λa=>?_)|refine Bf.E (λa=>?_) (λa=>?_))|refine C6 (eP _) ?_|refine C6 c ?_)
   all_goals first
    | exact T0 (λz=>[B z]) ((by unfold oh;rw[d,Bool.not_false,Bool.and_true];first|(symm;exact Q0 ω)|(symm;exact O0 ω)|exact decide_eq_decide.2 ω))
    |(exfalso;omega)
    |trace_state
  ·have e:xs[((xs.length:Int) - 1).toNat]? = some (nth xs (xs.length - 1)):=by rw[show((xs.length:Int) - 1).toNat=xs.length - 1 by omega];exact ah ω
   refine fO 40 [(3,15,[25,26,27,28,29,30,31,32,33,34,35,36,37,38,39])] Tryz.func166 rfl ?_
   repeat'(first|refine gO ?_|(conv=>whnf);first|with_reducible (first|refine Bf.D (λa=>?_) (λa=>?_)|refine Bf.E (λa=>?_) (λa=>?_))|refine C6 (eP _) ?_|refine C6 c ?_|refine CJ ω (aa e) ?_)
   all_goals first
    | exact T0 (λz=>[B z]) ((by unfold oh;rw[d,Bool.not_false,Bool.and_true];first|(symm;exact Q0 ω)|(symm;exact O0 ω)|exact decide_eq_decide.2 ω))
    |(exfalso;omega)
    |trace_state
 ·refine fO 40 [(3,15,[25,26,27,28,29,30,31,32,33,34,35,36,37,38,39])] Tryz.func166 rfl ?_
  repeat'(first|refine gO ?_|(conv=>whnf);first|with_reducible refine Bf.D (λa=>?_) (λa=>?_)|refine C6 (eP _) ?_|refine C6 c ?_)
  all_goals exact T0 (λz=>[B z]) ((by unfold oh;rw[d];simp))
theorem E4{xs:List aL}{i:Nat}(d:i<xs.length):oh (xs.take i) (nth xs i)=jr xs i:=by
 unfold oh jr;have a:(xs.take i).length=i:=by rw[I1];omega
 rw[a]
 congr 1
 refine decide_eq_decide.2 ?_;by_cases b:i=0
 ·subst b;simp
 ·have c:nth (xs.take i) (i - 1)=nth xs (i - 1):=by
   have:=ah (xs:=xs) (i:=i - 1) ω;exact br (by rw[List.getElem?_take_of_lt ω];exact this)
  rw[c]
theorem Db(q:bB)(d:bB.sml q):ar Tryz.prog 71 false [.val (some 2) (bB.enc .imm q)] .one [B (fx q)]:=by
 have l:q.Lst.length<=1048576:=d.1;refine fO 32 [(4,7,[13,14,15,16,17,18,19]),(7,11,[21,22,23,24,25,26,27,28,29,30,31])] Tryz.func71 rfl ?_
 repeat'(first|refine gO ?_|fail)
 (conv=>whnf)
 refine CC (ι:=Nat) (λi=>[(1,.hold .box (bB.enc .imm q)),(6,.hold .one (bV .imm q.Lst)),(7,.hold .one [I (q.Lst.length)]),(8,.hold .one [I ((i:Nat):Int)])]) (λi=>i<=q.Lst.length/\cC i (jr q.Lst)=true) (λi=>q.Lst.length - i) 0 ?_ ⟨R0 _,rfl⟩ λi e=>?_
 ·exact wB
 obtain⟨e,g⟩:=e;by_cases a:i<q.Lst.length
 ·have h:=ah a
  have b:=za (q.Lst.take i) (nth q.Lst i) (by rw[I1];omega);rw[E4 a]at b;cases c:jr q.Lst i<;>rw[c]at b
  all_goals
   repeat'(first|refine gD ?_|(conv=>whnf);first|with_reducible refine CA (aa h) ?_|refine CS i rfl (by simp;omega) (λr j=>by obtain⟨z,-,rfl⟩:=U3.1 j;rfl) (R3 ..) ?_|refine C6 b ?_)
   all_goals first
    | exact T0 (λz=>[B z]) ((by symm;unfold fx;rw[cb a c];rfl))
    | ((conv=>whnf);refine CB (i+1) ⟨ω,bJ g c⟩ ω ?_;(exact wB))
 ·obtain rfl:i=q.Lst.length:=ω
  repeat'(first|refine gD ?_|(conv=>whnf);first|with_reducible refine Bf.D (λk=>?_) (λk=>?_)|refine C6 (aM _ 0 500) ?_|refine C6 (we q.Lst d) ?_)
  all_goals exact T0 (λz=>[B z]) ((by unfold fx;rw[g];simp only[Bool.true_and];first|(symm;exact Q0 ω)|exact decide_eq_decide.2 ω))
def xA(h:ab):Prop:=aG.sml h.Kernel.Machine.Table
theorem gx(h:ab)(p:Int)(a:xA h):ar Tryz.prog 36 false [.val (some 24) (ab.enc .imm h),.val none [I p]] .one (aD .own (aQ h p)):=by
 refine fO 23 [] Tryz.func36 rfl ?_ (.inr (bI _))
 repeat'((conv=>whnf);first|with_reducible (first|refine Lm ?_|refine Wm ω ?_|refine Bf.E (λb=>?_) (λb=>?_)|refine Bn ?_|refine jc.wk rfl ?_)|refine Bt ?_|refine Bu ?_|refine C6 (cM h.Kernel.Machine.Table p a) ?_|refine C6 (ge h.Kernel.Machine.Table _ a) ?_)
 all_goals(unfold aQ;first|rw[C8 (by assumption)]|rw[C7 (by assumption)])
 all_goals exact⟨rfl,trivial⟩
theorem tB(h:ab)(p:Int)(a:xA h):ar Tryz.prog 26 false [.val (some 24) (ab.enc .imm h),.val none [I p]] .one (aD .own (aQ h p)):=by
 refine fO 22 [] Tryz.func26 rfl ?_ (.inr (bI _))
 repeat'((conv=>whnf);first|with_reducible (first|refine Lm ?_|refine Wm ω ?_|refine Bf.E (λb=>?_) (λb=>?_)|refine Bn ?_|refine jc.wk rfl ?_)|refine Bt ?_|refine Bu ?_|refine C6 (hC h.Kernel.Machine.Table p a) ?_|refine C6 (qq h.Kernel.Machine.Table _ a) ?_)
 all_goals(unfold aQ;first|rw[C8 (by assumption)]|rw[C7 (by assumption)])
 all_goals exact⟨rfl,trivial⟩
theorem AC(k:af)(p:Int)(a:aG.sml k.Machine.Table):ar Tryz.prog 163 false [.val (some 5) (af.enc .imm k),.val none [I p]] .one [B (decide ((ao k.Machine.Table p).Mode≠0))]:=by
 refine fO 12 [] Tryz.func163 rfl ?_
 repeat'(first|refine gO ?_|(conv=>whnf);first|refine C6 (hC k.Machine.Table p a) ?_)
 exact T0 (λz=>[B z]) ((by rw[Z3];simp))
theorem mE(z:Int):ar Tryz.prog 75 false [.val none [I z]] .one [B (decide (0<=z/\z<=1073741823))]:=by
 refine fO 5 [] Tryz.func75 rfl ?_
 repeat'(first|refine gO ?_|(conv=>whnf);first|refine C6 (aM z 0 1073741823) ?_)
 rfl
theorem iQ(h:ab)(p:Int)(g:h.Spans.length<=1048576):ar Tryz.prog 39 false [.val (some 24) (ab.enc .imm h),.val none [I p]] .one [I (fQ h p)]:=by
 refine fO 22 [] Tryz.func39 rfl ?_
 repeat'(first|refine gO ?_|fail)
 (conv=>whnf)
 refine CC (ι:=Nat) (λi=>[(1,.hold .one [I (p)]),(2,.hold .box (ab.enc .imm h)),(5,.hold .one [I ((i:Nat):Int)])]) (λi=>i<=h.Spans.length/\∀(j:Nat)(z:au),j<i->h.Spans[j]? = some z->iZ p z=false) (λi=>h.Spans.length - i) (0) ?_ (⟨R0 _,λj z k=>ω⟩) λi c=>?_
 ·exact wB
 obtain⟨c,a⟩:=c;by_cases d:i<h.Spans.length
 ·have b:=ah d
  repeat'(first|refine gD ?_|(conv=>whnf);first|with_reducible (first|refine CA (aa b) ?_|refine Bf.E (λe=>?_) (λe=>?_)))
  all_goals first
   | exact T0 (λz=>[I z]) (dB b (O0 (by assumption)) a).symm
   | ((conv=>whnf);refine CB (i+1) ⟨ω,cY b (Q0 (by assumption)) a⟩ ω ?_;(exact wB))
 ·repeat'(first|refine gD ?_|fail)
  exact T0 (λz=>[I z]) (fH ω a).symm
theorem xX(s:au)(p:Int):ar Tryz.prog 100 false [.val (some 3) (au.enc .imm s),.ptr [I p]] .one [B (iZ p s)]:=by
 refine fO 8 [] Tryz.func100 rfl ?_
 repeat'(first|refine gO ?_|fail)
 exact T0 (λz=>[B z]) ((by unfold iZ;rw[Z3];simp))
theorem sH(h:ab)(p:Int)(b:h.Spans.length<=1048576):ar Tryz.prog 27 false [.val (some 24) (ab.enc .imm h),.val none [I p]] .one [I (fQ h p)]:=by
 refine fO 9 [] Tryz.func27 rfl ?_
 repeat'(first|refine gO ?_|(conv=>whnf);first|refine Cq.mk (BK (some 3) (au.enc .imm) (iZ p) h.Spans) (xX default p).has (λL k rcs a=>?_) ?_|refine C6 (uQ h.Spans (iZ p) ω) ?_)
 ·obtain⟨y,-,rfl,rfl,rfl⟩:=a
  exact xX y p
 ·rfl
def flight1(m:aH)(i:Nat):List Int:=(m.Buffers.take i).flatMap λl=>l.map (·.Addr)
def flight2(m:aH)(i:Nat):List Int:=(m.Inbox.take i).flatten
theorem mb{m:aH}{i:Nat}{l:List cQ}(h:m.Buffers[i]? = some l):flight1 m (i+1)=flight1 m i++l.map (·.Addr):=by
 unfold flight1;rw[Q4,h,List.flatMap_append];simp
theorem ma{m:aH}{i:Nat}{l:List Int}(h:m.Inbox[i]? = some l):flight2 m (i+1)=flight2 m i++l:=by
 unfold flight2;rw[Q4,h,List.flatten_append];simp
theorem n8{m:aH}(h:bD m=true):aK m=flight1 m m.Buffers.length++flight2 m m.Inbox.length:=by
 unfold aK flight1 flight2;rw[C8 h,z4,z4]
theorem sJ{m:aH}(h:bD m=false):aK m=[]:=by
 unfold aK;rw[h];rfl
theorem mg{m:aH}(h:bD m=true):1<=m.Buffers.length/\m.Buffers.length<=4/\m.Inbox.length=m.Buffers.length:=by
 unfold bD at h;simp only[I0,C0]at h;exact h.1.1
theorem BZ{l:List Int} : ∀r∈l.map (rI .imm),r.length=1:=by
 intro r a;obtain⟨z,-,rfl⟩:=U3.1 a;rfl
theorem FO{l:List Int} : ∀r∈l.map (rI .imm),aW r=true:=by
 intro r a;obtain⟨z,-,rfl⟩:=U3.1 a;rfl
theorem xd(m:aH)(j:aH.sml m):ar Tryz.prog 277 false [.val (some 2) (aH.enc .imm m)] .one (aD .own (aK m)):=by
 have l:=kq m j;cases e:bD m<;>rw[e]at l
 ·refine fO 56 [] Tryz.func277 rfl ?_ (.inr (bI _))
  repeat'((conv=>whnf);first|with_reducible (first|refine Lm ?_|refine Wm ω ?_|refine Bn ?_|refine jc.wk rfl ?_)|refine Bt ?_|refine Bu ?_|refine C6 l ?_)
  all_goals(rw[sJ e];exact⟨rfl,trivial⟩)
 ·obtain⟨D,E,F⟩:=mg e
  refine fO 56 [] Tryz.func277 rfl ?_ (.inr (bI _))
  repeat'(first|refine gO ?_|(conv=>whnf);first|refine C6 l ?_)
  (conv=>whnf)
  refine CC (ι:=Nat × List Int) (λi=>[(1,.hold .box (aH.enc .imm m)),(3,.hold .one (aD .own i.2)),(4,.hold .one [I ((i.1:Nat):Int)])]) (λi=>i.1<=m.Buffers.length/\i.2=flight1 m i.1/\i.2.length<=1048576*i.1) (λi=>m.Buffers.length - i.1) ((0,[])) ?_ (⟨R0 _,rfl,R0 _⟩) λi n=>?_
  ·exact wB
  obtain⟨i,S⟩:=i;obtain⟨n,o,t⟩:=n;simp only at n o t |-;by_cases q:i<m.Buffers.length
  ·have g:=ah q
   have u:(nth m.Buffers i).length<=1048576:=(j.1.2 _ (am q)).1
   repeat'(first|refine gD ?_|(conv=>whnf);first|with_reducible refine CA (aa g) ?_)
   (conv=>whnf)
   refine CC (ι:=Nat × List Int) (λk=>[(1,.hold .box (aH.enc .imm m)),(3,.hold .one (aD .own k.2)),(4,.hold .one [I ((i:Nat):Int)]),(5,.hold .one [I ((k.1:Nat):Int)])]) (λk=>k.1<=(nth m.Buffers i).length/\k.2=S++((nth m.Buffers i).take k.1).map (·.Addr)) (λk=>(nth m.Buffers i).length - k.1) ((0,S)) ?_ (⟨R0 _,by simp⟩) λk b=>?_
   ·exact wB
   obtain⟨k,c⟩:=k;obtain⟨b,a⟩:=b;simp only at b a |-;have w:c.length=S.length+k:=by rw[a,U2,W0,I1];omega
   by_cases h:k<(nth m.Buffers i).length
   ·have d:=ah h
    repeat'(first|refine gD ?_|(conv=>whnf);first|with_reducible (first|refine CA (aa g) ?_|refine CA (aa d) ?_)|refine CQ cq (λr y=>by rw[Z0.1 y];rfl) (by simp[aW,dz]) (by simp;omega) (by show _*8<=_;simp;omega) rfl ?_)
    ((conv=>whnf)
     refine CB (k+1,c++[(nth (nth m.Buffers i) k).Addr]) ⟨(by simp only;omega),(by simp only;rw[a,Q4,d,T4,R4];simp)⟩ (by simp only;omega) ?_
     (repeat'(first|exact trivial|rfl|exact CH rfl (CH (T0 (C.s dy.own) (by simp[rI])) trivial)|refine CH ?_ ?_)))
   ·obtain rfl:k=(nth m.Buffers i).length:=ω
    rw[z4]at a
    repeat'(first|refine gD ?_|(conv=>whnf);first|with_reducible refine CA (aa g) ?_)
    ((conv=>whnf);refine CB (i+1,c) ⟨(by simp only;omega),(by simp only;rw[mb g,<-o,a]),(by simp only;omega)⟩ (by simp only;omega) ?_;(exact wB))
  ·obtain rfl:i=m.Buffers.length:=ω
   repeat'(first|refine gD ?_|fail)
   (conv=>whnf)
   refine CC (ι:=Nat × List Int) (λk=>[(1,.hold .box (aH.enc .imm m)),(3,.hold .one (aD .own k.2)),(6,.hold .one [I ((k.1:Nat):Int)])]) (λk=>k.1<=m.Inbox.length/\k.2=S++flight2 m k.1/\k.2.length<=S.length+1048576*k.1) (λk=>m.Inbox.length - k.1) ((0,S)) ?_ (⟨R0 _,by simp[flight2],by simp⟩) λk b=>?_
   ·exact wB
   obtain⟨k,c⟩:=k;obtain⟨b,a,p⟩:=b;simp only at b a p |-;by_cases h:k<m.Inbox.length
   ·have d:=ah h
    have B:(nth m.Inbox k).length<=1048576:=j.2.2 _ (am h)
    repeat'(first|refine gD ?_|(conv=>whnf);first|with_reducible refine CA (aa d) ?_|refine CQ cq BZ (λ_=>FO) (by simp;omega) (by show _*8<=_;simp;omega) rfl ?_)
    ((conv=>whnf)
     refine CB (k+1,c++nth m.Inbox k) ⟨(by simp only;omega),(by simp only;rw[ma d,a,R4]),(by simp only;rw[U2];omega)⟩ (by simp only;omega) ?_
     (repeat'(first|exact trivial|rfl|exact CH rfl (CH (T0 (C.s dy.own) (by simp[rI])) trivial)|refine CH ?_ ?_)))
   ·obtain rfl:k=m.Inbox.length:=ω
    repeat'(first|refine gD ?_|fail)
    rw[n8 e,<-o,<-a];rfl
theorem xu(m:aH)(h:aH.sml m):ar Tryz.prog 78 false [.val (some 2) (aH.enc .imm m)] .one (aD .own (aK m)):=by
 have j:=su m h;cases e:bD m<;>rw[e]at j
 ·refine fO 46 [] Tryz.func78 rfl ?_ (.inr (bI _))
  repeat'((conv=>whnf);first|with_reducible (first|refine Lm ?_|refine Wm ω ?_|refine Bn ?_|refine jc.wk rfl ?_)|refine Bt ?_|refine Bu ?_|refine C6 j ?_)
  all_goals(rw[sJ e];exact⟨rfl,trivial⟩)
 ·obtain⟨D,E,F⟩:=mg e
  refine fO 46 [] Tryz.func78 rfl ?_ (.inr (bI _))
  repeat'(first|refine gO ?_|(conv=>whnf);first|refine C6 j ?_)
  (conv=>whnf)
  refine CC (ι:=Nat × List Int) (λi=>[(1,.hold .box (aH.enc .imm m)),(3,.hold .one (aD .own i.2)),(15,.hold .one (jP .imm m.Buffers)),(16,.hold .one [I (m.Buffers.length)]),(17,.hold .one [I ((i.1:Nat):Int)])]) (λi=>i.1<=m.Buffers.length/\i.2=flight1 m i.1/\i.2.length<=1048576*i.1) (λi=>m.Buffers.length - i.1) ((0,[])) ?_ (⟨R0 _,rfl,R0 _⟩) λi l=>?_
  ·exact wB
  obtain⟨i,S⟩:=i;obtain⟨l,n,t⟩:=l;simp only at l n t |-;by_cases p:i<m.Buffers.length
  ·have q:=ah p
   have u:(nth m.Buffers i).length<=1048576:=(h.1.2 _ (am p)).1
   repeat'(first|refine gD ?_|(conv=>whnf);first|with_reducible refine CA (aa q) ?_)
   (conv=>whnf)
   refine CC (ι:=Nat × List Int) (λk=>[(1,.hold .box (aH.enc .imm m)),(3,.hold .one (aD .own k.2)),(15,.hold .one (jP .imm m.Buffers)),(16,.hold .one [I (m.Buffers.length)]),(17,.hold .one [I ((i:Nat):Int)]),(21,.hold .one (bT .imm (nth m.Buffers i))),(22,.hold .one [I ((nth m.Buffers i).length)]),(23,.hold .one [I ((k.1:Nat):Int)])]) (λk=>k.1<=(nth m.Buffers i).length/\k.2=S++((nth m.Buffers i).take k.1).map (·.Addr)) (λk=>(nth m.Buffers i).length - k.1) ((0,S)) ?_ (⟨R0 _,by simp⟩) λk b=>?_
   ·exact wB
   obtain⟨k,c⟩:=k;obtain⟨b,a⟩:=b;simp only at b a |-;have w:c.length=S.length+k:=by rw[a,U2,W0,I1];omega
   by_cases g:k<(nth m.Buffers i).length
   ·have d:=ah g
    repeat'(first|refine gD ?_|(conv=>whnf);first|with_reducible refine CA (aa d) ?_|refine CQ cq (λr y=>by rw[Z0.1 y];rfl) (by simp[aW,dz]) (by simp;omega) (by show _*8<=_;simp;omega) rfl ?_)
    ((conv=>whnf)
     refine CB (k+1,c++[(nth (nth m.Buffers i) k).Addr]) ⟨(by simp only;omega),(by simp only;rw[a,Q4,d,T4,R4];simp)⟩ (by simp only;omega) ?_
     (repeat'(first|exact trivial|rfl|exact CH rfl (CH (T0 (C.s dy.own) (by simp[rI])) trivial)|refine CH ?_ ?_)))
   ·obtain rfl:k=(nth m.Buffers i).length:=ω
    rw[z4]at a
    repeat'(first|refine gD ?_|fail)
    ((conv=>whnf);refine CB (i+1,c) ⟨(by simp only;omega),(by simp only;rw[mb q,<-n,a]),(by simp only;omega)⟩ (by simp only;omega) ?_;(exact wB))
  ·obtain rfl:i=m.Buffers.length:=ω
   repeat'(first|refine gD ?_|fail)
   (conv=>whnf)
   refine CC (ι:=Nat × List Int) (λk=>[(3,.hold .one (aD .own k.2)),(35,.hold .one (fJ .imm m.Inbox)),(36,.hold .one [I (m.Inbox.length)]),(37,.hold .one [I ((k.1:Nat):Int)])]) (λk=>k.1<=m.Inbox.length/\k.2=S++flight2 m k.1/\k.2.length<=S.length+1048576*k.1) (λk=>m.Inbox.length - k.1) ((0,S)) ?_ (⟨R0 _,by simp[flight2],by simp⟩) λk b=>?_
   ·exact wB
   obtain⟨k,c⟩:=k;obtain⟨b,a,o⟩:=b;simp only at b a o |-;by_cases g:k<m.Inbox.length
   ·have d:=ah g
    have B:(nth m.Inbox k).length<=1048576:=h.2.2 _ (am g)
    repeat'(first|refine gD ?_|(conv=>whnf);first|with_reducible refine CA (aa d) ?_|refine CQ cq BZ (λ_=>FO) (by simp;omega) (by show _*8<=_;simp;omega) rfl ?_)
    ((conv=>whnf)
     refine CB (k+1,c++nth m.Inbox k) ⟨(by simp only;omega),(by simp only;rw[ma d,a,R4]),(by simp only;rw[U2];omega)⟩ (by simp only;omega) ?_
     (repeat'(first|exact trivial|rfl|exact CH rfl (CH (T0 (C.s dy.own) (by simp[rI])) trivial)|refine CH ?_ ?_)))
   ·obtain rfl:k=m.Inbox.length:=ω
    repeat'(first|refine gD ?_|fail)
    rw[n8 e,<-n,<-a];rfl
def tbl(h:ab):aG:=h.Kernel.Machine.Table
def dQ(h:ab):Nat:=h.Kernel.Machine.Table.Entries.length
def tZ(xs:List au)(i:Nat):Bool:=decide (i=0\/(nth xs (i - 1)).Page<(nth xs i).Page)
def uT(xs:List a8)(i:Nat):Bool:=decide (i=0\/(nth xs (i - 1)).Page<(nth xs i).Page)
def uD(h:ab)(l:a8)(k:Nat):Bool:=decide ((aQ h (l.Page+(k:Nat))).length=1)
def rr(h:ab)(i:Nat):Bool:=uT h.Larges i&&cC (nth h.Larges i).Pages.toNat (uD h (nth h.Larges i))
def sZ(h:ab)(p:Nat):Bool:=decide ((nth (tbl h).Entries p).Mode≠0↔(p:Int)∈pgs h.Spans h.Larges)&&(decide ((nth (tbl h).Entries p).Mode≠0) != h.Free.any (pB (p:Nat)))
def pages0(h:ab):Bool:=((cC h.Spans.length (tZ h.Spans)&&cC h.Larges.length (rr h))&&(pgs h.Spans h.Larges).all λp=>decide (p<dQ h))&&cC (dQ h) (sZ h)
def kA(h:ab)(i:Nat)(q:Int):Bool:=decide (fQ h q=(i:Nat)) || (decide (0<=fQ h q)&&meshable (nth h.Spans i) (nth h.Spans (fQ h q).toNat))
def sf(h:ab):Bool:=cC h.Spans.length λi=>(aQ h (nth h.Spans i).Page).all (kA h i)
def jT(h:ab)(i j:Nat):Bool:=decide ((ao (tbl h) (nth h.Spans i).Page).Frame≠(ao (tbl h) (nth h.Spans j).Page).Frame) || meshable (nth h.Spans i) (nth h.Spans j)
def mu(h:ab):Bool:=cC h.Spans.length λi=>cC i (jT h i)
def j9(z:Int)(o:bC):Bool:=decide (o.Id=z)
def js(h:ab)(o:bC):Bool:=
 let w:=denotes h.Spans h.Larges o.Addr
 decide (w.Offset=0)&&((decide (w.Kind=1)&&decide ((nth h.Spans w.Index.toNat).Class=aN o.Size)) || (decide (w.Kind=3)&&decide ((nth h.Larges w.Index.toNat).Size=o.Size)))
def gw(a:Int)(h:ab)(i:Nat):Bool:=decide ((i=0\/(nth h.Objs (i - 1)).Addr<(nth h.Objs i).Addr)/\1<=(nth h.Objs i).Id/\(nth h.Objs i).Id<=a/\0<=(nth h.Objs i).Thread/\(nth h.Objs i).Thread<=h.Caches.length - 1)
def objAt(a:Int)(h:ab)(i:Nat):Bool:=(gw a h i&&!(h.Objs.take i).any (j9 (nth h.Objs i).Id))&&js h (nth h.Objs i)
def eQ(h:ab):Bool:=cC h.Objs.length (objAt (IntKind.i64.wrap (h.Next - 1)) h)
def cU(h:ab)(a c:Int):Bool:=
 let w:=denotes h.Spans h.Larges a
 (decide (w.Kind=1)&&decide (w.Offset=0))&&(decide (c<0) || decide ((nth h.Spans w.Index.toNat).Class=c))
def qv(h:ab)(c:aC)(k:Nat):Bool:=(nth c.Lists k).all λa=>cU h a (k:Nat)
def dO(h:ab)(c:aC):Bool:=cC c.Lists.length (qv h c)
def gq(h:ab)(x:aL):Bool:=cU h x.Addr x.Class
def jp(h:ab)(a:Int):Bool:=cU h a (-1)
def ch(h:ab):List Int:=h.Caches.flatMap λc=>c.Lists.flatten
def gz(h:ab):Bool:=((h.Caches.all (dO h))&&h.Quar.Lst.all (gq h))&&(aK h.Mail).all (jp h)
def holders(h:ab):List Int:=((h.Objs.map (·.Addr)++ch h)++h.Quar.Lst.map (·.Addr))++aK h.Mail
def iW(sp:List au)(la:List a8)(a:Nat):Bool:=
 let w:=denotes sp la (a:Nat)
 decide (w.Offset=0)&&(decide (w.Kind=1) || decide (w.Kind=3))
def ke(sp:List au)(la:List a8)(n:Nat):List Int:=((List.range n).filter (iW sp la)).map λ(i:Nat)=>(i:Int)
def hO(sp:List au)(la:List a8):List Int:=ke sp la 512
def im(h:ab):Bool:=(gz h&&decide (holders h).Nodup)&&decide ((holders h).length=(hO h.Spans h.Larges).length)
def jW(h:ab):Bool:=h.Quar.Lst.all λx=>decide (x.Since<=h.Clock)
def cj(h:ab):Bool:=decide (0<=h.Seed/\h.Seed<=1073741823/\0<=h.Clock/\h.Clock<=1000000/\0<=h.Limit/\h.Limit<=1000/\1<=h.Next/\h.Next<=1000000)
def sE(h:ab):Bool:=if h.Meshing then(iP h.Job&&decide (0<=fQ h h.Job.Plan.Keep))&&decide (0<=fQ h h.Job.Plan.Move) else qa h.Job
def lF(h:ab):Bool:=((aA h.Kernel&&bv (dQ h) h.Free)&&bj h.Spans h.Larges)&&pages0 h
end Go.Proofs.YtembpgjjnioagaaGreat.Ab
