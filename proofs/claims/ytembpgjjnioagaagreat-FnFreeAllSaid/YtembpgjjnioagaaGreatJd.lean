/- A function's contract out of the abstract run of its body, where something is lent to it. No condition. -/
import Derived.Test.YtembpgjjnioagaaGreatJc
set_option linter.unusedVariables false
set_option linter.unusedSimpArgs false
set_option linter.constructorNameAsVariable false
namespace Go.Proofs.YtembpgjjnioagaaGreat.Ab
open Go.RowKit
def Pk:C->Value->C
 | .s .own rows,v=>.s (.tag v) rows
 | c,_=>c
def xE(u:Nat->Value):Nat->List C->List C
 | _,[]=>[]
 | j,c::cs=>Pk c (u j)::xE u (j+1) cs
def xn(u:Nat->Nat->Value):Nat->List MA->List (Nat × AV)
 | _,[]=>[]
 | i,.val a cs::A=>(i,.hold (kx a) cs)::xn u (i+1) A
 | i,.mut a cs::A=>(i,.hold (kx a) (xE (u i) 0 cs))::xn u (i+1) A
 | i,.ptr cs::A=>(i,.hold .box cs)::xn u (i+1) A
def Gl(p:Nat->Value):Nat->List MA->List (Nat × Value)
 | _,[]=>[]
 | i,.ptr _::A=>(i,p i)::Gl p (i+1) A
 | i,_::A=>Gl p (i+1) A
def Dy:Nat->List MA->List (Nat × Nat)->List (Option Nat)
 | i,.val _ _::A,_::pl=>none::Dy (i+1) A pl
 | i,.mut _ _::A,p::pl=>some p.1::Dy (i+1) A pl
 | i,.ptr _::A,_::pl=>some i::Dy (i+1) A pl
 | _,_,_=>[]
def EE:List (Option Nat)->Bool
 | []=>true
 | none::l=>EE l
 | some t::l=>l.all (λx=>match x with|some a=>!Nat.beq t a|none=>true)&&EE l
def sles:List (Option Nat)->List Nat
 | []=>[]
 | none::l=>sles l
 | some t::l=>t::sles l
def Ql(v:Value)(c y o:C):Prop:=
 match c with
 | .s .own _=>(match y with|.s (.tag v') rows=>v'=v/\o=.s .own rows|_=>False)
 | .s (.tag _) _=>False
 | .m _=>False
 | .it _ _=>False
 | c=>o=c
def N1(u:Nat->Value):Nat->List C->List C->List C->Prop
 | _,[],_,o=>o=[]
 | j,c::cs,y::xs,o::os=>Ql (u j) c y o/\N1 u (j+1) cs xs os
 | _,_,_,_=>False
def hO(u:Nat->Nat->Value)(F:Nat->AV):Nat->List MA->List (Nat × Nat)->List MA->Prop
 | _,[],_,[]=>True
 | i,.val _ _::A,_::pl,.val _ _::B=>hO u F (i+1) A pl B
 | i,.mut ag cs::A,p::pl,.mut a out::B=>(a=ag/\match F p.1 with|.hold _ xs=>N1 (u i) 0 cs (xs.drop p.2) out|_=>False)/\hO u F (i+1) A pl B
 | i,.ptr _::A,_::pl,.ptr out::B=>(match F i with|.hold .box xs=>xs=out|_=>False)/\hO u F (i+1) A pl B
 | _,_,_,_=>False
inductive aR(k k':Kd)(cs cs':List C)(Q:Prop):Prop
 |mk_ (h:k=k'/\cs=cs'/\Q)
theorem aR.mk{k k':Kd}{cs a:List C}{Q:Prop}(h1:k=k')(b:cs=a)(c:Q):aR k k' cs a Q:=by refine .mk_ ?_;exact⟨h1,b,c⟩
theorem CF:type_of% @aR.mk:=@aR.mk
theorem aR.out{k k':Kd}{cs a:List C}{Q:Prop}(h:aR k k' cs a Q):k=k'/\cs=a/\Q:=by obtain⟨h⟩:=h;exact h
def NJ(TE:Nat->Option TI)(d:List ResultVar)(k:Kd)(rcs:List C)(u:Nat->Nat->Value)(A B:List MA)(a:List (Nat × Nat)):Exit->(Nat->AV)->Prop:=λe F=>
 match e with
 | .normal=>resA TE F d (sles (Dy 0 A a)) λb c=>aR (jo b) k c rcs (hO u F 0 A a B)
 | .ret=>resA TE F d (sles (Dy 0 A a)) λb c=>aR (jo b) k c rcs (hO u F 0 A a B)
 | _=>False
section
variable{P:Program}{w0 w w1:World}{M S0 S:ac}{N:fh}{φ:Nat->ac}{F:Nat->AV}{a:Act}{TE:Nat->Option TI}
theorem ec.tag{Y:ac}{c:C}{v:Value}(h:ec w S Y c v):ec w S Y (Pk c v) v:=by
 cases h with
 | nil _ o a B=>cases o with
  | own=>exact .nil _ _ _ rfl
  | _=>exact .nil _ _ _ B
 | own _ o g k n l e u f B D E i p t K L M y=>cases o with
  | own=>exact .own _ _ g k n l e u f rfl D E i p t K L M y
  | imm=>exact B.elim
  | tag z=>exact .own _ _ g k n l e u f B D E i p t K L M y
 | v _ x F=>exact .v _ _ F
 | x _ u F=>exact .x _ _ F
 | z _ a=>exact .z _ _
 | imm _ g G k n l e u D E i N y=>exact .imm _ g G k n l e u D E i N y
 | m _ b d O j t H P J q=>exact .m _ b d O j t H P J q
 | it _ r b since Q d seen j cur left t R H q y J T A=>exact .it _ r b since Q d seen j cur left t R H q y J T A
theorem ec.untag{Y:ac}{z v:Value}{rows:List (List C)}(h:ec w S Y (.s (.tag z) rows) v):v=z/\ec w S Y (.s .own rows) v:=by
 cases h with
 | nil _ o a d=>exact⟨Eq.symm d,.nil _ _ _ trivial⟩
 | own _ o g k n e rows u f d i j b c l p q r t=>exact⟨Eq.symm d,.own _ _ g k n e rows u f trivial i j b c l p q r t⟩
theorem np(u:Nat->Value):∀(j:Nat)(cs:List C),(xE u j cs).length=cs.length
 | _,[]=>rfl
 | j,c::cs=>by simp[xE,np u (j+1) cs]
theorem D3(u:Nat->Value):∀(a:Nat)(cs:List C)(j:Nat),(xE u a cs)[j]? = (cs[j]?).map λc=>Pk c (u (a+j))
 | _,[],j=>by simp[xE]
 | a,c::cs,0=>by simp[xE]
 | a,c::cs,j+1=>by simp only[xE,List.getElem?_cons_succ];rw[D3 u (a+1) cs j,show a+1+j=a+(j+1) by omega]
theorem cI.tag{Y:ac}{cs:List C}{u:Nat->Value}(h:cI w S Y cs u):cI w S Y (xE u 0 cs) u:=by
 obtain⟨f,e,g,i⟩:=h;refine⟨f,λj c a=>?_,λj a=>g j (by rwa [np]at a),λj k a b=>i j k (by rwa [np]at a) (by rwa [np]at b)⟩;rw[D3,Y5]at a;cases d:cs[j]? with
 | none=>rw[d]at a;cases a
 | some l=>
  rw[d]at a;simp only[W4,W0]at a;subst a;exact(e j l d).tag
def celF(v:Value)(j:Nat):Value:=v.cells.toList.getD j undef
theorem bC.celF{Y:ac}{ag:Option Nat}{cs:List C}{v:Value}(h:bC w S Y ag cs v):cs.length=ag.getD 1/\v=mkv ag (celF v)/\cI w S Y cs (celF v):=by
 obtain⟨b,u,c,d⟩:=h;have g:=oK (ag:=ag) (u:=u) (λe=>by subst e;exact d.one (by simp at b;omega));have f:∀j,j<ag.getD 1->Ab.celF v j=u j:=λj a=>by
  unfold Ab.celF;rw[c,g];simp[List.getD,a]
 exact⟨b,c.trans (hJ λj a=>(f j a).symm),d.congr λj a=>f j ω⟩
def Nz(u:Nat->Nat->Value)(i:Nat):MA->AV
 | .val a cs=>.hold (kx a) cs
 | .mut a cs=>.hold (kx a) (xE (u i) 0 cs)
 | .ptr cs=>.hold .box cs
theorem zb{u:Nat->Nat->Value} : ∀{A:List MA}{vs:List Value}{V:Nat->ac}(i:Nat),LX w S V A vs->∀t,(lay (xn u i A) t=.dead)\/(∃m v,i<=t/\vs[t - i]? = some v/\A[t - i]? = some m/\lay (xn u i A) t=Nz u t m/\oX w S (V (t - i)) m v)
 | [],_,_,i,_,t=>.inl rfl
 | m::A,[],_,i,h,t=>h.elim
 | m::A,v::vs,V,i,h,t=>by
  have c:lay (xn u i (m::A)) t=bif Nat.beq t i then Nz u i m else lay (xn u (i+1) A) t:=by cases m<;>rfl
  rw[c];cases a:Nat.beq t i with
  | true=>
   have:=V1 a;subst this;exact .inr ⟨m,v,X2 _,by simp,by simp,rfl,by rw[Nat.sub_self];exact h.1⟩
  | false=>
   have d:t≠i:=λe=>by subst e;rw[Nat.beq_refl]at a;cases a
   rcases zb (i+1) h.2 t with b|⟨f,g,b,j,k,l,n⟩
   ·exact .inl b
   ·refine .inr ⟨f,g,ω,?_,?_,l,?_⟩
    ·rw[show t - i=(t - (i+1))+1 by omega];simpa using j
    ·rw[show t - i=(t - (i+1))+1 by omega];simpa using k
    ·rw[show t - i=(t - (i+1))+1 by omega];exact n
theorem GV:∀{A:List MA}{vs:List Value}{V:Nat->ac},LX w S V A vs->A.length=vs.length
 | [],[],_,_=>rfl
 | _::_,_::_,_,h=>by simp[GV h.2]
 | [],_::_,_,h=>h.elim
 | _::_,[],_,h=>h.elim
theorem Gh{p:Nat->Value} : ∀{A:List MA}{i:Nat}{q:Nat × Value},q∈Gl p i A->i<=q.1/\q.1<i+A.length/\q.2=p q.1
 | [],_,_,h=>by simp[Gl]at h
 | m::A,i,q,h=>by
  have a:q∈Gl p (i+1) A->i<=q.1/\q.1<i+(m::A).length/\q.2=p q.1:=λh=>by
   obtain⟨c,d,b⟩:=Gh h;exact⟨ω,by simp;omega,b⟩
  cases m with
  | ptr e=>
   rcases List.mem_cons.1 h with rfl|h
   ·exact⟨X2 _,by simp,rfl⟩
   ·exact a h
  | val=>exact a h
  | «mut»=>exact a h
theorem GK{p:Nat->Value} : ∀{A:List MA}{i n:Nat}{cs:List C},A[n]? = some (.ptr cs)->(i+n,p (i+n))∈Gl p i A
 | [],_,n,_,h=>by simp at h
 | m::A,i,0,cs,h=>by simp at h;subst h;simp[Gl]
 | m::A,i,n+1,cs,h=>by
  have a:=GK (p:=p) (i:=i+1) (show A[n]? = some (.ptr cs) by simpa using h);rw[show i+1+n=i+(n+1) by omega]at a;cases m with
  | ptr cs=>exact X4 _ a
  | val=>exact a
  | «mut»=>exact a
def Pc(φ:Nat->ac):Option (Option Nat)->ac
 | some (some t)=>φ t
 | _=>NO
theorem zG{u:Nat->Value} : ∀{a:Nat}{cs xs b:List C},N1 u a cs xs b->cs.length=b.length/\∀(j:Nat)(c o:C),cs[j]? = some c->b[j]? = some o->∃y,(dz c=true->xs[j]? = some y)/\Ql (u (a+j)) c y o
 | _,[],xs,b,h=>by simp only[N1]at h;subst h;exact⟨rfl,λj c o h=>by simp at h⟩
 | _,_::_,[],_,h=>by simp only[N1]at h
 | _,_::_,_::_,[],h=>by simp only[N1]at h
 | a,p::cs,f::xs,q::b,h=>by
  simp only[N1]at h;obtain⟨g,i⟩:=zG h.2;refine⟨by simp[g],λj c o d e=>?_⟩;cases j with
  | zero=>simp at d e;subst d e;exact⟨f,λ_=>rfl,h.1⟩
  | succ j=>
   obtain⟨y,k,l⟩:=i j c o (by simpa using d) (by simpa using e);exact⟨y,λn=>by simpa using k n,by rw[show a+(j+1)=a+1+j by omega];exact l⟩
theorem LE{S' Y F:ac}{u L:Nat->Value}{cs xs G:List C}{off:Nat}(g:bk S w w1)(n:∀b o,S b o->S' b o)(h:cI w S Y cs u)(h':cI w1 S' F xs L)(i:N1 u 0 cs (xs.drop off) G):cI w1 S' F G u:=by
 obtain⟨f,M,U,V⟩:=h;obtain⟨H,r,t,A⟩:=h';obtain⟨W,N⟩:=zG i;refine⟨λj b o=>off+j<xs.length/\H (off+j) b o,λj c q=>?_,λj q b o i=>t _ i.1 b o i.2,λj X q O P b o i p=>A _ _ i.1 p.1 ω b o i.2 p.2⟩;have Q:=(C2.1 q).1;have k:cs[j]? = some cs[j]:=Z1 ω;obtain⟨y,l,a⟩:=N j _ c k q;rw[Y5]at a;have d:=M j _ k;generalize cs[j]=B at k a d l;have keep:dz B=false->c=B->ec w1 S' (λb o=>off+j<xs.length/\H (off+j) b o) c (u j):=λR e=>by
  subst e;exact((d.bare (F':=NO) R).keep g (λ_ _ h=>h.elim)).mono n (λ_ _ h=>h.elim)
 cases B with
 | v Z=>exact keep rfl a
 | x=>exact keep rfl a
 | z=>exact keep rfl a
 | m es=>exact a.elim
 | it=>exact a.elim
 | s o J=>
  cases o with
  | imm=>exact keep rfl a
  | tag z=>exact a.elim
  | own=>
   have l:=l rfl;rw[List.getElem?_drop]at l;have D:=(C2.1 l).1;simp only[Ql]at a;split at a
   case h_2=>exact a.elim
   rename_i v' E;obtain⟨rfl,rfl⟩:=a;obtain⟨T,K⟩:=(r _ _ l).untag;rw[T]at K;exact K.mono (λ_ _ h=>h) (λb o h=>⟨D,h⟩)
theorem bi.backs{E:World}{S':ac}{u:Nat->Nat->Value}(h:bi w0 M S0 N S' φ F a E)(e:bk S w E)(f:∀b o,S b o->S' b o):∀{A:List MA}{g:List (Nat × Nat)}{B:List MA}{vs:List Value}{V:Nat->ac}{i:Nat},LX w S V A vs->
  (∀j v,vs[j]? = some v->u (i+j)=celF v)->(∀j v cs,vs[j]? = some v->A[j]? = some (.ptr cs)->tvs a (i+j)=v)->hO u F i A g B->DE E S' (λn=>Pc φ (Dy i A g)[n]?) B vs
 | [],g,B,vs,V,i,l,q,r,c=>by
  cases vs with
  | cons _ _=>exact l.elim
  | nil=>cases B with
   | nil=>trivial
   | cons _ _=>simp only[hO]at c
 | m::A,[],B,vs,V,i,l,q,r,c=>by cases m<;>simp only[hO]at c
 | m::A,p::g,[],vs,V,i,l,q,r,c=>by cases m<;>simp only[hO]at c
 | m::A,p::g,G::B,[],V,i,l,q,r,c=>l.elim
 | m::A,p::g,G::B,v::vs,V,i,l,q,r,c=>by
  have next:hO u F (i+1) A g B->DE E S' (λn=>Pc φ (Dy (i+1) A g)[n]?) B vs:=λc=>
   bi.backs h e f l.2 (λj v H=>by rw[show i+1+j=i+(j+1) by omega];exact q (j+1) v (by simpa using H))
    (λj v cs H U=>by rw[show i+1+j=i+(j+1) by omega];exact r (j+1) v cs (by simpa using H) (by simpa using U)) c
  cases m with
  | val W cs=>
   cases G with
   | val C X=>simp only[hO]at c;exact⟨trivial,next c⟩
   | ptr=>simp only[hO]at c
   | «mut»=>simp only[hO]at c
  | «mut» W cs=>
   cases G with
   | val=>simp only[hO]at c
   | ptr=>simp only[hO]at c
   | «mut» C out=>
    simp only[hO]at c;obtain⟨⟨rfl,d⟩,J⟩:=c;refine⟨?_,next J⟩;have D:=bC.celF (show bC w S (V 0) C cs v from l.1);have K:u i=celF v:=q 0 v (by simp);have t:=h.slot p.1;cases y:F p.1 with
    | hold k xs=>
     rw[y]at d t;simp only at d;rw[K]at d;obtain⟨P,Y,Q,L,R,T,O⟩:=t;refine⟨by rw[<-(zG d).1];exact D.1,celF v,D.2.1,?_⟩;exact(LE e f D.2.2 O d).mono (λ_ _ h=>h) (λb o c=>by simpa[Dy,Pc] using L b o c)
    | _=>rw[y]at d;exact d.elim
  | ptr cs=>
   cases G with
   | val=>simp only[hO]at c
   | «mut»=>simp only[hO]at c
   | ptr out=>
    simp only[hO]at c;refine⟨?_,next c.2⟩;have D:tvs a i=v:=r 0 v cs (by simp) (by simp);have t:=h.slot i;cases y:F i with
    | hold k xs=>
     cases k with
     | box=>
      rw[y]at c t;have:=c.1;simp only at this;subst this;rw[D]at t;obtain⟨P,Y,Q,L,R,T,O⟩:=t;exact⟨P,Y,λb o c=>by simpa[Dy,Pc] using Q b o c,λb o c=>by simpa[Dy,Pc] using L b o c,R,T,O⟩
     | _=>rw[y]at c;exact c.1.elim
    | _=>rw[y]at c;exact c.1.elim
theorem rV:∀{l:List (Option Nat)},EE l=true->∀(i a t c:Nat),i≠a->l[i]? = some (some t)->l[a]? = some (some c)->t≠c
 | [],_,i,a,t,c,_,h,_=>by simp at h
 | none::l,b,i,a,t,c,f,h,d=>by
  cases i with
  | zero=>simp at h
  | succ i=>cases a with
   | zero=>simp at d
   | succ a=>exact rV (l:=l) b i a t c ω (by simpa using h) (by simpa using d)
 | some j::l,b,i,a,t,c,f,h,d=>by
  simp only[EE,I0]at b;have g:∀(n s:Nat),l[n]? = some (some s)->j≠s:=λn s k e=>by
   have:=V3.1 b.1 _ (U1 k);simp only[Bool.not_eq_true']at this;rw[e,Nat.beq_refl]at this;cases this
  cases i with
  | zero=>
   simp at h;subst h;cases a with
   | zero=>exact absurd rfl f
   | succ a=>exact g a c (by simpa using d)
  | succ i=>cases a with
   | zero=>simp at d;subst d;exact λe=>g i t (by simpa using h) e.symm
   | succ a=>exact rV b.2 i a t c ω (by simpa using h) (by simpa using d)
theorem vB:∀{l:List (Option Nat)}{i t:Nat},l[i]? = some (some t)->t∈sles l
 | [],i,t,h=>by simp at h
 | none::l,i,t,h=>by
  cases i with
  | zero=>simp at h
  | succ i=>exact vB (l:=l) (i:=i) (by simpa using h)
 | some a::l,i,t,h=>by
  cases i with
  | zero=>simp at h;subst h;simp[sles]
  | succ i=>exact X4 _ (vB (l:=l) (i:=i) (by simpa using h))
theorem wU{φ:Nat->ac}{x:Option (Option Nat)}{b o:Nat}(h:Pc φ x b o):∃t,x=some (some t)/\φ t b o:=by
 match x,h with
 | some (some t),h=>exact⟨t,rfl,h⟩
 | some none,h=>exact h.elim
 | none,h=>exact h.elim
theorem H0{f : Nat}{E : Func}{c : Code}{sh : Bool}{A B : List MA}{k : Kd}{rcs : List C}{mo : List (Nat × List Nat)}{n : Nat}(Q : List (Nat × Nat))(hTE : ∀t i, TE t = some i -> ca P t i)(hf : P.funcs[f]? = some E)(hn : (E.name == "runtime.NumGoroutine") = false)(a:E.body=some c){ck:Nat->Array Oper->Bool}{D:fh->Nat->Array Oper->((Nat->AV)->Prop)->(Nat->AV)->Prop}(hD:∀N,wS P N ck (D N))(hc:fH ck c=true)(hN:A.length+(E.ntmps - A.length)=n)(hok:EE (Dy 0 A Q)=true)(hsh:sh=true\/gw rcs)(hp:∀(u:Nat->Nat->Value)(p:Nat->Value),aw P TE ⟨n,Gl p 0 A,mo⟩ (D ⟨n,Gl p 0 A,mo⟩) c (NJ TE E.results.toList k rcs u A B Q) (lay (xn u 0 A))):aQ P f sh A B k rcs:=by
 refine⟨⟨E,hf,hn,by rw[a];rfl⟩,λw S V r hS hV hVd hA=>?_⟩;have hlen:=GV hA;refine calls_of_wp hf a ?_
 let u:Nat->Nat->Value:=λi=>celF (r.getD i undef)
 let p:Nat->Value:=λi=>r.getD i undef
 have htv:∀t v,r[t]? = some v->tvs {tmps:=r.toArray++Array.replicate (E.ntmps - r.toArray.size) undef,defers:=[]} t=v:=λt v l=>by
  have H:=(C2.1 l).1;simp only[tvs,V5];rw[Array.getElem?_append_left (by simpa using H)];simp only[List.getElem?_toArray];rw[l];rfl
 have hst:St w (λb o=>∃i,V i b o) S ⟨n,Gl p 0 A,mo⟩ (lay (xn u 0 A)) {tmps:=r.toArray++Array.replicate (E.ntmps - r.toArray.size) undef,defers:=[]} w:=by
  refine⟨S,V,λt=>?_,hVd,λt b o h=>(hV t b o h).2,λt b o h=>⟨(hV t b o h).1,.inr ⟨t,h⟩⟩,λ_ _ h=>h,λb o h=>⟨hS b o h,.inl h⟩,CW _ _,by simp;omega,rfl,λq hq=>?_⟩
  ·rcases zb (u:=u) 0 hA t with J|⟨m,v,-,l,h2',G,U⟩
   ·rw[J];trivial
   ·rw[G]
    rw[Nat.sub_zero]at l U;rw[htv t v l];have hu:u t=celF v:=by show celF (r.getD t undef)=_;rw[List.getD,l];rfl
    cases m with
    | val O K=>exact(bC.mono (show bC w S NO O K v from U) (λ_ _ h=>h) (λ_ _ h=>h.elim)).slot
    | «mut» O K=>
     obtain⟨e1,e2,e3⟩:=bC.celF (show bC w S (V t) O K v from U);refine bC.slot ⟨by rw[np];exact e1,celF v,e2,?_⟩;rw[hu];exact e3.tag
    | ptr K=>exact U
  ·obtain⟨-,J,l⟩:=Gh hq
   rw[l];have H:q.1<r.length:=ω
   refine htv _ _ ?_;show r[q.1]? = some (r.getD q.1 undef);rw[List.getD,Z1 H];rfl
 refine iA hTE (hD _) c hc _ _ _ _ w (hp u p) hst λe F' W y he hs'=>?_
 obtain⟨S',φ',h⟩:=hs';have fin:resA TE F' E.results.toList (sles (Dy 0 A Q)) (λsh K=>aR (jo sh) k K rcs (hO u F' 0 A Q B))->W.defers=[]/\∃v,(results E W.tmps).run P y=.ok v y/\(∃v',Ending.returned v=.returned v'/\bA (λb o=>∃i,V i b o) w y/\∃(X:ac)(Z:Nat->ac)(S1:ac),
     (∀b o,X b o->(∃i,V i b o)\/(b<y.heap.size/\w.heap.size<=b))/\(∀i b o,Z i b o->(∃i,V i b o)\/(b<y.heap.size/\w.heap.size<=b))/\
     (∀b o,S1 b o->(sh=true/\S b o)\/(∃i,V i b o)\/(b<y.heap.size/\w.heap.size<=b))/\
     (∀i i',i≠i'->∀b o,Z i b o->¬Z i' b o)/\(∀i b o,X b o->¬Z i b o)/\(∀b o,X b o->¬S1 b o)/\(∀i b o,Z i b o->¬S1 b o)/\
     fI y NO k rcs.length v'/\cI y S1 X rcs (bT y k v')/\DE y (λb o=>S b o\/S1 b o) Z B r):=by
  intro hr;obtain⟨shs,K,d,u',hfin,hrun,M,hln,hL,hcells,L,hrow⟩:=h.resA hTE hr;obtain⟨rfl,rfl,R⟩:=hfin.out;refine⟨h.defers,?_⟩;have T:(results E W.tmps).run P y=.ok (if h:d.toArray.size=1 then d.toArray[0] else .tuple d.toArray) y:=by
   have e:results E W.tmps=(do let r <-E.results.mapM (BD W.tmps);pure (if h:r.size=1 then r[0] else .tuple r)):=by
    unfold results
    congr 1
   rw[e,<-Array.toArray_toList (xs:=E.results),List.mapM_toArray];simp only[Sem.run_bind,Sem.run_map,hrun,Result.andThen_ok,Sem.run_pure]
  have hex:∀t b o,φ' t b o->(∃i,V i b o)\/(b<y.heap.size/\w.heap.size<=b):=λt b o a=>(h.ex t b o a).2.elim (λh'=>.inr ⟨(h.ex t b o a).1,h'⟩) .inl
  have hsameS:bk S w y:=λb o a=>by
   have H:=hS b o a;exact⟨h.old.cel b o H (λ⟨i,hi⟩=>(hV i b o hi).2 a),h.old.fro b o H (λ⟨i,hi⟩=>(hV i b o hi).2 a)⟩
  have hm:=h.backs (u:=u) hsameS h.sub hA (λj v hj=>by show celF (r.getD (0+j) undef)=_;rw[Y5,List.getD,hj];rfl) (λj v K hj hc=>by
    have:=h.par _ (GK (p:=p) (i:=0) hc);rw[this];show r.getD (0+j) undef=v;rw[Y5,List.getD,hj];rfl) R
  refine⟨_,T,_,rfl,h.old,λb o=>∃t,t∉sles (Dy 0 A Q)/\φ' t b o,λi=>Pc φ' (Dy 0 A Q)[i]?,λb o=>(sh=true/\S' b o)\/(S' b o/\((∃i,V i b o)\/w.heap.size<=b)),λb o ⟨t,_,a⟩=>hex t b o a,λi b o a=>?_,λb o a=>?_,λi i' hne b o a g=>?_,λi b o ⟨t,ht,a⟩ g=>?_,λb o ⟨t,_,a⟩ g=>h.disS t b o a (g.elim (·.2) (·.1)),λi b o a g=>?_,?_⟩
  ·obtain⟨t,-,a⟩:=wU a
   exact hex t b o a
  ·rcases a with⟨J,l⟩|⟨J,l⟩
   ·rcases(h.sup b o l).2 with G|G|G
    ·exact .inl ⟨J,G⟩
    ·exact .inr (.inr ⟨(h.sup b o l).1,G⟩)
    ·exact .inr (.inl G)
   ·rcases l with l|l
    ·exact .inr (.inl l)
    ·exact .inr (.inr ⟨(h.sup b o J).1,l⟩)
  ·obtain⟨t,e1,a⟩:=wU a
   obtain⟨t',e2,g⟩:=wU g;exact h.dis t t' (rV hok i i' t t' hne e1 e2) b o a g
  ·obtain⟨t',e2,g⟩:=wU g
   exact h.dis t t' (λe=>ht (by rw[e];exact vB e2)) b o a g
  ·obtain⟨t,-,a⟩:=wU a
   exact h.disS t b o a (g.elim (·.2) (·.1))
  ·have hk:fI y NO (jo shs) K.length (if h:d.toArray.size=1 then d.toArray[0] else .tuple d.toArray)/\cI y S' (λb o=>∃t,t∉sles (Dy 0 A Q)/\φ' t b o) K (bT y (jo shs) (if h:d.toArray.size=1 then d.toArray[0] else .tuple d.toArray)):=by
    match shs,M,L,hL with
    | [],M,_,hL=>
     cases d with
     | cons _ _=>exact M.elim
     | nil=>
      have:K=[]:=O6 (by simpa[po] using hL.symm);subst this;exact⟨⟨_,rfl,trivial,rfl⟩,cI.nil _ _ _ _⟩
    | [O],_,L,_=>
     obtain⟨v,rfl,hv⟩:=L O rfl;have:=hv.slot (F:=F') (tv:=tvs W);obtain⟨X1,Y,J,l,G,U,h5⟩:=this;refine⟨?_,h5.mono (λ_ _ h=>h) l⟩;cases O<;>exact U
    | O::ag2::sh,M,_,hL=>
     have hsz:¬d.toArray.size=1:=by
      match d,M with
      | [],M=>simp
      | [v],M=>cases O<;>cases ag2<;>exact M.2.elim
      | _::_::_,_=>simp
     rw[dif_neg hsz];refine⟨⟨_,rfl,M,hL⟩,hrow.congr λj hj=>?_⟩;simp only[bT,jo,lG,hcells];simp[List.getD,hj]
   refine⟨hk.1,?_,hm.mono λb o a=>?_⟩
   ·rcases hsh with J|J
    ·exact hk.2.mono (λb o a=>.inl ⟨J,a⟩) (λ_ _ h=>h)
    ·exact(hk.2.fresh J).mono (λ_ _ h=>h.elim) (λ_ _ h=>h)
   ·rcases(h.sup b o a).2 with G|G|G
    ·exact .inl G
    ·exact .inr (.inr ⟨a,.inr G⟩)
    ·exact .inr (.inr ⟨a,.inl G⟩)
 cases e with
 | normal=>exact fin he
 | ret=>exact fin he
 | _=>exact he.elim
end
abbrev I(z:Int):C:=.v (.int .i64 z)
abbrev B(b:Bool):C:=.v (.bool b)
def rI(_:du)(z:Int):List C:=[I z]
def rB(_:du)(b:Bool):List C:=[B b]
theorem p9(z:Int):gw (rI .own z):=⟨trivial,trivial⟩
theorem DN(b:Bool):gw (rB .own b):=⟨trivial,trivial⟩
def lQ(z:Int):Prop:=-9223372036854775808<=z/\z<=9223372036854775807
def Qx(_:Bool):Prop:=True
theorem pJ : Tryz.prog.follows .mixedOrders=true:=by kernel_rfl
theorem PQ{n f : Nat}{mo : List (Nat × List Nat)}{a : Func}{c : Code}{sh : Bool}{A : List RA}{k : Kd}{rcs : List C}(d : Tryz.prog.funcs[f]? = some a)(e : (a.name == "runtime.NumGoroutine") = false)(g : a.body = some c){tb : List (Nat × Nat × List Nat)}(h : fH (mn tb) c = true)(i:A.length+(a.ntmps - A.length)=n)(b:sh=true\/gw rcs)(j:aw Tryz.prog TE ⟨n,[],mo⟩ (DF Tryz.prog TE ⟨n,[],mo⟩ tb) c (ML TE a.results.toList k rcs) (lay (tW 0 A))):ao Tryz.prog f sh A k rcs:=
 Hp qU d e g (qk qU pJ ⟨n,[],mo⟩ tb) h i rfl b j
theorem PM{n f : Nat}{mo : List (Nat × List Nat)}{a : Func}{c : Code}{sh : Bool}{A B : List MA}{k : Kd}{rcs : List C}(b : List (Nat × Nat))(g : Tryz.prog.funcs[f]? = some a)(h : (a.name == "runtime.NumGoroutine") = false)(i : a.body = some c){tb : List (Nat × Nat × List Nat)}(j : fH (mn tb) c = true)(l:A.length+(a.ntmps - A.length)=n)(d:EE (Dy 0 A b)=true)(e:sh=true\/gw rcs)(o:∀(u:Nat->Nat->Value)(p:Nat->Value),aw Tryz.prog TE ⟨n,Gl p 0 A,mo⟩ (DF Tryz.prog TE ⟨n,Gl p 0 A,mo⟩ tb) c (NJ TE a.results.toList k rcs u A B b) (lay (xn u 0 A))):aQ Tryz.prog f sh A B k rcs:=
 H0 b qU g h i (λN=>qk qU pJ N tb) j l d e o
theorem PI{n f t : Nat}{mo : List (Nat × List Nat)}{a : Func}{c : Code}{A : List RA}{rcs : List C}(b : Tryz.prog.funcs[f]? = some a)(d : (a.name == "runtime.NumGoroutine") = false)(e : a.body = some c){tb : List (Nat × Nat × List Nat)}(g : fH (mn tb) c = true)(h:A.length+(a.ntmps - A.length)=n)(i:a.results = #[.tmp t])(j:aw Tryz.prog TE ⟨n,[],mo⟩ (DF Tryz.prog TE ⟨n,[],mo⟩ tb) c (PF t rcs) (lay (tW 0 A))):pV Tryz.prog f true A .box rcs:=
 HM qU b d e (qk qU pJ ⟨n,[],mo⟩ tb) g h rfl i j
theorem fg{x:Int}(h1 : -9223372036854775808<=x)(a:x<=9223372036854775807):IntKind.i64.wrap x=x:=IntWalk.i64_in x (by constructor<;>assumption)
def JW:RA->RA->Prop
 | .val ag cs,.val ag' cs'=>ag=ag'/\cs=cs'
 | .ptr cs,.ptr cs'=>cs=cs'
 | A,a=>A=a
theorem JW.eq{A a:RA}(h:JW A a):A=a:=by
 unfold JW at h;split at h
 ·obtain⟨rfl,rfl⟩:=h;rfl
 ·rw[h]
 ·exact h
def B6:List RA->List RA->Prop
 | [],[]=>True
 | A::As,B::Bs=>JW A B/\B6 As Bs
 | _,_=>False
theorem B6.eq:∀{A a:List RA},B6 A a->A=a
 | [],[],_=>rfl
 | A::As,B::Bs,h=>by rw[JW.eq h.1,B6.eq h.2]
 | [],_::_,h=>h.elim
 | _::_,[],h=>h.elim
theorem Cl.eq{P:Program}{f:Nat}{b:Bool}{A a:List RA}{K:AV->Prop}{k:Kd}{rcs:List C}(h:ao P f false a k rcs)(c:B6 A a)(d:K (.hold k rcs)):Cl P f b A K:=by rw[c.eq];exact C7 h d
theorem CD:type_of% @Cl.eq:=@Cl.eq
theorem wi{n b:Nat}(h:n<=1048576)(a:b<=1000):n*b<=140737488355328:=O4 (Nat.mul_le_mul h a) (by decide)
theorem Bf.NB{a b:Bool}{X Y:Prop}(h1:a≠b->X)(c:a=b->Y):Bf (a != b) X Y:=by
 refine Bf.P (λh=>h1 ?_) (λh=>c ?_)
 ·simpa using h
 ·simpa using h
theorem Rw.one{a:List C}{off i k j:Nat}{K:List C->Nat->Prop}{o:du}{rows:List (List C)}{r:List C}(h1:a[off]? = some (.s o rows))(b:rows[i]? = some r)(c:r.length=k)(d:K r j):Rw a off [(i,k,j)] K:=
 Rw.mk (r:=r) (j:=j) (by simp[bR,h1,b,c]) d
theorem CG:type_of% @Rw.one:=@Rw.one
section
variable{α:Type}{A B:List α}
end
theorem aa{α β:Type}{f:α->β}{l:List α}{k:Nat}{x:α}(h:l[k]? = some x):(l.map f)[k]? = some (f x):=by simp[h]
def aD(o:du)(x:List Int):List C:=[.s o (x.map (rI o))]
theorem eB(x:List Int):d9 (aD .own x)=aD .imm x:=by simp[d9,aD,rI,d9]
theorem bG(x:List Int):gw (aD .own x):=⟨⟨.inl λh=>(by cases h),bc _ _ λy _=>p9 y⟩,trivial⟩
def iK(x:List Int):Prop:=x.length<=9223372036854775807/\∀y∈x,lQ y
def r9(x:List Int):Prop:=x.length<=1048576
def iR(o:du)(x:List (List Int)):List C:=[.s o (x.map (aD o))]
theorem Pz(x:List (List Int)):d9 (iR .own x)=iR .imm x:=by simp[d9,iR,eB,<-bW,z5]
def A3(x:List (List Int)):Prop:=x.length<=9223372036854775807/\∀y∈x,iK y
def wn(x:List (List Int)):Prop:=x.length<=1048576/\∀y∈x,r9 y
def Ar(o:du)(x:List Bool):List C:=[.s o (x.map (rB o))]
def Mb(x:List Bool):Prop:=x.length<=9223372036854775807/\∀y∈x,Qx y
def KL(x:List Bool):Prop:=x.length<=1048576
structure aZ where
 Cells:List (List Int)
 Used:List Bool
deriving DecidableEq,Inhabited
def aZ.enc(o:du)(x:aZ):List C:=[.s o (x.Cells.map (aD o)),.s o (x.Used.map (rB o))]
theorem aZ.enc_fz(x:aZ):d9 (aZ.enc .own x)=aZ.enc .imm x:=by simp[d9,aZ.enc,rB,eB,<-bW,z5]
theorem aZ.enc_fr(x:aZ):gw (aZ.enc .own x):=⟨⟨.inl λh=>(by cases h),bc _ _ λy _=>bG y⟩,⟨.inl λh=>(by cases h),bc _ _ λy _=>DN y⟩,trivial⟩
def aZ.wf(x:aZ):Prop:=A3 x.Cells/\Mb x.Used
def aZ.sml(x:aZ):Prop:=wn x.Cells/\KL x.Used
structure bh where
 Mode:Int
 Frame:Int
deriving DecidableEq,Inhabited
def bh.enc(o:du)(x:bh):List C:=[I x.Mode,I x.Frame]
theorem bh.enc_fz(x:bh):d9 (bh.enc .own x)=bh.enc .imm x:=by simp[d9,bh.enc]
theorem bh.enc_fr(x:bh):gw (bh.enc .own x):=⟨trivial,trivial,trivial⟩
def bh.wf(x:bh):Prop:=lQ x.Mode/\lQ x.Frame
def bh.sml(_:bh):Prop:=True
def BA(o:du)(x:List bh):List C:=[.s o (x.map (bh.enc o))]
def Hc(x:List bh):Prop:=x.length<=9223372036854775807/\∀y∈x,bh.wf y
def Fb(x:List bh):Prop:=x.length<=1048576/\∀y∈x,bh.sml y
structure aG where
 Entries:List bh
deriving DecidableEq,Inhabited
def aG.enc(o:du)(x:aG):List C:=[.s o (x.Entries.map (bh.enc o))]
theorem aG.enc_fz(x:aG):d9 (aG.enc .own x)=aG.enc .imm x:=by simp[d9,aG.enc,bh.enc_fz,<-bW,z5]
theorem CV:type_of% @aG.enc_fz:=@aG.enc_fz
theorem aG.enc_fr(x:aG):gw (aG.enc .own x):=⟨⟨.inl λh=>(by cases h),bc _ _ λy _=>bh.enc_fr y⟩,trivial⟩
def aG.wf(x:aG):Prop:=Hc x.Entries
def aG.sml(x:aG):Prop:=Fb x.Entries
structure aS where
 Frames:aZ
 Table:aG
deriving DecidableEq,Inhabited
def aS.enc(o:du)(x:aS):List C:=[.s o (x.Frames.Cells.map (aD o)),.s o (x.Frames.Used.map (rB o)),.s o (x.Table.Entries.map (bh.enc o))]
theorem aS.enc_fz(x:aS):d9 (aS.enc .own x)=aS.enc .imm x:=by simp[d9,aS.enc,bh.enc_fz,rB,eB,<-bW,z5]
theorem aS.enc_fr(x:aS):gw (aS.enc .own x):=⟨⟨.inl λh=>(by cases h),bc _ _ λy _=>bG y⟩,⟨.inl λh=>(by cases h),bc _ _ λy _=>DN y⟩,⟨.inl λh=>(by cases h),bc _ _ λy _=>bh.enc_fr y⟩,trivial⟩
def aS.wf(x:aS):Prop:=aZ.wf x.Frames/\aG.wf x.Table
def aS.sml(x:aS):Prop:=aZ.sml x.Frames/\aG.sml x.Table
structure af where
 Machine:aS
 Calls:Int
 Refuse:List Int
deriving DecidableEq,Inhabited
def af.enc(o:du)(x:af):List C:=[.s o (x.Machine.Frames.Cells.map (aD o)),.s o (x.Machine.Frames.Used.map (rB o)),.s o (x.Machine.Table.Entries.map (bh.enc o)),I x.Calls,.s o (x.Refuse.map (rI o))]
theorem af.enc_fz(x:af):d9 (af.enc .own x)=af.enc .imm x:=by simp[d9,af.enc,bh.enc_fz,rB,rI,eB,<-bW,z5]
theorem CO:type_of% @af.enc_fz:=@af.enc_fz
theorem af.enc_fr(x:af):gw (af.enc .own x):=⟨⟨.inl λh=>(by cases h),bc _ _ λy _=>bG y⟩,⟨.inl λh=>(by cases h),bc _ _ λy _=>DN y⟩,⟨.inl λh=>(by cases h),bc _ _ λy _=>bh.enc_fr y⟩,trivial,⟨.inl λh=>(by cases h),bc _ _ λy _=>p9 y⟩,trivial⟩
def af.wf(x:af):Prop:=aS.wf x.Machine/\lQ x.Calls/\iK x.Refuse
def af.sml(x:af):Prop:=aS.sml x.Machine/\r9 x.Refuse
structure ay where
 At:Int
 Len:Int
deriving DecidableEq,Inhabited
def ay.enc(o:du)(x:ay):List C:=[I x.At,I x.Len]
theorem ay.enc_fz(x:ay):d9 (ay.enc .own x)=ay.enc .imm x:=by simp[d9,ay.enc]
theorem ay.enc_fr(x:ay):gw (ay.enc .own x):=⟨trivial,trivial,trivial⟩
def ay.wf(x:ay):Prop:=lQ x.At/\lQ x.Len
def ay.sml(_:ay):Prop:=True
def b8(o:du)(x:List ay):List C:=[.s o (x.map (ay.enc o))]
theorem d8(x:List ay):d9 (b8 .own x)=b8 .imm x:=by simp[d9,b8,ay.enc_fz,<-bW,z5]
theorem kJ(x:List ay):gw (b8 .own x):=⟨⟨.inl λh=>(by cases h),bc _ _ λy _=>ay.enc_fr y⟩,trivial⟩
def Hu(x:List ay):Prop:=x.length<=9223372036854775807/\∀y∈x,ay.wf y
def fW(x:List ay):Prop:=x.length<=1048576/\∀y∈x,ay.sml y
structure au where
 Page:Int
 Class:Int
 Bits:Int
deriving DecidableEq,Inhabited
def au.enc(o:du)(x:au):List C:=[I x.Page,I x.Class,I x.Bits]
theorem au.enc_fz(x:au):d9 (au.enc .own x)=au.enc .imm x:=by simp[d9,au.enc]
theorem au.enc_fr(x:au):gw (au.enc .own x):=⟨trivial,trivial,trivial,trivial⟩
def au.wf(x:au):Prop:=lQ x.Page/\lQ x.Class/\lQ x.Bits
def au.sml(_:au):Prop:=True
def cr(o:du)(x:List au):List C:=[.s o (x.map (au.enc o))]
theorem dC(x:List au):d9 (cr .own x)=cr .imm x:=by simp[d9,cr,au.enc_fz,<-bW,z5]
theorem EN(x:List au):gw (cr .own x):=⟨⟨.inl λh=>(by cases h),bc _ _ λy _=>au.enc_fr y⟩,trivial⟩
def JX(x:List au):Prop:=x.length<=9223372036854775807/\∀y∈x,au.wf y
def dy(x:List au):Prop:=x.length<=1048576/\∀y∈x,au.sml y
structure ax where
 Page:Int
 Pages:Int
 Size:Int
deriving DecidableEq,Inhabited
def ax.enc(o:du)(x:ax):List C:=[I x.Page,I x.Pages,I x.Size]
theorem ax.enc_fz(x:ax):d9 (ax.enc .own x)=ax.enc .imm x:=by simp[d9,ax.enc]
theorem ax.enc_fr(x:ax):gw (ax.enc .own x):=⟨trivial,trivial,trivial,trivial⟩
def ax.wf(x:ax):Prop:=lQ x.Page/\lQ x.Pages/\lQ x.Size
def ax.sml(_:ax):Prop:=True
def bQ(o:du)(x:List ax):List C:=[.s o (x.map (ax.enc o))]
theorem gY(x:List ax):d9 (bQ .own x)=bQ .imm x:=by simp[d9,bQ,ax.enc_fz,<-bW,z5]
def Hh(x:List ax):Prop:=x.length<=9223372036854775807/\∀y∈x,ax.wf y
def dx(x:List ax):Prop:=x.length<=1048576/\∀y∈x,ax.sml y
structure bm where
 Id:Int
 Addr:Int
 Size:Int
 Thread:Int
deriving DecidableEq,Inhabited
def bm.enc(o:du)(x:bm):List C:=[I x.Id,I x.Addr,I x.Size,I x.Thread]
theorem bm.enc_fz(x:bm):d9 (bm.enc .own x)=bm.enc .imm x:=by simp[d9,bm.enc]
theorem bm.enc_fr(x:bm):gw (bm.enc .own x):=⟨trivial,trivial,trivial,trivial,trivial⟩
def bm.wf(x:bm):Prop:=lQ x.Id/\lQ x.Addr/\lQ x.Size/\lQ x.Thread
def bm.sml(_:bm):Prop:=True
def kh(o:du)(x:List bm):List C:=[.s o (x.map (bm.enc o))]
theorem He(x:List bm):d9 (kh .own x)=kh .imm x:=by simp[d9,kh,bm.enc_fz,<-bW,z5]
def Na(x:List bm):Prop:=x.length<=9223372036854775807/\∀y∈x,bm.wf y
def qw(x:List bm):Prop:=x.length<=1048576/\∀y∈x,bm.sml y
structure aA where
 Lists:List (List Int)
deriving DecidableEq,Inhabited
def aA.enc(o:du)(x:aA):List C:=[.s o (x.Lists.map (aD o))]
theorem aA.enc_fz(x:aA):d9 (aA.enc .own x)=aA.enc .imm x:=by simp[d9,aA.enc,eB,<-bW,z5]
theorem CX:type_of% @aA.enc_fz:=@aA.enc_fz
theorem aA.enc_fr(x:aA):gw (aA.enc .own x):=⟨⟨.inl λh=>(by cases h),bc _ _ λy _=>bG y⟩,trivial⟩
def aA.wf(x:aA):Prop:=A3 x.Lists
def aA.sml(x:aA):Prop:=wn x.Lists
def nN(o:du)(x:List aA):List C:=[.s o (x.map (aA.enc o))]
def Hj(x:List aA):Prop:=x.length<=9223372036854775807/\∀y∈x,aA.wf y
def FE(x:List aA):Prop:=x.length<=1048576/\∀y∈x,aA.sml y
structure cZ where
 To:Int
 Addr:Int
deriving DecidableEq,Inhabited
def cZ.enc(o:du)(x:cZ):List C:=[I x.To,I x.Addr]
theorem cZ.enc_fz(x:cZ):d9 (cZ.enc .own x)=cZ.enc .imm x:=by simp[d9,cZ.enc]
theorem cZ.enc_fr(x:cZ):gw (cZ.enc .own x):=⟨trivial,trivial,trivial⟩
def cZ.wf(x:cZ):Prop:=lQ x.To/\lQ x.Addr
def cZ.sml(_:cZ):Prop:=True
def cz(o:du)(x:List cZ):List C:=[.s o (x.map (cZ.enc o))]
theorem qn(x:List cZ):d9 (cz .own x)=cz .imm x:=by simp[d9,cz,cZ.enc_fz,<-bW,z5]
theorem qj(x:List cZ):gw (cz .own x):=⟨⟨.inl λh=>(by cases h),bc _ _ λy _=>cZ.enc_fr y⟩,trivial⟩
def Lz(x:List cZ):Prop:=x.length<=9223372036854775807/\∀y∈x,cZ.wf y
def Hi(x:List cZ):Prop:=x.length<=1048576/\∀y∈x,cZ.sml y
def xj(o:du)(x:List (List cZ)):List C:=[.s o (x.map (cz o))]
def H8(x:List (List cZ)):Prop:=x.length<=9223372036854775807/\∀y∈x,Lz y
def Fi(x:List (List cZ)):Prop:=x.length<=1048576/\∀y∈x,Hi y
structure aI where
 Buffers:List (List cZ)
 Inbox:List (List Int)
deriving DecidableEq,Inhabited
def aI.enc(o:du)(x:aI):List C:=[.s o (x.Buffers.map (cz o)),.s o (x.Inbox.map (aD o))]
theorem aI.enc_fz(x:aI):d9 (aI.enc .own x)=aI.enc .imm x:=by simp[d9,aI.enc,qn,eB,<-bW,z5]
theorem aI.enc_fr(x:aI):gw (aI.enc .own x):=⟨⟨.inl λh=>(by cases h),bc _ _ λy _=>qj y⟩,⟨.inl λh=>(by cases h),bc _ _ λy _=>bG y⟩,trivial⟩
def aI.wf(x:aI):Prop:=H8 x.Buffers/\A3 x.Inbox
def aI.sml(x:aI):Prop:=Fi x.Buffers/\wn x.Inbox
structure aL where
 Addr:Int
 Class:Int
 Since:Int
deriving DecidableEq,Inhabited
def aL.enc(o:du)(x:aL):List C:=[I x.Addr,I x.Class,I x.Since]
theorem aL.enc_fz(x:aL):d9 (aL.enc .own x)=aL.enc .imm x:=by simp[d9,aL.enc]
theorem aL.enc_fr(x:aL):gw (aL.enc .own x):=⟨trivial,trivial,trivial,trivial⟩
def aL.wf(x:aL):Prop:=lQ x.Addr/\lQ x.Class/\lQ x.Since
def aL.sml(_:aL):Prop:=True
def ce(o:du)(x:List aL):List C:=[.s o (x.map (aL.enc o))]
theorem BY(x:List aL):d9 (ce .own x)=ce .imm x:=by simp[d9,ce,aL.enc_fz,<-bW,z5]
theorem nl(x:List aL):gw (ce .own x):=⟨⟨.inl λh=>(by cases h),bc _ _ λy _=>aL.enc_fr y⟩,trivial⟩
def Hg(x:List aL):Prop:=x.length<=9223372036854775807/\∀y∈x,aL.wf y
def kv(x:List aL):Prop:=x.length<=1048576/\∀y∈x,aL.sml y
structure bz where
 Room:Int
 Lst:List aL
deriving DecidableEq,Inhabited
def bz.enc(o:du)(x:bz):List C:=[I x.Room,.s o (x.Lst.map (aL.enc o))]
theorem bz.enc_fz(x:bz):d9 (bz.enc .own x)=bz.enc .imm x:=by simp[d9,bz.enc,aL.enc_fz,<-bW,z5]
theorem bz.enc_fr(x:bz):gw (bz.enc .own x):=⟨trivial,⟨.inl λh=>(by cases h),bc _ _ λy _=>aL.enc_fr y⟩,trivial⟩
def bz.wf(x:bz):Prop:=lQ x.Room/\Hg x.Lst
def bz.sml(x:bz):Prop:=kv x.Lst
structure co where
 Keep:Int
 Move:Int
 Cells:List Int
deriving DecidableEq,Inhabited
def co.enc(o:du)(x:co):List C:=[I x.Keep,I x.Move,.s o (x.Cells.map (rI o))]
theorem co.enc_fz(x:co):d9 (co.enc .own x)=co.enc .imm x:=by simp[d9,co.enc,rI,<-bW,z5]
theorem co.enc_fr(x:co):gw (co.enc .own x):=⟨trivial,trivial,⟨.inl λh=>(by cases h),bc _ _ λy _=>p9 y⟩,trivial⟩
def co.wf(x:co):Prop:=lQ x.Keep/\lQ x.Move/\iK x.Cells
def co.sml(x:co):Prop:=r9 x.Cells
structure cn where
 Plan:co
 Phase:Int
 Next:Int
deriving DecidableEq,Inhabited
def cn.enc(o:du)(x:cn):List C:=[I x.Plan.Keep,I x.Plan.Move,.s o (x.Plan.Cells.map (rI o)),I x.Phase,I x.Next]
theorem cn.enc_fz(x:cn):d9 (cn.enc .own x)=cn.enc .imm x:=by simp[d9,cn.enc,rI,<-bW,z5]
theorem cn.enc_fr(x:cn):gw (cn.enc .own x):=⟨trivial,trivial,⟨.inl λh=>(by cases h),bc _ _ λy _=>p9 y⟩,trivial,trivial,trivial⟩
def cn.wf(x:cn):Prop:=co.wf x.Plan/\lQ x.Phase/\lQ x.Next
def cn.sml(x:cn):Prop:=co.sml x.Plan
structure ab where
 Kernel:af
 Free:List ay
 Spans:List au
 Larges:List ax
 Objs:List bm
 Caches:List aA
 Mail:aI
 Quar:bz
 Seed:Int
 Clock:Int
 Limit:Int
 Next:Int
 Meshing:Bool
 Job:cn
deriving DecidableEq,Inhabited
def ab.enc(o:du)(x:ab):List C:=[.s o (x.Kernel.Machine.Frames.Cells.map (aD o)),.s o (x.Kernel.Machine.Frames.Used.map (rB o)),.s o (x.Kernel.Machine.Table.Entries.map (bh.enc o)),I x.Kernel.Calls,.s o (x.Kernel.Refuse.map (rI o)),.s o (x.Free.map (ay.enc o)),.s o (x.Spans.map (au.enc o)),.s o (x.Larges.map (ax.enc o)),.s o (x.Objs.map (bm.enc o)),.s o (x.Caches.map (aA.enc o)),.s o (x.Mail.Buffers.map (cz o)),.s o (x.Mail.Inbox.map (aD o)),I x.Quar.Room,.s o (x.Quar.Lst.map (aL.enc o)),I x.Seed,I x.Clock,I x.Limit,I x.Next,B x.Meshing,I x.Job.Plan.Keep,I x.Job.Plan.Move,.s o (x.Job.Plan.Cells.map (rI o)),I x.Job.Phase,I x.Job.Next]
theorem ab.enc_fz(x:ab):d9 (ab.enc .own x)=ab.enc .imm x:=by simp[d9,ab.enc,CX,bh.enc_fz,ax.enc_fz,bm.enc_fz,ay.enc_fz,au.enc_fz,aL.enc_fz,rB,qn,rI,eB,<-bW,z5]
theorem ab.enc_fr(x:ab):gw (ab.enc .own x):=⟨⟨.inl λh=>(by cases h),bc _ _ λy _=>bG y⟩,⟨.inl λh=>(by cases h),bc _ _ λy _=>DN y⟩,⟨.inl λh=>(by cases h),bc _ _ λy _=>bh.enc_fr y⟩,trivial,⟨.inl λh=>(by cases h),bc _ _ λy _=>p9 y⟩,⟨.inl λh=>(by cases h),bc _ _ λy _=>ay.enc_fr y⟩,⟨.inl λh=>(by cases h),bc _ _ λy _=>au.enc_fr y⟩,⟨.inl λh=>(by cases h),bc _ _ λy _=>ax.enc_fr y⟩,⟨.inl λh=>(by cases h),bc _ _ λy _=>bm.enc_fr y⟩,⟨.inl λh=>(by cases h),bc _ _ λy _=>aA.enc_fr y⟩,⟨.inl λh=>(by cases h),bc _ _ λy _=>qj y⟩,⟨.inl λh=>(by cases h),bc _ _ λy _=>bG y⟩,trivial,⟨.inl λh=>(by cases h),bc _ _ λy _=>aL.enc_fr y⟩,trivial,trivial,trivial,trivial,trivial,trivial,trivial,⟨.inl λh=>(by cases h),bc _ _ λy _=>p9 y⟩,trivial,trivial,trivial⟩
def ab.wf(x:ab):Prop:=af.wf x.Kernel/\Hu x.Free/\JX x.Spans/\Hh x.Larges/\Na x.Objs/\Hj x.Caches/\aI.wf x.Mail/\bz.wf x.Quar/\lQ x.Seed/\lQ x.Clock/\lQ x.Limit/\lQ x.Next/\Qx x.Meshing/\cn.wf x.Job
def ab.sml(x:ab):Prop:=af.sml x.Kernel/\fW x.Free/\dy x.Spans/\dx x.Larges/\qw x.Objs/\FE x.Caches/\aI.sml x.Mail/\bz.sml x.Quar/\cn.sml x.Job
structure iM where
 Kind:Int
 Index:Int
 Slot:Int
 Offset:Int
deriving DecidableEq,Inhabited
def iM.enc(o:du)(x:iM):List C:=[I x.Kind,I x.Index,I x.Slot,I x.Offset]
theorem iM.enc_fr(x:iM):gw (iM.enc .own x):=⟨trivial,trivial,trivial,trivial,trivial⟩
structure Qw where
 Id:Int
 Size:Int
 Sum:Int
deriving DecidableEq,Inhabited
structure bJ where
 Id:Int
 Cells:List Int
deriving DecidableEq,Inhabited
def bJ.enc(o:du)(x:bJ):List C:=[I x.Id,.s o (x.Cells.map (rI o))]
theorem bJ.enc_fz(x:bJ):d9 (bJ.enc .own x)=bJ.enc .imm x:=by simp[d9,bJ.enc,rI,<-bW,z5]
theorem bJ.enc_fr(x:bJ):gw (bJ.enc .own x):=⟨trivial,⟨.inl λh=>(by cases h),bc _ _ λy _=>p9 y⟩,trivial⟩
def bJ.sml(x:bJ):Prop:=r9 x.Cells
def Bk(x:List bJ):Prop:=x.length<=1048576/\∀y∈x,bJ.sml y
structure a7 where
 Next:Int
 Objs:List bJ
deriving DecidableEq,Inhabited
def a7.enc(o:du)(x:a7):List C:=[I x.Next,.s o (x.Objs.map (bJ.enc o))]
theorem a7.enc_fz(x:a7):d9 (a7.enc .own x)=a7.enc .imm x:=by simp[d9,a7.enc,bJ.enc_fz,<-bW,z5]
theorem CY:type_of% @a7.enc_fz:=@a7.enc_fz
theorem a7.enc_fr(x:a7):gw (a7.enc .own x):=⟨trivial,⟨.inl λh=>(by cases h),bc _ _ λy _=>bJ.enc_fr y⟩,trivial⟩
def a7.sml(x:a7):Prop:=Bk x.Objs
structure bH where
 Heap:ab
 Ref:a7
deriving DecidableEq,Inhabited
def bH.enc(o:du)(x:bH):List C:=[.s o (x.Heap.Kernel.Machine.Frames.Cells.map (aD o)),.s o (x.Heap.Kernel.Machine.Frames.Used.map (rB o)),.s o (x.Heap.Kernel.Machine.Table.Entries.map (bh.enc o)),I x.Heap.Kernel.Calls,.s o (x.Heap.Kernel.Refuse.map (rI o)),.s o (x.Heap.Free.map (ay.enc o)),.s o (x.Heap.Spans.map (au.enc o)),.s o (x.Heap.Larges.map (ax.enc o)),.s o (x.Heap.Objs.map (bm.enc o)),.s o (x.Heap.Caches.map (aA.enc o)),.s o (x.Heap.Mail.Buffers.map (cz o)),.s o (x.Heap.Mail.Inbox.map (aD o)),I x.Heap.Quar.Room,.s o (x.Heap.Quar.Lst.map (aL.enc o)),I x.Heap.Seed,I x.Heap.Clock,I x.Heap.Limit,I x.Heap.Next,B x.Heap.Meshing,I x.Heap.Job.Plan.Keep,I x.Heap.Job.Plan.Move,.s o (x.Heap.Job.Plan.Cells.map (rI o)),I x.Heap.Job.Phase,I x.Heap.Job.Next,I x.Ref.Next,.s o (x.Ref.Objs.map (bJ.enc o))]
theorem bH.enc_fr(x:bH):gw (bH.enc .own x):=⟨⟨.inl λh=>(by cases h),bc _ _ λy _=>bG y⟩,⟨.inl λh=>(by cases h),bc _ _ λy _=>DN y⟩,⟨.inl λh=>(by cases h),bc _ _ λy _=>bh.enc_fr y⟩,trivial,⟨.inl λh=>(by cases h),bc _ _ λy _=>p9 y⟩,⟨.inl λh=>(by cases h),bc _ _ λy _=>ay.enc_fr y⟩,⟨.inl λh=>(by cases h),bc _ _ λy _=>au.enc_fr y⟩,⟨.inl λh=>(by cases h),bc _ _ λy _=>ax.enc_fr y⟩,⟨.inl λh=>(by cases h),bc _ _ λy _=>bm.enc_fr y⟩,⟨.inl λh=>(by cases h),bc _ _ λy _=>aA.enc_fr y⟩,⟨.inl λh=>(by cases h),bc _ _ λy _=>qj y⟩,⟨.inl λh=>(by cases h),bc _ _ λy _=>bG y⟩,trivial,⟨.inl λh=>(by cases h),bc _ _ λy _=>aL.enc_fr y⟩,trivial,trivial,trivial,trivial,trivial,trivial,trivial,⟨.inl λh=>(by cases h),bc _ _ λy _=>p9 y⟩,trivial,trivial,trivial,⟨.inl λh=>(by cases h),bc _ _ λy _=>bJ.enc_fr y⟩,trivial⟩
structure PJ where
 Pages:Int
 Mapped:Int
 Frames:Int
 Held:Int
 lK:Int
 Cached:Int
 Stale:Int
 Posted:Int
deriving DecidableEq,Inhabited
theorem Lm{α β:Type}{f:α->β}{l:List α}{K:Nat->Prop}(h:K l.length):Ln (l.map f).length K:=Ln.mk (X0 ..) h
theorem Wm{z:Int}{K:Int->Prop}(h : -9223372036854775808<=z/\z<=9223372036854775807)(a:K z):Wr .i64 z K:=CJ (fg h.1 h.2) a
theorem dT{p:Prop}[Decidable p]{X Y:Prop}(h:p)(a:p->X):Bf (decide p) X Y:=.D a λe=>absurd h e
theorem dF{p:Prop}[Decidable p]{X Y:Prop}(h:¬p)(a:¬p->Y):Bf (decide p) X Y:=.D (λe=>absurd e h) a
theorem nT{a b:Int}{X Y:Prop}(h:a≠b)(c:a≠b->X):Bf (a != b) X Y:=.N c λe=>absurd e h
theorem nF{a b:Int}{X Y:Prop}(h:a=b)(c:a=b->Y):Bf (a != b) X Y:=.N (λe=>absurd h e) c
theorem eT{a b:Int}{X Y:Prop}(h:a=b)(c:a=b->X):Bf (a == b) X Y:=.E c λe=>absurd h e
theorem eF{a b:Int}{X Y:Prop}(h:a≠b)(c:a≠b->Y):Bf (a == b) X Y:=.E (λe=>absurd e h) c
theorem Bn{b:Bool}{X Y:Prop}(h:Bf b Y X):Bf (!b) X Y:=.not h
theorem Bt{X Y:Prop}(h:X):Bf true X Y:=.t rfl h
theorem Bu{X Y:Prop}(h:Y):Bf false X Y:=.f rfl h
theorem Fm{k k':Kd}{cs a:List C}(h1:k=k')(h:cs=a):jn k k' cs a:=.mk h1 h
theorem dV{p:Prop}[Decidable p]{X Y:Prop}(h:p)(a:X):Bf (decide p) X Y:=.D (λ_=>a) λe=>absurd h e
theorem dW{p:Prop}[Decidable p]{X Y:Prop}(h:¬p)(a:Y):Bf (decide p) X Y:=.D (λe=>absurd e h) λ_=>a
theorem nV{a b:Int}{X Y:Prop}(h:a≠b)(c:X):Bf (a != b) X Y:=.N (λ_=>c) λe=>absurd e h
theorem nW{a b:Int}{X Y:Prop}(h:a=b)(c:Y):Bf (a != b) X Y:=.N (λe=>absurd h e) λ_=>c
theorem eV{a b:Int}{X Y:Prop}(h:a=b)(c:X):Bf (a == b) X Y:=.E (λ_=>c) λe=>absurd h e
theorem eW{a b:Int}{X Y:Prop}(h:a≠b)(c:Y):Bf (a == b) X Y:=.E (λe=>absurd e h) λ_=>c
structure NI(Y:Prop):Prop where
 out:Y
theorem gO{X Y:Prop}(y:Y)(h:NI Y->X:=by intro y;(conv=>whnf);(first|with_reducible (first|refine Lm ?_|refine Wm ω ?_|refine Bn ?_|refine Fm rfl ?_)|refine Bt ?_|refine Bu ?_|fail);exact y.out):X:=h ⟨y⟩
theorem gD{X Y:Prop}(y:Y)(h:NI Y->X:=by intro y;(conv=>whnf);(first|with_reducible (first|refine Lm ?_|refine Wm ω ?_|refine dV ω ?_|refine dW ω ?_|refine Bn ?_|refine Fm rfl ?_)|refine Bt ?_|refine Bu ?_|fail);exact y.out):X:=h ⟨y⟩
theorem gA{X Y:Prop}(y:Y)(h:NI Y->X:=by intro y;(conv=>whnf);(first|with_reducible (first|refine Lm ?_|refine Wm ω ?_|refine dV ω ?_|refine dW ω ?_|refine nV ω ?_|refine nW ω ?_|refine eV ω ?_|refine eW ω ?_|refine Bn ?_|refine Fm rfl ?_)|refine Bt ?_|refine Bu ?_|fail);exact y.out):X:=h ⟨y⟩
theorem PL{z1 z2:Int}(h:z1=z2):M6 (I z1) (I z2):=by subst h;rfl
theorem Qp(c:C):M6 c c:=(jY [c]).1
theorem wA{X:Prop}(h:X:=by repeat'(first|exact trivial|rfl|refine CI ?_ ?_)):X:=h
theorem wB{X:Prop}(h:X:=by repeat'(first|exact trivial|rfl|refine CI ?_ ?_|(exact PL (by first|omega|(simp only;omega)|(simp;omega))))):X:=h
theorem wC{X:Prop}(h:X:=by repeat'(first|exact trivial|rfl|exact Qp _|refine CI ?_ ?_|(exact PL (by first|omega|(simp only;omega)|(simp;omega))))):X:=h
theorem fO(n : Nat){f : Nat}{a : Func}{c : Code}{sh : Bool}{A : List RA}{k : Kd}{rcs : List C}(tb : List (Nat × Nat × List Nat))(d : Tryz.prog.funcs[f]? = some a)(e : a.body = some c)(g : aw Tryz.prog TE ⟨n, [], []⟩ (DF Tryz.prog TE ⟨n, [], []⟩ tb) c (ML TE a.results.toList k rcs) (lay (tW 0 A)))(b : sh = true \/ gw rcs := by exact .inr ⟨trivial, trivial⟩)(h : (a.name == "runtime.NumGoroutine") = false := by kernel_rfl)(i : fH (mn tb) c = true := by kernel_rfl)(j : A.length + (a.ntmps - A.length) = n := by rfl) : ao Tryz.prog f sh A k rcs := PQ d h e i j b g
theorem fP(n : Nat){f : Nat}{a : Func}{c : Code}{sh : Bool}{A : List RA}{k : Kd}{rcs : List C}(mo : List (Nat × List Nat))(tb : List (Nat × Nat × List Nat))(d : Tryz.prog.funcs[f]? = some a)(e : a.body = some c)(g : aw Tryz.prog TE ⟨n, [], mo⟩ (DF Tryz.prog TE ⟨n, [], mo⟩ tb) c (ML TE a.results.toList k rcs) (lay (tW 0 A)))(b : sh = true \/ gw rcs := by exact .inr ⟨trivial, trivial⟩)(h : (a.name == "runtime.NumGoroutine") = false := by kernel_rfl)(i : fH (mn tb) c = true := by kernel_rfl)(j : A.length + (a.ntmps - A.length) = n := by rfl) : ao Tryz.prog f sh A k rcs := PQ d h e i j b g
theorem fM(n : Nat){f : Nat}{a : Func}{c : Code}{sh : Bool}{A B : List MA}{k : Kd}{rcs : List C}(mo : List (Nat × List Nat))(tb : List (Nat × Nat × List Nat))(b : List (Nat × Nat))(g : Tryz.prog.funcs[f]? = some a)(h : a.body = some c)(i : ∀(u : Nat -> Nat -> Value)(p : Nat -> Value), aw Tryz.prog TE ⟨n, Gl p 0 A, mo⟩ (DF Tryz.prog TE ⟨n, Gl p 0 A, mo⟩ tb) c (NJ TE a.results.toList k rcs u A B b) (lay (xn u 0 A)))(d : sh = true \/ gw rcs := by exact .inr ⟨trivial, trivial⟩)(j : (a.name == "runtime.NumGoroutine") = false := by kernel_rfl)(l : fH (mn tb) c = true := by kernel_rfl)(o : A.length + (a.ntmps - A.length) = n := by rfl)(e : EE (Dy 0 A b) = true := by rfl) : aQ Tryz.prog f sh A B k rcs := PM b g j h l o e d i
section
variable{α:Type}{l:List α}{p:α->Bool}{i:Nat}{x:α}
theorem cH(h:l[i]? = some x)(a:(l.take i).all p=true)(b:p x=true):(l.take (i+1)).all p=true:=by
 rw[Z4,h,List.all_append,a];simp[b]
theorem ee(h:l[i]? = some x)(a:p x=false):l.all p=false:=by
 rw[List.all_eq_false];exact⟨x,U1 h,by simp[a]⟩
theorem gt(a:l.length<=i)(b:(l.take i).all p=true):l.all p=true:=by
 rwa [C6 a]at b
end
theorem uC{α β:Type}{a:List α}{b:List β}{i:Nat}{x:α}{y:β}(h1:a[i]? = some x)(c:b[i]? = some y):(a.zip b)[i]? = some (x,y):=by
 rw[List.getElem?_zip_eq_some];exact⟨h1,c⟩
def nth{α:Type}[Inhabited α](xs:List α)(i:Nat):α:=xs.getD i default
theorem ah{α:Type}[Inhabited α]{xs:List α}{i:Nat}(h:i<xs.length):xs[i]? = some (nth xs i):=by
 unfold nth;rw[O2,Z1 h];rfl
theorem bu{α:Type}[Inhabited α]{xs:List α}{i:Nat}{y:α}(h:xs[i]? = some y):nth xs i=y:=by
 unfold nth;rw[O2,h];rfl
theorem am{α:Type}[Inhabited α]{xs:List α}{i:Nat}(h:i<xs.length):nth xs i∈xs:=U1 (ah h)
def cK(n:Nat)(p:Nat->Bool):Bool:=(List.range n).all p
theorem ch{n:Nat}{p:Nat->Bool} : cK n p=true↔∀j,j<n->p j=true:=by
 unfold cK;simp
theorem bM{n:Nat}{p:Nat->Bool}(h:cK n p=true)(a:p n=true):cK (n+1) p=true:=by
 rw[ch]at *;grind
theorem cj{n i:Nat}{p:Nat->Bool}(a:i<n)(b:p i=false):cK n p=false:=by
 by_cases h:cK n p=true
 ·rw[ch]at h;grind
 ·simpa using h
theorem dH{n i:Nat}{p:Nat->Bool}(h:cK n p=true)(a:i<n):p i=true:=ch.1 h i a
def iI(u:Bool)(v:Int):Bool:=decide (0<=v/\v<=999)&&(u || decide (v=0))
def gX(r:List Int)(u:Bool):Bool:=decide (r.length=16)&&r.all (iI u)
def df(f:aZ):Bool:=decide (1<=f.Cells.length/\f.Cells.length<=32)&&(decide (f.Used.length=f.Cells.length)&&(f.Cells.zip f.Used).all λq=>gX q.1 q.2)
theorem ib{f:aZ}{i:Nat}{r:List Int}{u:Bool}(h1:f.Cells[i]? = some r)(a:f.Used[i]? = some u)(b:gX r u=false):df f=false:=by
 unfold df;rw[ee (p:=λq=>gX q.1 q.2) (uC h1 a) b];simp
theorem qC{r:List Int}{u:Bool}{k:Nat}{v:Int}(h1:r[k]? = some v)(a:iI u v=false):gX r u=false:=by
 unfold gX;rw[ee h1 a];simp
theorem AN{f:aZ}(h:df f=true):1<=f.Cells.length/\f.Cells.length<=32/\f.Used.length=f.Cells.length:=by
 unfold df at h;simp only[I0,C0]at h;exact⟨h.1.1,h.1.2,h.2.1⟩
def kb(a:Int)(e:bh):Bool:=decide (0<=e.Mode/\e.Mode<=2/\(e.Mode=0->e.Frame=0)/\(e.Mode≠0->0<=e.Frame/\e.Frame<a))
def fL(t:aG)(a:Int):Bool:=cK t.Entries.length (λi=>kb a (nth t.Entries i))&&decide (1<=t.Entries.length/\t.Entries.length<=32)
def Jx(t:aG)(f:Int)(i:Nat):Bool:=decide ((nth t.Entries i).Mode≠0/\(nth t.Entries i).Frame=f)
def jb(t:aG)(f:Int)(n:Nat):List Int:=((List.range n).filter (Jx t f)).map λ(i:Nat)=>(i:Int)
def pagesOn(t:aG)(f:Int):List Int:=jb t f t.Entries.length
theorem yV{t:aG}{f:Int}{n:Nat}(h:Jx t f n=true):jb t f (n+1)=jb t f n++[(n:Int)]:=by
 unfold jb;rw[List.range_succ,List.filter_append,v5];simp[h]
theorem Df{t:aG}{f:Int}{n:Nat}(h:Jx t f n=false):jb t f (n+1)=jb t f n:=by
 unfold jb;rw[List.range_succ,List.filter_append,v5];simp[h]
theorem sD(t:aG)(f:Int)(n:Nat):(jb t f n).length<=n:=by
 unfold jb;rw[X0];exact O4 (List.length_filter_le ..) (by simp)
def ar(t:aG)(p:Int):bh:=if 0<=p/\p<t.Entries.length then nth t.Entries p.toNat else⟨0,0⟩
def ne(m:aS)(i:Nat):Bool:=nth m.Frames.Used i == decide (0<(pagesOn m.Table (i:Int)).length)
def dn(m:aS):Bool:=(df m.Frames&&fL m.Table m.Frames.Used.length)&&cK m.Frames.Used.length (ne m)
def aB(k:af):Bool:=(cK k.Refuse.length (λi=>decide (0<=nth k.Refuse i))&&dn k.Machine)&&decide (0<=k.Calls/\k.Calls<=100000/\k.Refuse.length<=40)
def rangeIn(pages:Int)(r:ay):Bool:=decide (1<=r.Len/\r.Len<=pages/\0<=r.At/\r.At<=pages - r.Len)
def fR(pages:Int)(xs:List ay)(i:Nat):Bool:=rangeIn pages (nth xs i)&&decide (i=0\/(nth xs (i - 1)).At+(nth xs (i - 1)).Len<(nth xs i).At)
def bw(pages:Int)(xs:List ay):Bool:=cK xs.length (fR pages xs)&&decide (1<=pages/\pages<=32)
def pI(page:Int)(r:ay):Bool:=decide (r.At<=page)&&decide (page<IntKind.i64.wrap (r.At+r.Len))
def lim(k:Int):Int:=if k=0 then 65535 else if k=1 then 255 else if k=2 then 15 else if k=3 then 3 else 0
def slots(k:Int):Int:=if k=0 then 16 else if k=1 then 8 else if k=2 then 4 else if k=3 then 2 else 0
def bg(s:au):Bool:=decide (0<=s.Page/\s.Page<=31/\0<=s.Class/\s.Class<=3/\0<=s.Bits/\s.Bits<=lim s.Class)
def eJ(n:Int):Int:=if 9<=n/\n<=1000 then(n+15) / 16 else 0
def bS(l:ax):Bool:=decide (9<=l.Size/\l.Size<=1000/\l.Pages=(l.Size+15) / 16/\0<=l.Page/\l.Page<=32 - l.Pages)
def lpgs(l:ax)(n:Nat):List Int:=(List.range n).map λ(i:Nat)=>l.Page+i
def pgs(sp:List au)(la:List ax):List Int:=sp.map (·.Page)++la.flatMap λl=>lpgs l l.Pages.toNat
def bj(sp:List au)(la:List ax):Bool:=(sp.all bg&&la.all bS)&&decide (pgs sp la).Nodup
def cF(s:au)(a:Int):Bool:=bg s&&decide (16*s.Page<=a/\a<=16*s.Page+15)
def aX(b i:Int):Bool:=decide (0<=b/\0<=i/\i<=15/\b / 2 ^ i.toNat % 2=1)
def b9(l:ax)(a:Int):Bool:=bS l&&decide (16*l.Page<=a/\a<=16*l.Page+l.Size - 1)
def csz(k:Int):Int:=if 0<=k/\k<=3 then 2 ^ k.toNat else 0
def iy(s:au)(a:Int):Int × Int:=if cF s a then((a - 16*s.Page) / csz s.Class,(a - 16*s.Page) % csz s.Class) else(-1,-1)
def ns(i:Nat)(s:au)(a:Int):iM:=⟨if aX s.Bits ((a - 16*s.Page) / csz s.Class) then 1 else 2,i,(a - 16*s.Page) / csz s.Class,(a - 16*s.Page) % csz s.Class⟩
def denotes(sp:List au)(la:List ax)(a:Int):iM:=
 match sp.findIdx? (cF · a) with
 | some i=>ns i (nth sp i) a
 | none=>match la.findIdx? (b9 · a) with
  | some i=>⟨3,i,0,a - 16*(nth la i).Page⟩
  | none=>⟨0,0,0,0⟩
theorem uK{α:Type}{pr:α->Bool}{xs:List α}{i:Nat}{y:α}(a:xs[i]? = some y)(b:pr y=true)(c:∀(j:Nat)(z:α),j<i->xs[j]? = some z->pr z=false):xs.findIdx? pr=some i:=by
 obtain⟨d,rfl⟩:=C2.1 a;exact Z5.2 ⟨d,b,λj e=>by
   have:=c j _ e (Z1 ω);simp[this]⟩
theorem vS{α:Type}{pr:α->Bool}{xs:List α}{i:Nat}(d:xs.length<=i)(b:∀(j:Nat)(z:α),j<i->xs[j]? = some z->pr z=false):xs.findIdx? pr=none:=
 List.findIdx?_eq_none_iff.2 λz c=>by
  obtain⟨j,a⟩:=List.mem_iff_getElem?.1 c;exact b j z (by have:=(C2.1 a).1;omega) a
theorem dl{α:Type}{pr:α->Bool}{xs:List α}{i:Nat}{y:α}(c:xs[i]? = some y)(d:pr y=false)(e:∀(j:Nat)(z:α),j<i->xs[j]? = some z->pr z=false):∀(j:Nat)(z:α),j<i+1->xs[j]? = some z->pr z=false:=by
 intro j z f a;rcases Nat.lt_or_ge j i with b|b
 ·exact e j z b a
 ·obtain rfl:j=i:=ω
  rw[c]at a;cases a;exact d
def de{α:Type}(pr:α->Bool)(xs:List α):Int:=match xs.findIdx? pr with|some i=>(i:Nat)|none=>-1
theorem dM{α:Type}{pr:α->Bool}{xs:List α}{i:Nat}{y:α}(a:xs[i]? = some y)(b:pr y=true)(c:∀(j:Nat)(z:α),j<i->xs[j]? = some z->pr z=false):de pr xs=(i:Nat):=by
 unfold de;rw[uK a b c]
theorem fX{α:Type}{pr:α->Bool}{xs:List α}{i:Nat}(a:xs.length<=i)(b:∀(j:Nat)(z:α),j<i->xs[j]? = some z->pr z=false):de pr xs = -1:=by
 unfold de;rw[vS a b]
theorem lD{α:Type}(pr:α->Bool)(xs:List α):decide (de pr xs≥0)=xs.any pr:=by
 unfold de;cases h:xs.findIdx? pr with
 | none=>
  have:=List.findIdx?_eq_none_iff.1 h;have a:xs.any pr=false:=by rw[List.any_eq_false];intro y b;simp[this y b]
  rw[a];rfl
 | some i=>
  obtain⟨c,d,-⟩:=Z5.1 h;have a:xs.any pr=true:=U3.2 ⟨_,List.getElem_mem c,d⟩;rw[a];simp
def meshable(s t:au):Bool:=(bg s&&bg t)&&decide (s.Class=t.Class/\s.Page≠t.Page/\s.Bits.toNat &&& t.Bits.toNat=0)
def ml(n:Int)(p:cZ):Bool:=decide (0<=p.To/\p.To<=n - 1/\0<=p.Addr)
def MM(z:Int):Bool:=decide (0<=z)
def gq(m:aI)(i:Nat):Bool:=(nth m.Buffers i).all (ml m.Buffers.length)&&(nth m.Inbox i).all MM
def br(m:aI):Nat->Int
 | 0=>0
 | i+1=>br m i+((nth m.Buffers i).length+(nth m.Inbox i).length)
def bI(m:aI):Bool:=(decide (1<=m.Buffers.length/\m.Buffers.length<=4/\m.Inbox.length=m.Buffers.length)&&cK m.Buffers.length (gq m))&&decide (br m m.Buffers.length<=30)
def aN(m:aI):List Int:=if bI m then(m.Buffers.flatMap λl=>l.map (·.Addr))++m.Inbox.flatten else []
def d5(a:Int)(y:aL):Bool:=decide (y.Addr=a)
def jL(xs:List aL)(i:Nat):Bool:=decide (0<=(nth xs i).Class/\(nth xs i).Class<=3/\0<=(nth xs i).Addr/\0<=(nth xs i).Since/\(i=0\/(nth xs (i - 1)).Since<=(nth xs i).Since))&&!(xs.take i).any (d5 (nth xs i).Addr)
def quarCells(xs:List aL):Nat->Int
 | 0=>0
 | i+1=>quarCells xs i+csz (nth xs i).Class
def fw(q:bz):Bool:=cK q.Lst.length (jL q.Lst)&&decide (0<=q.Room/\q.Room<=500/\quarCells q.Lst q.Lst.length<=q.Room)
def mJ(xs:List Int)(i:Nat):Bool:=decide (0<=nth xs i/\nth xs i<=15/\(i=0\/nth xs (i - 1)<nth xs i))
def eG(p:co):Bool:=cK p.Cells.length (mJ p.Cells)&&decide (0<=p.Keep/\p.Keep<=31/\0<=p.Move/\p.Move<=31/\p.Keep≠p.Move)
def ja(j:cn):Bool:=eG j.Plan&&decide (0<=j.Phase/\j.Phase<=5/\0<=j.Next/\j.Next<=j.Plan.Cells.length)
def qA(j:cn):Bool:=decide (j.Plan.Keep=0/\j.Plan.Move=0/\j.Plan.Cells.length=0/\j.Phase=0/\j.Next=0)
def aT(h:ab)(p:Int):List Int:=if(ar h.Kernel.Machine.Table p).Mode=0 then [] else pagesOn h.Kernel.Machine.Table (ar h.Kernel.Machine.Table p).Frame
def jq(p:Int)(s:au):Bool:=decide (s.Page=p)
def fV(h:ab)(p:Int):Int:=de (jq p) h.Spans
def aM(n:Int):Int:=if n<1 then -1 else if n<=1 then 0 else if n<=2 then 1 else if n<=4 then 2 else if n<=8 then 3 else -1
set_option maxRecDepth 20000
set_option maxHeartbeats 2000000
theorem aE(n lo a:Int):ao Tryz.prog 152 false [.val none [I n],.val none [I lo],.val none [I a]] .one [B (decide (lo<=n/\n<=a))]:=by
 refine fO 15 [] Tryz.func152 rfl ?_
 repeat'(first|refine gO ?_|(conv=>whnf);first|with_reducible refine Bf.D (λb=>?_) (λb=>?_))
 all_goals exact U0 (λz=>[B z]) (by simp;try omega)
theorem aO(n lo a:Int):ao Tryz.prog 76 false [.val none [I n],.val none [I lo],.val none [I a]] .one [B (decide (lo<=n/\n<=a))]:=by
 refine fO 15 [] Tryz.func76 rfl ?_
 repeat'(first|refine gO ?_|(conv=>whnf);first|with_reducible refine Bf.D (λb=>?_) (λb=>?_))
 all_goals exact U0 (λz=>[B z]) (by simp;try omega)
theorem eC(k:Int):ao Tryz.prog 167 false [.val none [I k]] .one [B (decide (0<=k/\k<=3))]:=by
 refine fO 5 [] Tryz.func167 rfl ?_
 repeat'(first|refine gO ?_|(conv=>whnf);first|refine C7 (aO k 0 3) ?_)
 rfl
theorem dP(k:Int):ao Tryz.prog 89 false [.val none [I k]] .one [I (csz k)]:=by
 by_cases b:0<=k/\k<=3
 ·obtain rfl|rfl|rfl|rfl:k=0\/k=1\/k=2\/k=3:=ω
  all_goals
   refine fO 8 [] Tryz.func89 rfl ?_
   repeat'(first|refine gD ?_|(conv=>whnf);first|with_reducible refine Bf.D (λa=>?_) (λa=>?_)|refine C7 (eC _) ?_|refine CL (by decide) ?_|refine CJ rfl ?_)
   exact U0 (λz=>[I z]) (by decide)
 ·refine fO 8 [] Tryz.func89 rfl ?_
  repeat'(first|refine gD ?_|(conv=>whnf);first|with_reducible refine Bf.D (λa=>?_) (λa=>?_)|refine C7 (eC _) ?_)
  exact U0 (λz=>[I z]) (by unfold csz;rw[C8 b])
theorem d6(k:Int):ao Tryz.prog 274 false [.val none [I k]] .one [I (csz k)]:=by
 by_cases b:0<=k/\k<=3
 ·obtain rfl|rfl|rfl|rfl:k=0\/k=1\/k=2\/k=3:=ω
  all_goals
   refine fO 9 [] Tryz.func274 rfl ?_
   repeat'(first|refine gD ?_|(conv=>whnf);first|with_reducible refine Bf.D (λa=>?_) (λa=>?_)|refine C7 (aE _ 0 3) ?_|refine CL (by decide) ?_|refine CJ rfl ?_)
   exact U0 (λz=>[I z]) (by decide)
 ·refine fO 9 [] Tryz.func274 rfl ?_
  repeat'(first|refine gD ?_|(conv=>whnf);first|with_reducible refine Bf.D (λa=>?_) (λa=>?_)|refine C7 (aE _ 0 3) ?_)
  exact U0 (λz=>[I z]) (by unfold csz;rw[C8 b])
theorem lw(xs:List Int)(a:Int)(j:xs.length<=9223372036854775807):ao Tryz.prog 268 false [.val none (aD .imm xs),.val none [I a]] .one [B (decide (a∈xs))]:=by
 refine fO 18 [] Tryz.func268 rfl ?_
 repeat'(first|refine gO ?_|fail)
 (conv=>whnf)
 refine CE (ι:=Nat) (λi=>[(0,.hold .one (aD .imm xs)),(1,.hold .one [I a]),(5,.hold .one [I (i:Nat)])]) (λi=>i<=xs.length/\a∉xs.take i) (λi=>xs.length - i) 0 ?_ ⟨T0 _,by simp⟩ λi g=>?_
 ·exact wB
 ·obtain⟨g,b⟩:=g
  by_cases c:i<xs.length
  ·obtain⟨y,d⟩ : ∃y,xs[i]? = some y:=⟨_,Z1 c⟩
   repeat'(first|refine gD ?_|(conv=>whnf);first|with_reducible (first|refine CB (aa d) ?_|refine Bf.E (λh=>?_) (λh=>?_)))
   ·exact U0 (λz=>[B z]) (by symm;simp;rw[<-‹y=a›];exact U1 d)
   ·(conv=>whnf)
    refine CC (i+1) ⟨ω,?_⟩ ω ?_
    ·rw[Z4,d]
     simp only[Option.toList_some,W2,C1,not_or];exact⟨b,λe=>‹y≠a› e.symm⟩
    ·exact wB
  ·repeat'(first|refine gD ?_|fail)
   rw[C6 ω]at b;exact U0 (λz=>[B z]) (by symm;simpa using b)
set_option maxHeartbeats 4000000
def good(k:Int)(s:List Int)(a:Int):Prop:=0<=a/\a<=511/\a.tmod (csz k)=0/\a∉s
instance (k:Int) (s:List Int) (a:Int):Decidable (good k s a):=by unfold good;exact inferInstance
def qp(k:Int):List Int->List Int->Option (List Int)
 | s,[]=>some s
 | s,a::l=>if good k s a then qp k (s++[a]) l else none
def ef(k:Nat)(s l:List Int):Option (List Int):=if l.length<=8/\k<=3 then qp k s l else none
def fU:Nat->List Int->List (List Int)->Option (List Int)
 | _,s,[]=>some s
 | k,s,l::ls=>(ef k s l).bind λa=>fU (k+1) a ls
def bo(c:aA):Bool:=decide (c.Lists.length=4)&&(fU 0 [] c.Lists).isSome
theorem pM(k:Int):∀(a s b:List Int),qp k s (a++b)=(qp k s a).bind λc=>qp k c b
 | [],s,b=>rfl
 | x::a,s,b=>by
  simp only[List.cons_append,qp];split
  ·exact pM k a _ b
  ·rfl
theorem od:∀(a:List (List Int))(k:Nat)(s:List Int)(b:List (List Int)),fU k s (a++b)=(fU k s a).bind λc=>fU (k+a.length) c b
 | [],k,s,b=>rfl
 | l::a,k,s,b=>by
  simp only[List.cons_append,fU,Option.bind_assoc,List.length_cons]
  congr 1;funext c
  rw[od a (k+1) c b,show k+1+a.length=k+(a.length+1) by omega]
theorem GE{k:Int}{l b s:List Int}{j:Nat}{a:Int}(c:l[j]? = some a)(h:qp k b (l.take j)=some s)(d:good k s a):qp k b (l.take (j+1))=some (s++[a]):=by
 rw[Z4,c,Option.toList_some,pM,h];simp[qp,d]
theorem J7{k:Nat}{l c s:List Int}{j:Nat}{a:Int}(d:l[j]? = some a)(h:qp k c (l.take j)=some s)(e:¬good k s a):ef k c l=none:=by
 unfold ef;split
 ·have:l=l.take j++(a::l.drop (j+1)):=by
   obtain⟨b,rfl⟩:=C2.1 d;rw[<-List.drop_eq_getElem_cons b,List.take_append_drop]
  rw[this,pM,h];simp[qp,e]
 ·rfl
theorem zt{k:Int} : ∀{l s b:List Int},qp k s l=some b->b.length=s.length+l.length
 | [],s,b,h=>by simp only[qp,W0]at h;subst h;simp
 | a::l,s,b,h=>by
  simp only[qp]at h;split at h
  ·have:=zt h;simp at this |-;omega
  ·cases h
theorem sj{a:List (List Int)}{i:Nat}{l s:List Int}(b:a[i]? = some l)(h:fU 0 [] (a.take i)=some s):fU 0 [] (a.take (i+1))=ef i s l:=by
 have c:=(C2.1 b).1;rw[Z4,b,Option.toList_some,od,h];simp only[Option.bind_some,fU,Y5,O1,Nat.min_eq_left (Nat.le_of_lt c)];cases ef i s l<;>rfl
theorem jV{c:aA}{i:Nat}{l s:List Int}(b:c.Lists[i]? = some l)(h:fU 0 [] (c.Lists.take i)=some s)(d:ef i s l=none):bo c=false:=by
 have a:=sj b h;rw[d]at a;have e:fU 0 [] c.Lists=none:=by
  rw[<-List.take_append_drop (i+1) c.Lists,od,a];rfl
 unfold bo;rw[e];simp
theorem Dc:∀{b:List (List Int)}{k:Nat}{s a:List Int},fU k s b=some a->a.length<=s.length+8*b.length
 | [],k,s,a,h=>by simp only[fU,W0]at h;subst h;simp
 | l::b,k,s,a,h=>by
  simp only[fU]at h;unfold ef at h;split at h
  ·cases c:qp k s l with
   | none=>rw[c]at h;cases h
   | some d=>
    rw[c]at h;have e:=zt c;have f:=Dc (show fU (k+1) d b=some a from h);simp only[List.length_cons];omega
  ·cases h
theorem KV{i:Nat}(h:i<=3):csz (i:Int)≠0:=by
 obtain rfl|rfl|rfl|rfl:i=0\/i=1\/i=2\/i=3:=ω
 all_goals decide
theorem bV{l:List Int} : ∀r∈l.map (rI .own),r.length=1:=by
 intro r a;obtain⟨z,-,rfl⟩:=Z3.1 a;rfl
theorem mu(c:aA)(u:aA.sml c):ao Tryz.prog 208 false [.val (some 1) (aA.enc .imm c)] .one [B (bo c)]:=by
 have H:=u.1;refine fO 60 [] Tryz.func208 rfl ?_
 repeat'(first|refine gO ?_|(conv=>whnf);first|with_reducible refine Bf.N (λe=>?_) (λe=>?_))
 ·exact U0 (λz=>[B z]) (by symm;unfold bo;rw[R0 ω];rfl)
 have w:c.Lists.length=4:=ω
 (conv=>whnf)
 refine CE (ι:=Nat × List Int) (λi=>[(1,.hold .box (aA.enc .imm c)),(3,.hold .one (aD .own i.2)),(4,.hold .one [I (i.1:Nat)])]) (λi=>i.1<=4/\fU 0 [] (c.Lists.take i.1)=some i.2) (λi=>4 - i.1) (0,[]) ?_ ⟨T0 _,rfl⟩ λi k=>?_
 ·exact wB
 ·obtain⟨i,s⟩:=i
  obtain⟨k,b⟩:=k;simp only at k b |-;have g:=Dc b;rw[O1]at g;simp only[List.length_nil]at g;by_cases E:i<4
  ·obtain⟨l,d⟩ : ∃l,c.Lists[i]? = some l:=⟨_,Z1 ω⟩
   have F:l.length<=1048576:=u.2 l (U1 d)
   repeat'(first|refine gD ?_|(conv=>whnf);first|with_reducible (first|refine CB (aa d) ?_|refine Bf.D (λe=>?_) (λe=>?_)))
   ·exact U0 (λz=>[B z]) (jV d b (by unfold ef;rw[C8 ω])).symm
   have n:l.length<=8:=ω
   (conv=>whnf)
   refine CE (ι:=Nat × List Int) (λj=>[(1,.hold .box (aA.enc .imm c)),(3,.hold .one (aD .own j.2)),(4,.hold .one [I (i:Nat)]),(5,.hold .one [I (j.1:Nat)])]) (λj=>j.1<=l.length/\qp i s (l.take j.1)=some j.2) (λj=>l.length - j.1) (0,s) ?_ ⟨T0 _,rfl⟩ λj o=>?_
   ·exact wB
   ·obtain⟨j,p⟩:=j
    obtain⟨o,a⟩:=o;simp only at o a |-;have h:=zt a;rw[O1]at h;by_cases q:j<l.length
    ·obtain⟨y,t⟩ : ∃y,l[j]? = some y:=⟨_,Z1 q⟩
     repeat'(first|refine gD ?_|(conv=>whnf);first|with_reducible (first|refine CB (aa d) ?_|refine CB (aa t) ?_|refine Bf.D (λe=>?_) (λe=>?_)|refine Bf.N (λe=>?_) (λe=>?_))|refine C7 (aE y 0 511) ?_|refine C7 (d6 (i:Nat)) ?_|refine CL (KV ω) ?_|refine CR rfl ?_|refine CD (lw p y ω) ⟨⟨rfl,eB _⟩,⟨rfl,rfl⟩,trivial⟩ ?_|refine CP bV (λr G=>by rw[C1.1 G];rfl) (by simp[aV,dz]) (by simp;omega) (by simp only[X0];exact wi (by simp;omega) (by decide)) rfl ?_)
     all_goals first
      | exact U0 (λz=>[B z]) (jV d b (J7 t a λ⟨J,K,L,M⟩=>by first|contradiction|omega)).symm
      | ((conv=>whnf)
         refine CC (j+1,p++[y]) ⟨(by simp only;omega),GE t a ⟨ω,ω,(by assumption),(by assumption)⟩⟩ (by simp only;omega) ?_
         (repeat'(first|exact trivial|rfl|exact CI rfl (CI (U0 (C.s du.own) (by simp[rI])) trivial)|refine CI ?_ ?_)))
    ·repeat'(first|refine gD ?_|(conv=>whnf);first|with_reducible refine CB (aa d) ?_)
     (conv=>whnf)
     rw[C6 ω]at a;refine CC (i+1,p) ⟨(by simp only;omega),(by rw[sj d b];unfold ef;rw[C9 ⟨n,ω⟩];exact a)⟩ (by simp only;omega) ?_;exact wB
  ·repeat'(first|refine gD ?_|fail)
   rw[C6 ω]at b;exact U0 (λz=>[B z]) (by symm;unfold bo;rw[b,O0 w];rfl)
def eU(s:List Int):List (Int × Value):=s.map λa=>(a,.bool true)
theorem mf(a:Int):∀(s:List Int),mlook (eU s) a (.bool false)=.bool (decide (a∈s))
 | []=>by simp[eU,mlook]
 | x::s=>by
  have b:=mf a s;simp only[eU,C5,mlook]at b |-;by_cases h:x=a
  ·rw[C9 h];simp[h]
  ·rw[C8 h,b]
   congr 1
   simp[show ¬a=x from λe=>h e.symm]
theorem sG{a:Int} : ∀{s:List Int},a∉s->eU (s++[a])=mput (eU s) a (.bool true)
 | [],_=>rfl
 | x::s,h=>by
  simp only[List.mem_cons,not_or]at h;have b:=sG h.2;simp only[eU,List.cons_append,C5,mput]at b |-;rw[C8 λe=>h.1 e.symm,b]
theorem m0(c:aA)(u:aA.sml c):ao Tryz.prog 72 false [.val (some 1) (aA.enc .imm c)] .one [B (bo c)]:=by
 have C:=u.1;refine fO 54 [] Tryz.func72 rfl ?_
 repeat'(first|refine gO ?_|fail)
 (conv=>whnf)
 refine CE (ι:=Nat × List Int) (λi=>[(1,.hold .box (aA.enc .imm c)),(3,.hold .one [.m (eU i.2)]),(10,.hold .one (iR .imm c.Lists)),(11,.hold .one [I c.Lists.length]),(12,.hold .one [I (i.1:Nat)])]) (λi=>i.1<=c.Lists.length/\fU 0 [] (c.Lists.take i.1)=some i.2) (λi=>c.Lists.length - i.1) (0,[]) ?_ ⟨T0 _,rfl⟩ λi h=>?_
 ·exact wB
 ·obtain⟨i,s⟩:=i
  obtain⟨h,b⟩:=h;simp only at h b |-;by_cases k:i<c.Lists.length
  ·obtain⟨l,d⟩ : ∃l,c.Lists[i]? = some l:=⟨_,Z1 k⟩
   have w:l.length<=1048576:=u.2 l (U1 d)
   repeat'(first|refine gD ?_|(conv=>whnf);first|with_reducible (first|refine CB (aa d) ?_|refine Bf.D (λe=>?_) (λe=>?_))|refine C7 (eC (i:Nat)) ?_)
   ·exact U0 (λz=>[B z]) (jV d b (by unfold ef;rw[C8 ω])).symm
   rotate_left
   ·exact U0 (λz=>[B z]) (jV d b (by unfold ef;rw[C8 ω])).symm
   have n:l.length<=8:=ω
   have o:i<=3:=ω
   (conv=>whnf)
   refine CE (ι:=Nat × List Int) (λj=>[(1,.hold .box (aA.enc .imm c)),(3,.hold .one [.m (eU j.2)]),(4,.hold .one [I (i:Nat)]),(10,.hold .one (iR .imm c.Lists)),(11,.hold .one [I c.Lists.length]),(12,.hold .one [I (i:Nat)]),(25,.hold .one (aD .imm l)),(26,.hold .one [I l.length]),(27,.hold .one [I (j.1:Nat)])]) (λj=>j.1<=l.length/\qp i s (l.take j.1)=some j.2) (λj=>l.length - j.1) (0,s) ?_ ⟨T0 _,rfl⟩ λj p=>?_
   ·exact wB
   ·obtain⟨j,q⟩:=j
    obtain⟨p,a⟩:=p;simp only at p a |-;by_cases r:j<l.length
    ·obtain⟨y,t⟩ : ∃y,l[j]? = some y:=⟨_,Z1 r⟩
     repeat'(first|refine gD ?_|(conv=>whnf);first|with_reducible (first|refine CB (aa d) ?_|refine CB (aa t) ?_|refine Bf.D (λe=>?_) (λe=>?_)|refine Bf.N (λe=>?_) (λe=>?_))|refine C7 (aO y 0 511) ?_|refine C7 (dP (i:Nat)) ?_|refine CL (KV ω) ?_|refine CR rfl ?_|refine Ml.mk (mf y q) ?_|refine Mu.mk (sG (by assumption)) ?_)
     all_goals first
      | exact U0 (λz=>[B z]) (jV d b (J7 t a λ⟨E,F,G,H⟩=>by first|contradiction|omega)).symm
      | ((conv=>whnf)
         refine CC (j+1,q++[y]) ⟨(by simp only;omega),GE t a ⟨ω,ω,(by assumption),(by assumption)⟩⟩ (by simp only;omega) ?_
         (exact wA))
    ·repeat'(first|refine gD ?_|fail)
     (conv=>whnf)
     rw[C6 ω]at a;refine CC (i+1,q) ⟨(by simp only;omega),(by rw[sj d b];unfold ef;rw[C9 ⟨n,o⟩];exact a)⟩ (by simp only;omega) ?_;exact wB
  ·repeat'(first|refine gD ?_|fail)
   rw[C6 ω]at b;have g:((c.Lists.length:Int) == 4)=decide (c.Lists.length=4):=by
    by_cases g:c.Lists.length=4
    ·simp[g]
    ·rw[R0 g];simp;omega
   exact U0 (λz=>[B z]) (g.trans (by unfold bo;rw[b];simp))
theorem GA:∀{b:List (List Int)}{k:Nat}{s c:List Int},fU k s b=some c->∀l∈b,l.length<=8
 | [],k,s,c,h,l,a=>by simp at a
 | x::b,k,s,c,h,l,a=>by
  simp only[fU]at h;unfold ef at h;split at h
  ·rename_i e
   rcases List.mem_cons.1 a with rfl|a
   ·exact e.1
   ·cases d:qp k s x with
    | none=>rw[d]at h;cases h
    | some f=>rw[d]at h;exact GA (show fU (k+1) f b=some c from h) l a
  ·cases h
theorem tQ{c:aA}(h:bo c=true):c.Lists.length=4/\∀l∈c.Lists,l.length<=8:=by
 unfold bo at h;simp only[I0,C0]at h;obtain⟨s,a⟩:=Option.isSome_iff_exists.1 h.2;exact⟨h.1,GA a⟩
theorem xP(f:aZ)(n:aZ.sml f):ao Tryz.prog 63 false [.val (some 2) (aZ.enc .imm f)] .one [B (df f)]:=by
 have C:=n.1.1;have E:f.Used.length<=1048576:=n.2;refine fO 61 [] Tryz.func63 rfl ?_
 repeat'(first|refine gO ?_|(conv=>whnf);first|with_reducible (first|refine Bf.D (λa=>?_) (λa=>?_)|refine Bf.N (λa=>?_) (λa=>?_))|refine C7 (aE f.Cells.length 1 32) ?_)
 ·exact U0 (λz=>[B z]) (by symm;unfold df;rw[R0 (by omega:¬(f.Used.length=f.Cells.length))];simp)
 rotate_left
 ·exact U0 (λz=>[B z]) (by symm;unfold df;rw[R0 (by omega:¬(1<=f.Cells.length/\f.Cells.length<=32))];rfl)
 have h:1<=f.Cells.length/\f.Cells.length<=32:=ω
 have j:f.Used.length=f.Cells.length:=ω
 (conv=>whnf)
 refine CE (ι:=Nat) (λi=>[(1,.hold .box (aZ.enc .imm f)),(3,.hold .one [I (i:Nat)])]) (λi=>i<=f.Cells.length/\((f.Cells.zip f.Used).take i).all (λq=>gX q.1 q.2)=true) (λi=>f.Cells.length - i) 0 ?_ ⟨T0 _,rfl⟩ λi o=>?_
 ·exact wB
 ·obtain⟨o,t⟩:=o
  by_cases l:i<f.Cells.length
  ·obtain⟨r,c⟩ : ∃r,f.Cells[i]? = some r:=⟨_,Z1 l⟩
   obtain⟨u,b⟩ : ∃u,f.Used[i]? = some u:=⟨_,Z1 ω⟩
   repeat'(first|refine gD ?_|(conv=>whnf);first|with_reducible (first|refine CB (aa c) ?_|refine Bf.N (λa=>?_) (λa=>?_)))
   ·exact U0 (λz=>[B z]) (ib c b (by unfold gX;rw[R0 ω];rfl)).symm
   have g:r.length=16:=ω
   (conv=>whnf)
   refine CE (ι:=Nat) (λk=>[(1,.hold .box (aZ.enc .imm f)),(3,.hold .one [I (i:Nat)]),(4,.hold .one [I (k:Nat)])]) (λk=>k<=16/\(r.take k).all (iI u)=true) (λk=>16 - k) 0 ?_ ⟨T0 _,rfl⟩ λk w=>?_
   ·exact wB
   ·obtain⟨w,d⟩:=w
    by_cases y:k<16
    ·obtain⟨v,e⟩ : ∃v,r[k]? = some v:=⟨_,Z1 ω⟩
     cases u with
     | true=>
      repeat'(first|refine gD ?_|(conv=>whnf);first|with_reducible (first|refine CB (aa c) ?_|refine CB (aa b) ?_|refine CB (aa e) ?_|refine Bf.D (λa=>?_) (λa=>?_)|refine Bf.N (λa=>?_) (λa=>?_))|refine C7 (aE v 0 999) ?_)
      all_goals first
       | exact U0 (λz=>[B z]) (ib c b (qC e (by first|(unfold iI;rw[R0 ω];rfl)|(unfold iI;rw[R0 (p:=v=0) ω];simp)))).symm
       | ((conv=>whnf)
          refine CC (ι:=Nat) (k+1) ⟨ω,cH e d (by unfold iI;first|(rw[O0 ω];rfl)|(rw[O0 (p:=0<=v/\v<=999) ω,O0 (p:=v=0) ω];rfl))⟩ ω ?_
          (exact wA))
     | false=>
      repeat'(first|refine gD ?_|(conv=>whnf);first|with_reducible (first|refine CB (aa c) ?_|refine CB (aa b) ?_|refine CB (aa e) ?_|refine Bf.D (λa=>?_) (λa=>?_)|refine Bf.N (λa=>?_) (λa=>?_))|refine C7 (aE v 0 999) ?_)
      all_goals first
       | exact U0 (λz=>[B z]) (ib c b (qC e (by first|(unfold iI;rw[R0 ω];rfl)|(unfold iI;rw[R0 (p:=v=0) ω];simp)))).symm
       | ((conv=>whnf)
          refine CC (ι:=Nat) (k+1) ⟨ω,cH e d (by unfold iI;first|(rw[O0 ω];rfl)|(rw[O0 (p:=0<=v/\v<=999) ω,O0 (p:=v=0) ω];rfl))⟩ ω ?_
          (exact wA))
    ·repeat'(first|refine gD ?_|fail)
     (conv=>whnf)
     refine CC (i+1) ⟨ω,cH (uC c b) t (by unfold gX;rw[gt ω d];simp[g])⟩ ω ?_;exact wB
  ·repeat'(first|refine gD ?_|fail)
   exact U0 (λz=>[B z]) (by symm;unfold df;rw[gt (by rw[List.length_zip];omega) t];simp[h,j])
theorem xU(f:aZ)(h:aZ.sml f):ao Tryz.prog 153 false [.val (some 2) (aZ.enc .imm f)] .one [B (df f)]:=by
 have C:=h.1.1;have E:f.Used.length<=1048576:=h.2;refine fO 55 [] Tryz.func153 rfl ?_
 repeat'(first|refine gO ?_|(conv=>whnf);first|with_reducible (first|refine Bf.D (λa=>?_) (λa=>?_)|refine Bf.N (λa=>?_) (λa=>?_))|refine C7 (aO f.Cells.length 1 32) ?_)
 ·exact U0 (λz=>[B z]) (by symm;unfold df;rw[R0 (by omega:¬(f.Used.length=f.Cells.length))];simp)
 rotate_left
 ·exact U0 (λz=>[B z]) (by symm;unfold df;rw[R0 (by omega:¬(1<=f.Cells.length/\f.Cells.length<=32))];rfl)
 have j:1<=f.Cells.length/\f.Cells.length<=32:=ω
 have l:f.Used.length=f.Cells.length:=ω
 (conv=>whnf)
 refine CE (ι:=Nat) (λi=>[(1,.hold .box (aZ.enc .imm f)),(22,.hold .one (iR .imm f.Cells)),(23,.hold .one [I (f.Cells.length)]),(24,.hold .one [I ((i:Nat):Int)])]) (λi=>i<=f.Cells.length/\((f.Cells.zip f.Used).take i).all (λq=>gX q.1 q.2)=true) (λi=>f.Cells.length - i) (0) ?_ (⟨T0 _,rfl⟩) λi o=>?_
 ·exact wB
 obtain⟨o,p⟩:=o;by_cases n:i<f.Cells.length
 ·obtain⟨r,c⟩ : ∃r,f.Cells[i]? = some r:=⟨_,Z1 n⟩
  obtain⟨u,b⟩ : ∃u,f.Used[i]? = some u:=⟨_,Z1 ω⟩
  have y:r.length<=1048576:=h.1.2 r (U1 c)
  repeat'(first|refine gD ?_|(conv=>whnf);first|with_reducible (first|refine CB (aa c) ?_|refine Bf.N (λa=>?_) (λa=>?_)))
  ·exact U0 (λz=>[B z]) (ib c b (by unfold gX;rw[R0 ω];rfl)).symm
  have g:r.length=16:=ω
  (conv=>whnf)
  refine CE (ι:=Nat) (λk=>[(1,.hold .box (aZ.enc .imm f)),(3,.hold .one [I ((i:Nat):Int)]),(22,.hold .one (iR .imm f.Cells)),(23,.hold .one [I (f.Cells.length)]),(24,.hold .one [I ((i:Nat):Int)]),(32,.hold .one (aD .imm r)),(33,.hold .one [I (r.length)]),(34,.hold .one [I ((k:Nat):Int)])]) (λk=>k<=r.length/\(r.take k).all (iI u)=true) (λk=>r.length - k) (0) ?_ (⟨T0 _,rfl⟩) λk t=>?_
  ·exact wB
  obtain⟨t,d⟩:=t;by_cases w:k<r.length
  ·obtain⟨v,e⟩ : ∃v,r[k]? = some v:=⟨_,Z1 ω⟩
   cases u with
   | true=>
    repeat'(first|refine gD ?_|(conv=>whnf);first|with_reducible (first|refine CB (aa c) ?_|refine CB (aa b) ?_|refine CB (aa e) ?_|refine Bf.D (λa=>?_) (λa=>?_)|refine Bf.N (λa=>?_) (λa=>?_))|refine C7 (aO v 0 999) ?_)
    all_goals first
     | exact U0 (λz=>[B z]) (ib c b (qC e (by unfold iI;grind))).symm
     | ((conv=>whnf)
        refine CC (ι:=Nat) (k+1) ⟨ω,cH e d (by unfold iI;grind)⟩ ω ?_
        (exact wA))
   | false=>
    repeat'(first|refine gD ?_|(conv=>whnf);first|with_reducible (first|refine CB (aa c) ?_|refine CB (aa b) ?_|refine CB (aa e) ?_|refine Bf.D (λa=>?_) (λa=>?_)|refine Bf.N (λa=>?_) (λa=>?_))|refine C7 (aO v 0 999) ?_)
    all_goals first
     | exact U0 (λz=>[B z]) (ib c b (qC e (by unfold iI;grind))).symm
     | ((conv=>whnf)
        refine CC (ι:=Nat) (k+1) ⟨ω,cH e d (by unfold iI;grind)⟩ ω ?_
        (exact wA))
  ·repeat'(first|refine gD ?_|fail)
   (conv=>whnf)
   refine CC (i+1) ⟨ω,cH (uC c b) p (by unfold gX;rw[gt ω d];simp[g])⟩ ω ?_;exact wB
 ·repeat'(first|refine gD ?_|fail)
  exact U0 (λz=>[B z]) (by symm;unfold df;rw[gt (by rw[List.length_zip];omega) p];simp[j,l])
theorem AX(t:aG)(b:Int)(g:aG.sml t):ao Tryz.prog 327 false [.val (some 1) (aG.enc .imm t),.val none [I b]] .one [B (fL t b)]:=by
 have k:=g.1;refine fO 54 [] Tryz.func327 rfl ?_
 repeat'(first|refine gO ?_|fail)
 (conv=>whnf)
 refine CE (ι:=Nat) (λi=>[(1,.hold .one [I (b)]),(2,.hold .box (aG.enc .imm t)),(5,.hold .one [I ((i:Nat):Int)])]) (λi=>i<=t.Entries.length/\cK i (λj=>kb b (nth t.Entries j))=true) (λi=>t.Entries.length - i) 0 ?_ ⟨T0 _,rfl⟩ λi c=>?_
 ·exact wB
 obtain⟨c,d⟩:=c;by_cases e:i<t.Entries.length
 ·have h:=ah e
  repeat'(first|refine gD ?_|(conv=>whnf);first|with_reducible (first|refine CB (aa h) ?_|refine Bf.D (λa=>?_) (λa=>?_)|refine Bf.N (λa=>?_) (λa=>?_)|refine Bf.E (λa=>?_) (λa=>?_))|refine C7 (aE _ 0 2) ?_)
  all_goals first
   | exact U0 (λz=>[B z]) ((by symm;unfold fL;rw[cj e (R0 (by grind))];rfl))
   | ((conv=>whnf);refine CC (i+1) ⟨ω,bM d (O0 (by grind))⟩ ω ?_;(exact wB))
 ·repeat'(first|refine gD ?_|(conv=>whnf);first|refine C7 (aE _ 1 32) ?_)
  obtain rfl:i=t.Entries.length:=ω
  exact U0 (λz=>[B z]) ((by unfold fL;rw[d,Bool.true_and];exact decide_eq_decide.2 ω))
theorem Ae(t:aG)(b:Int)(g:aG.sml t):ao Tryz.prog 236 false [.val (some 1) (aG.enc .imm t),.val none [I b]] .one [B (fL t b)]:=by
 have k:=g.1;refine fO 49 [] Tryz.func236 rfl ?_
 repeat'(first|refine gO ?_|fail)
 (conv=>whnf)
 refine CE (ι:=Nat) (λi=>[(1,.hold .one [I (b)]),(2,.hold .box (aG.enc .imm t)),(8,.hold .one (BA .imm t.Entries)),(9,.hold .one [I (t.Entries.length)]),(10,.hold .one [I ((i:Nat):Int)])]) (λi=>i<=t.Entries.length/\cK i (λj=>kb b (nth t.Entries j))=true) (λi=>t.Entries.length - i) 0 ?_ ⟨T0 _,rfl⟩ λi c=>?_
 ·exact wB
 obtain⟨c,d⟩:=c;by_cases e:i<t.Entries.length
 ·have h:=ah e
  repeat'(first|refine gD ?_|(conv=>whnf);first|with_reducible (first|refine CB (aa h) ?_|refine Bf.D (λa=>?_) (λa=>?_)|refine Bf.N (λa=>?_) (λa=>?_)|refine Bf.E (λa=>?_) (λa=>?_))|refine C7 (aO _ 0 2) ?_)
  all_goals first
   | exact U0 (λz=>[B z]) ((by symm;unfold fL;rw[cj e (R0 (by grind))];rfl))
   | ((conv=>whnf);refine CC (i+1) ⟨ω,bM d (O0 (by grind))⟩ ω ?_;(exact wB))
 ·repeat'(first|refine gD ?_|(conv=>whnf);first|refine C7 (aO _ 1 32) ?_)
  obtain rfl:i=t.Entries.length:=ω
  exact U0 (λz=>[B z]) ((by unfold fL;rw[d,Bool.true_and];exact decide_eq_decide.2 ω))
theorem gl(t:aG)(f:Int)(c:aG.sml t):ao Tryz.prog 111 false [.val (some 1) (aG.enc .imm t),.val none [I f]] .one (aD .own (pagesOn t f)):=by
 have j:=c.1;refine fO 37 [] Tryz.func111 rfl ?_ (.inr (bG _))
 repeat'(first|refine gO ?_|fail)
 (conv=>whnf)
 refine CE (ι:=Nat) (λi=>[(1,.hold .one [I (f)]),(2,.hold .box (aG.enc .imm t)),(5,.hold .one (aD .own (jb t f i))),(6,.hold .one [I ((i:Nat):Int)])]) (λi=>i<=t.Entries.length) (λi=>t.Entries.length - i) (0) ?_ (T0 _) λi k=>?_
 ·exact wB
 have d:=sD t f i;by_cases e:i<t.Entries.length
 ·have g:=ah e
  repeat'(first|refine gD ?_|(conv=>whnf);first|with_reducible (first|refine CB (aa g) ?_|refine Bf.D (λb=>?_) (λb=>?_)|refine Bf.N (λb=>?_) (λb=>?_)|refine Bf.E (λb=>?_) (λb=>?_))|refine CP bV (λr h=>by rw[C1.1 h];rfl) (by simp[aV,dz]) (by simp;omega) (by simp only[X0];exact wi (by simp;omega) (by decide)) rfl ?_)
  all_goals first
   |(have a:Jx t f i=true:=O0 (by grind)
     (conv=>whnf)
     refine CC (i+1) ω ω ?_;rw[yV a]
     (repeat'(first|exact trivial|rfl|exact CI rfl (CI (U0 (C.s du.own) (by simp[rI])) trivial)|refine CI ?_ ?_)))
   |(have a:Jx t f i=false:=R0 (by grind)
     (conv=>whnf)
     refine CC (i+1) ω ω ?_;rw[Df a]
     (exact wA))
 ·repeat'(first|refine gD ?_|fail)
  obtain rfl:i=t.Entries.length:=ω
  rfl
theorem jM(t:aG)(f:Int)(c:aG.sml t):ao Tryz.prog 98 false [.val (some 1) (aG.enc .imm t),.val none [I f]] .one (aD .own (pagesOn t f)):=by
 have j:=c.1;refine fO 32 [] Tryz.func98 rfl ?_ (.inr (bG _))
 repeat'(first|refine gO ?_|fail)
 (conv=>whnf)
 refine CE (ι:=Nat) (λi=>[(1,.hold .one [I (f)]),(5,.hold .one (aD .own (jb t f i))),(10,.hold .one (BA .imm t.Entries)),(11,.hold .one [I (t.Entries.length)]),(12,.hold .one [I ((i:Nat):Int)])]) (λi=>i<=t.Entries.length) (λi=>t.Entries.length - i) (0) ?_ (T0 _) λi k=>?_
 ·exact wB
 have d:=sD t f i;by_cases e:i<t.Entries.length
 ·have g:=ah e
  repeat'(first|refine gD ?_|(conv=>whnf);first|with_reducible (first|refine CB (aa g) ?_|refine Bf.D (λb=>?_) (λb=>?_)|refine Bf.N (λb=>?_) (λb=>?_)|refine Bf.E (λb=>?_) (λb=>?_))|refine CP bV (λr h=>by rw[C1.1 h];rfl) (by simp[aV,dz]) (by simp;omega) (by simp only[X0];exact wi (by simp;omega) (by decide)) rfl ?_)
  all_goals first
   |(have a:Jx t f i=true:=O0 (by grind)
     (conv=>whnf)
     refine CC (i+1) ω ω ?_;rw[yV a]
     (repeat'(first|exact trivial|rfl|exact CI rfl (CI (U0 (C.s du.own) (by simp[rI])) trivial)|refine CI ?_ ?_)))
   |(have a:Jx t f i=false:=R0 (by grind)
     (conv=>whnf)
     refine CC (i+1) ω ω ?_;rw[Df a]
     (exact wA))
 ·repeat'(first|refine gD ?_|fail)
  obtain rfl:i=t.Entries.length:=ω
  rfl
theorem cT(t:aG)(p:Int)(b:aG.sml t):ao Tryz.prog 110 false [.val (some 1) (aG.enc .imm t),.val none [I p]] .agg (bh.enc .own (ar t p)):=by
 have d:=b.1;refine fO 18 [] Tryz.func110 rfl ?_ (.inr (bh.enc_fr _));by_cases a:0<=p/\p<t.Entries.length
 ·have c:=ah (xs:=t.Entries) (i:=p.toNat) ω
  repeat'(first|refine gD ?_|(conv=>whnf);first|refine C7 (aE _ 0 _) ?_|refine CK a.1 (aa c) ?_)
  all_goals(unfold ar;rw[C9 a];rfl)
 ·repeat'(first|refine gD ?_|(conv=>whnf);first|refine C7 (aE _ 0 _) ?_)
  all_goals(unfold ar;rw[C8 a];rfl)
theorem gi(t:aG)(p:Int)(b:aG.sml t):ao Tryz.prog 97 false [.val (some 1) (aG.enc .imm t),.val none [I p]] .agg (bh.enc .own (ar t p)):=by
 have d:=b.1;refine fO 18 [] Tryz.func97 rfl ?_ (.inr (bh.enc_fr _));by_cases a:0<=p/\p<t.Entries.length
 ·have c:=ah (xs:=t.Entries) (i:=p.toNat) ω
  repeat'(first|refine gD ?_|(conv=>whnf);first|refine C7 (aO _ 0 _) ?_|refine CK a.1 (aa c) ?_)
  all_goals(unfold ar;rw[C9 a];rfl)
 ·repeat'(first|refine gD ?_|(conv=>whnf);first|refine C7 (aO _ 0 _) ?_)
  all_goals(unfold ar;rw[C8 a];rfl)
theorem pY(t:aG)(f:Int):(pagesOn t f).length<=t.Entries.length:=sD ..
theorem oh(m:aS)(b:aS.sml m):ao Tryz.prog 266 false [.val (some 3) (aS.enc .imm m)] .one [B (dn m)]:=by
 have q:m.Frames.Used.length<=1048576:=b.1.2;have l:m.Frames.Cells.length<=1048576:=b.1.1.1;have c:=xP m.Frames b.1;have e:=AX m.Table m.Frames.Cells.length b.2;cases a:df m.Frames with
 | false=>
  rw[a]at c;refine fO 39 [(6,13,[26,27,28,29,30,31,32,33,34,35,36,37,38])] Tryz.func266 rfl ?_
  repeat'(first|refine gO ?_|(conv=>whnf);first|refine C7 c ?_)
  exact U0 (λz=>[B z]) ((by unfold dn;rw[a];rfl))
 | true=>
  have g:=AN a;rw[a]at c;cases d:fL m.Table m.Frames.Used.length with
  | false=>
   rw[show(m.Frames.Cells.length:Int)=m.Frames.Used.length by omega,d]at e;refine fO 39 [(6,13,[26,27,28,29,30,31,32,33,34,35,36,37,38])] Tryz.func266 rfl ?_
   repeat'(first|refine gO ?_|(conv=>whnf);first|refine C7 c ?_|refine C7 ((show(m.Frames.Cells.length:Int)=m.Frames.Used.length by omega) ▸ e) ?_)
   exact U0 (λz=>[B z]) ((by unfold dn;rw[a,d];rfl))
  | true=>
   rw[show(m.Frames.Cells.length:Int)=m.Frames.Used.length by omega,d]at e;refine fO 39 [(6,13,[26,27,28,29,30,31,32,33,34,35,36,37,38])] Tryz.func266 rfl ?_
   repeat'(first|refine gO ?_|(conv=>whnf);first|refine C7 c ?_|refine C7 ((show(m.Frames.Cells.length:Int)=m.Frames.Used.length by omega) ▸ e) ?_)
   (conv=>whnf)
   refine CE (ι:=Nat) (λi=>[(1,.hold .box (aS.enc .imm m)),(3,.hold .one [I ((i:Nat):Int)])]) (λi=>i<=m.Frames.Used.length/\cK i (ne m)=true) (λi=>m.Frames.Used.length - i) 0 ?_ ⟨T0 _,rfl⟩ λi h=>?_
   ·exact wB
   obtain⟨h,j⟩:=h;by_cases k:i<m.Frames.Used.length
   ·have n:=ah k
    have o:=pY m.Table (i:Nat)
    repeat'(first|refine gD ?_|(conv=>whnf);first|with_reducible (first|refine CB (aa n) ?_|refine Bf.NB (λp=>?_) (λp=>?_))|refine C7 (gl m.Table (i:Nat) b.2) ?_)
    all_goals first
     | exact U0 (λz=>[B z]) ((by symm;unfold dn;rw[a,d,cj k (by unfold ne;grind)];rfl))
     | ((conv=>whnf);refine CC (i+1) ⟨ω,bM j (by unfold ne;grind)⟩ ω ?_;(exact wB))
   ·repeat'(first|refine gD ?_|fail)
    obtain rfl:i=m.Frames.Used.length:=ω
    exact U0 (λz=>[B z]) ((by unfold dn;rw[a,d,j];rfl))
theorem vR(m:aS)(d:aS.sml m):ao Tryz.prog 144 false [.val (some 3) (aS.enc .imm m)] .one [B (dn m)]:=by
 have o:m.Frames.Used.length<=1048576:=d.1.2;have b:=xU m.Frames d.1;have e:=Ae m.Table m.Frames.Used.length d.2;cases a:df m.Frames with
 | false=>
  rw[a]at b;refine fO 37 [] Tryz.func144 rfl ?_
  repeat'(first|refine gO ?_|(conv=>whnf);first|refine C7 b ?_)
  exact U0 (λz=>[B z]) ((by unfold dn;rw[a];rfl))
 | true=>
  rw[a]at b;cases c:fL m.Table m.Frames.Used.length with
  | false=>
   rw[c]at e;refine fO 37 [] Tryz.func144 rfl ?_
   repeat'(first|refine gO ?_|(conv=>whnf);first|refine C7 b ?_|refine C7 e ?_)
   exact U0 (λz=>[B z]) ((by unfold dn;rw[a,c];rfl))
  | true=>
   rw[c]at e;refine fO 37 [] Tryz.func144 rfl ?_
   repeat'(first|refine gO ?_|(conv=>whnf);first|refine C7 b ?_|refine C7 e ?_)
   (conv=>whnf)
   refine CE (ι:=Nat) (λi=>[(1,.hold .box (aS.enc .imm m)),(21,.hold .one (Ar .imm m.Frames.Used)),(22,.hold .one [I (m.Frames.Used.length)]),(23,.hold .one [I ((i:Nat):Int)])]) (λi=>i<=m.Frames.Used.length/\cK i (ne m)=true) (λi=>m.Frames.Used.length - i) 0 ?_ ⟨T0 _,rfl⟩ λi g=>?_
   ·exact wB
   obtain⟨g,h⟩:=g;by_cases j:i<m.Frames.Used.length
   ·have k:=ah j
    have l:=pY m.Table (i:Nat)
    repeat'(first|refine gD ?_|(conv=>whnf);first|with_reducible (first|refine CB (aa k) ?_|refine Bf.NB (λn=>?_) (λn=>?_))|refine C7 (jM m.Table (i:Nat) d.2) ?_)
    all_goals first
     | exact U0 (λz=>[B z]) ((by symm;unfold dn;rw[a,c,cj j (by unfold ne;grind)];rfl))
     | ((conv=>whnf);refine CC (i+1) ⟨ω,bM h (by unfold ne;grind)⟩ ω ?_;(exact wB))
   ·repeat'(first|refine gD ?_|fail)
    obtain rfl:i=m.Frames.Used.length:=ω
    exact U0 (λz=>[B z]) ((by unfold dn;rw[a,c,h];rfl))
theorem kZ(k:af)(d:af.sml k):ao Tryz.prog 201 false [.val (some 5) (af.enc .imm k)] .one [B (aB k)]:=by
 have n:k.Refuse.length<=1048576:=d.2;have a:=oh k.Machine d.1;refine fO 31 [] Tryz.func201 rfl ?_
 repeat'(first|refine gO ?_|fail)
 (conv=>whnf)
 refine CE (ι:=Nat) (λi=>[(1,.hold .box (af.enc .imm k)),(3,.hold .one [I ((i:Nat):Int)])]) (λi=>i<=k.Refuse.length/\cK i (λj=>decide (0<=nth k.Refuse j))=true) (λi=>k.Refuse.length - i) 0 ?_ ⟨T0 _,rfl⟩ λi e=>?_
 ·exact wB
 obtain⟨e,g⟩:=e;by_cases h:i<k.Refuse.length
 ·have l:=ah h
  repeat'(first|refine gD ?_|(conv=>whnf);first|with_reducible (first|refine CB (aa l) ?_|refine Bf.D (λc=>?_) (λc=>?_)))
  all_goals first
   | exact U0 (λz=>[B z]) ((by symm;unfold aB;rw[cj h (R0 ω)];rfl))
   | ((conv=>whnf);refine CC (i+1) ⟨ω,bM g (O0 ω)⟩ ω ?_;(exact wB))
 ·obtain rfl:i=k.Refuse.length:=ω
  cases b:dn k.Machine with
  | false=>
   rw[b]at a
   repeat'(first|refine gD ?_|(conv=>whnf);first|refine C7 a ?_)
   all_goals exact U0 (λz=>[B z]) ((by unfold aB;rw[b];simp))
  | true=>
   rw[b]at a
   repeat'(first|refine gD ?_|(conv=>whnf);first|with_reducible refine Bf.D (λc=>?_) (λc=>?_)|refine C7 a ?_|refine C7 (aE _ 0 100000) ?_)
   all_goals exact U0 (λz=>[B z]) ((by unfold aB;rw[b,g];simp only[Bool.true_and];first|exact decide_eq_decide.2 ω|(symm;exact R0 ω)|(symm;exact O0 ω)))
theorem pk(k:af)(b:af.sml k):ao Tryz.prog 57 false [.val (some 5) (af.enc .imm k)] .one [B (aB k)]:=by
 have l:k.Refuse.length<=1048576:=b.2;have g:=vR k.Machine b.1;refine fO 29 [] Tryz.func57 rfl ?_
 repeat'(first|refine gO ?_|fail)
 (conv=>whnf)
 refine CE (ι:=Nat) (λi=>[(1,.hold .box (af.enc .imm k)),(6,.hold .one (aD .imm k.Refuse)),(7,.hold .one [I (k.Refuse.length)]),(8,.hold .one [I ((i:Nat):Int)])]) (λi=>i<=k.Refuse.length/\cK i (λj=>decide (0<=nth k.Refuse j))=true) (λi=>k.Refuse.length - i) 0 ?_ ⟨T0 _,rfl⟩ λi c=>?_
 ·exact wB
 obtain⟨c,d⟩:=c;by_cases e:i<k.Refuse.length
 ·have h:=ah e
  repeat'(first|refine gD ?_|(conv=>whnf);first|with_reducible (first|refine CB (aa h) ?_|refine Bf.D (λa=>?_) (λa=>?_)))
  all_goals first
   | exact U0 (λz=>[B z]) ((by symm;unfold aB;rw[cj e (R0 ω)];rfl))
   | ((conv=>whnf);refine CC (i+1) ⟨ω,bM d (O0 ω)⟩ ω ?_;(exact wB))
 ·obtain rfl:i=k.Refuse.length:=ω
  repeat'(first|refine gD ?_|(conv=>whnf);first|with_reducible refine Bf.D (λa=>?_) (λa=>?_)|refine C7 g ?_|refine C7 (aO _ 0 100000) ?_)
  all_goals exact U0 (λz=>[B z]) ((by unfold aB;rw[d];cases dn k.Machine<;>simp only[Bool.true_and,Bool.false_and]<;>first|rfl|exact decide_eq_decide.2 ω|(symm;exact R0 ω)|(symm;exact O0 ω)))
theorem wZ(pages:Int)(r:ay)(b:0<=pages/\pages<=1048576):ao Tryz.prog 267 false [.val none [I pages],.val (some 2) (ay.enc .imm r)] .one [B (rangeIn pages r)]:=by
 refine fO 18 [] Tryz.func267 rfl ?_
 repeat'(first|refine gO ?_|(conv=>whnf);first|with_reducible refine Bf.D (λa=>?_) (λa=>?_)|refine C7 (aE _ 1 _) ?_|refine C7 (aE _ 0 _) ?_)
 all_goals exact U0 (λz=>[B z]) ((by unfold rangeIn;first|(symm;exact R0 ω)|exact decide_eq_decide.2 ω))
theorem vo(pages:Int)(r:ay)(b:0<=pages/\pages<=1048576):ao Tryz.prog 159 false [.val none [I pages],.val (some 2) (ay.enc .imm r)] .one [B (rangeIn pages r)]:=by
 refine fO 18 [] Tryz.func159 rfl ?_
 repeat'(first|refine gO ?_|(conv=>whnf);first|with_reducible refine Bf.D (λa=>?_) (λa=>?_)|refine C7 (aO _ 1 _) ?_|refine C7 (aO _ 0 _) ?_)
 all_goals exact U0 (λz=>[B z]) ((by unfold rangeIn;first|(symm;exact R0 ω)|exact decide_eq_decide.2 ω))
theorem mg(k:Int):ao Tryz.prog 194 false [.val none [I k]] .one [I (slots k)]:=by
 by_cases b:0<=k/\k<=3
 ·obtain rfl|rfl|rfl|rfl:k=0\/k=1\/k=2\/k=3:=ω
  all_goals
   refine fO 9 [] Tryz.func194 rfl ?_
   repeat'(first|refine gD ?_|(conv=>whnf);first|with_reducible refine Bf.D (λa=>?_) (λa=>?_)|refine C7 (aE _ 0 3) ?_|refine CL (by decide) ?_|refine CJ rfl ?_|refine CR rfl ?_)
   exact U0 (λz=>[I z]) (by decide)
 ·refine fO 9 [] Tryz.func194 rfl ?_
  repeat'(first|refine gD ?_|(conv=>whnf);first|with_reducible refine Bf.D (λa=>?_) (λa=>?_)|refine C7 (aE _ 0 3) ?_)
  exact U0 (λz=>[I z]) (by unfold slots;rw[C8 ω,C8 ω,C8 ω,C8 ω])
theorem iq(k:Int):ao Tryz.prog 172 false [.val none [I k]] .one [I (slots k)]:=by
 by_cases b:0<=k/\k<=3
 ·obtain rfl|rfl|rfl|rfl:k=0\/k=1\/k=2\/k=3:=ω
  all_goals
   refine fO 9 [] Tryz.func172 rfl ?_
   repeat'(first|refine gD ?_|(conv=>whnf);first|with_reducible refine Bf.D (λa=>?_) (λa=>?_)|refine C7 (eC _) ?_|refine C7 (dP _) ?_|refine CL (by decide) ?_|refine CJ rfl ?_|refine CR rfl ?_)
   exact U0 (λz=>[I z]) (by decide)
 ·refine fO 9 [] Tryz.func172 rfl ?_
  repeat'(first|refine gD ?_|(conv=>whnf);first|with_reducible refine Bf.D (λa=>?_) (λa=>?_)|refine C7 (eC _) ?_)
  exact U0 (λz=>[I z]) (by unfold slots;rw[C8 ω,C8 ω,C8 ω,C8 ω])
def L1(k b:Int):Bool:=decide (0<=k/\k<=3/\0<=b/\b<=lim k)
theorem pz(k b:Int):ao Tryz.prog 193 false [.val none [I (slots k)],.val none [I b]] .one [B (L1 k b)]:=by
 by_cases d:0<=k/\k<=3
 ·obtain rfl|rfl|rfl|rfl:k=0\/k=1\/k=2\/k=3:=ω
  all_goals
   first|rw[show slots 0=16 from rfl]|rw[show slots 1=8 from rfl]|rw[show slots 2=4 from rfl]|rw[show slots 3=2 from rfl]
   refine fO 15 [] Tryz.func193 rfl ?_
   repeat'(first|refine gD ?_|(conv=>whnf);first|with_reducible refine Bf.D (λa=>?_) (λa=>?_)|refine C7 (aE _ 1 16) ?_|refine C7 (aE _ 0 _) ?_|refine CL (by decide) ?_|refine CJ (show _=(65536:Int) by decide) ?_|refine CJ (show _=(65535:Int) by decide) ?_|refine CJ (show _=(256:Int) by decide) ?_|refine CJ (show _=(255:Int) by decide) ?_|refine CJ (show _=(16:Int) by decide) ?_|refine CJ (show _=(15:Int) by decide) ?_|refine CJ (show _=(4:Int) by decide) ?_|refine CJ (show _=(8:Int) by decide) ?_|refine CJ (show _=(2:Int) by decide) ?_|refine CJ (show _=(3:Int) by decide) ?_)
   all_goals exact U0 (λz=>[B z]) ((decide_eq_decide.2 (by simp[lim])))
 ·have c:slots k=0:=by unfold slots;rw[C8 ω,C8 ω,C8 ω,C8 ω]
  rw[c];refine fO 15 [] Tryz.func193 rfl ?_
  repeat'(first|refine gD ?_|(conv=>whnf);first|with_reducible refine Bf.D (λa=>?_) (λa=>?_)|refine C7 (aE _ 1 16) ?_)
  exact U0 (λz=>[B z]) ((by symm;exact R0 ω))
theorem xR(k b:Int):ao Tryz.prog 244 false [.val none [I (slots k)],.val none [I b]] .one [B (L1 k b)]:=by
 by_cases d:0<=k/\k<=3
 ·obtain rfl|rfl|rfl|rfl:k=0\/k=1\/k=2\/k=3:=ω
  all_goals
   first|rw[show slots 0=16 from rfl]|rw[show slots 1=8 from rfl]|rw[show slots 2=4 from rfl]|rw[show slots 3=2 from rfl]
   refine fO 14 [] Tryz.func244 rfl ?_
   repeat'(first|refine gD ?_|(conv=>whnf);first|with_reducible refine Bf.D (λa=>?_) (λa=>?_)|refine C7 (aO _ 1 16) ?_|refine C7 (aO _ 0 _) ?_|refine CL (by decide) ?_|refine CJ (fg (by decide) (by decide)) ?_)
   all_goals exact U0 (λz=>[B z]) ((decide_eq_decide.2 (by simp[lim,IntKind.bits])))
 ·have c:slots k=0:=by unfold slots;rw[C8 ω,C8 ω,C8 ω,C8 ω]
  rw[c];refine fO 14 [] Tryz.func244 rfl ?_
  repeat'(first|refine gD ?_|(conv=>whnf);first|with_reducible refine Bf.D (λa=>?_) (λa=>?_)|refine C7 (aO _ 1 16) ?_)
  exact U0 (λz=>[B z]) ((by symm;exact R0 ω))
theorem gc(s:au):ao Tryz.prog 113 false [.val (some 3) (au.enc .imm s)] .one [B (bg s)]:=by
 refine fO 14 [(1,12,[3,4,5,6,7,8,9,10,11,12,13,2])] Tryz.func113 rfl ?_
 repeat'(first|refine gO ?_|(conv=>whnf);first|with_reducible refine Bf.D (λa=>?_) (λa=>?_)|refine C7 (aE _ 0 31) ?_|refine C7 (mg _) ?_|refine C7 (pz _ _) ?_)
 all_goals exact U0 (λz=>[B z]) ((by unfold bg;first|(symm;exact R0 ω)|exact decide_eq_decide.2 ω))
theorem ic(s:au):ao Tryz.prog 161 false [.val (some 3) (au.enc .imm s)] .one [B (bg s)]:=by
 refine fO 19 [(1,17,[3,4,5,6,7,8,9,10,11,12,13,14,15,16,17,18,2])] Tryz.func161 rfl ?_
 repeat'(first|refine gO ?_|(conv=>whnf);first|with_reducible refine Bf.D (λa=>?_) (λa=>?_)|refine C7 (aO _ 0 31) ?_|refine C7 (eC _) ?_|refine C7 (iq _) ?_|refine C7 (xR _ _) ?_)
 all_goals exact U0 (λz=>[B z]) ((by unfold bg;first|(symm;exact R0 ω)|exact decide_eq_decide.2 ω))
section
variable{α:Type}{xs:List α}{p:α->Bool}{i:Nat}{y:α}
theorem AS(h:xs[i]? = some y)(a:p y=true):xs.any p=true:=U3.2 ⟨y,U1 h,a⟩
theorem wK(h:xs[i]? = some y)(a:(xs.take i).any p=false)(b:p y=false):(xs.take (i+1)).any p=false:=by
 rw[Z4,h,List.any_append,a];simp[b]
theorem Gv(a:xs.length<=i)(b:(xs.take i).any p=false):xs.any p=false:=by
 rwa [C6 a]at b
theorem fT[Inhabited α](a:0<i)(b:i<xs.length):xs[((i:Int) - 1).toNat]? = some (nth xs (i - 1)):=by
 rw[show((i:Int) - 1).toNat=i - 1 by omega];exact ah ω
end
theorem vW{pages:Int}{xs:List ay}{i n:Nat}(a:cK n (fR pages xs)=true)(b:i<n):1<=(nth xs i).Len/\(nth xs i).Len<=pages/\0<=(nth xs i).At/\(nth xs i).At<=pages - (nth xs i).Len:=by
 have:=dH a b;unfold fR rangeIn at this;simp only[I0,C0]at this;exact this.1
theorem kY(pages:Int)(xs:List ay)(e:0<=pages/\pages<=1048576)(k:fW xs):ao Tryz.prog 202 false [.val none [I pages],.val none (b8 .imm xs)] .one [B (bw pages xs)]:=by
 have n:=k.1;refine fO 46 [(4,32,[12,13,14,15,16,17,18,19,20,21,22,23,24,25,26,27,28,29,30,31,32,33,34,35,36,37,38,39,40,41,42,43])] Tryz.func202 rfl ?_
 repeat'(first|refine gO ?_|fail)
 (conv=>whnf)
 refine CE (ι:=Nat) (λi=>[(0,.hold .one [I (pages)]),(1,.hold .one (b8 .imm xs)),(5,.hold .one [I ((i:Nat):Int)])]) (λi=>i<=xs.length/\cK i (fR pages xs)=true) (λi=>xs.length - i) 0 ?_ ⟨T0 _,rfl⟩ λi g=>?_
 ·exact wB
 obtain⟨g,d⟩:=g;by_cases c:i<xs.length
 ·have j:=ah c
  have o:0<i->1<=(nth xs (i - 1)).Len/\(nth xs (i - 1)).Len<=pages/\0<=(nth xs (i - 1)).At/\(nth xs (i - 1)).At<=pages - (nth xs (i - 1)).Len:=λh=>vW d ω
  cases a:rangeIn pages (nth xs i) with
  | false=>
   have b:=wZ pages (nth xs i) e;rw[a]at b
   repeat'(first|refine gD ?_|(conv=>whnf);first|with_reducible refine CB (aa j) ?_|refine C7 b ?_)
   exact U0 (λz=>[B z]) ((by symm;unfold bw;rw[cj c (by unfold fR;rw[a];rfl)];rfl))
  | true=>
   have b:=wZ pages (nth xs i) e;rw[a]at b
   repeat'(first|refine gD ?_|(conv=>whnf);first|with_reducible (first|refine CB (aa j) ?_|refine Bf.D (λl=>?_) (λl=>?_))|refine C7 b ?_|refine CK ω (aa (fT ω c)) ?_)
   all_goals first
    | exact U0 (λz=>[B z]) ((by symm;unfold bw;rw[cj c (by unfold fR;rw[a,R0 ω];rfl)];rfl))
    | ((conv=>whnf);refine CC (i+1) ⟨ω,bM d (by unfold fR;rw[a,O0 ω];rfl)⟩ ω ?_;(exact wB))
 ·repeat'(first|refine gD ?_|(conv=>whnf);first|refine C7 (aE pages 1 32) ?_)
  obtain rfl:i=xs.length:=ω
  exact U0 (λz=>[B z]) ((by unfold bw;rw[d];rfl))
theorem p6(pages:Int)(xs:List ay)(j:0<=pages/\pages<=1048576)(k:fW xs):ao Tryz.prog 67 false [.val none [I pages],.val none (b8 .imm xs)] .one [B (bw pages xs)]:=by
 have n:=k.1;refine fO 43 [(4,26,[14,15,16,17,18,19,20,21,22,23,24,25,26,27,28,29,30,31,32,33,34,35,36,37,38,39])] Tryz.func67 rfl ?_
 repeat'(first|refine gO ?_|fail)
 (conv=>whnf)
 refine CE (ι:=Nat) (λi=>[(0,.hold .one [I (pages)]),(1,.hold .one (b8 .imm xs)),(7,.hold .one (b8 .imm xs)),(8,.hold .one [I (xs.length)]),(9,.hold .one [I ((i:Nat):Int)])]) (λi=>i<=xs.length/\cK i (fR pages xs)=true) (λi=>xs.length - i) 0 ?_ ⟨T0 _,rfl⟩ λi e=>?_
 ·exact wB
 obtain⟨e,d⟩:=e;by_cases b:i<xs.length
 ·have g:=ah b
  have o:0<i->1<=(nth xs (i - 1)).Len/\(nth xs (i - 1)).Len<=pages/\0<=(nth xs (i - 1)).At/\(nth xs (i - 1)).At<=pages - (nth xs (i - 1)).Len:=λh=>vW d ω
  have c:=vo pages (nth xs i) j;cases a:rangeIn pages (nth xs i) with
  | false=>
   rw[a]at c
   repeat'(first|refine gD ?_|(conv=>whnf);first|with_reducible refine CB (aa g) ?_|refine C7 c ?_)
   exact U0 (λz=>[B z]) ((by symm;unfold bw;rw[cj b (by unfold fR;rw[a];rfl)];rfl))
  | true=>
   rw[a]at c
   repeat'(first|refine gD ?_|(conv=>whnf);first|with_reducible (first|refine CB (aa g) ?_|refine Bf.D (λl=>?_) (λl=>?_))|refine C7 c ?_|refine CK ω (aa (fT ω b)) ?_)
   all_goals first
    | exact U0 (λz=>[B z]) ((by symm;unfold bw;rw[cj b (by unfold fR;rw[a,R0 ω];rfl)];rfl))
    | ((conv=>whnf);refine CC (i+1) ⟨ω,bM d (by unfold fR;rw[a,O0 ω];rfl)⟩ ω ?_;(exact wB))
 ·repeat'(first|refine gD ?_|(conv=>whnf);first|refine C7 (aO pages 1 32) ?_)
  obtain rfl:i=xs.length:=ω
  exact U0 (λz=>[B z]) ((by unfold bw;rw[d];rfl))
theorem xN(xs:List ay)(page:Int)(g:xs.length<=9223372036854775807):ao Tryz.prog 270 false [.val none (b8 .imm xs),.val none [I page]] .one [B (xs.any (pI page))]:=by
 refine fO 34 [(4,22,[12,13,14,15,16,17,18,19,20,21,22,23,24,25,26,27,28,29,30,31,32,33])] Tryz.func270 rfl ?_
 repeat'(first|refine gO ?_|fail)
 (conv=>whnf)
 refine CE (ι:=Nat) (λi=>[(0,.hold .one (b8 .imm xs)),(1,.hold .one [I (page)]),(5,.hold .one [I ((i:Nat):Int)])]) (λi=>i<=xs.length/\(xs.take i).any (pI page)=false) (λi=>xs.length - i) (0) ?_ (⟨T0 _,rfl⟩) λi b=>?_
 ·exact wB
 obtain⟨b,c⟩:=b;by_cases d:i<xs.length
 ·have a:=ah d
  repeat'(first|refine gD ?_|(conv=>whnf);first|with_reducible (first|refine CB (aa a) ?_|refine Bf.D (λe=>?_) (λe=>?_))|refine CJ rfl ?_)
  all_goals first
   | exact U0 (λz=>[B z]) ((AS a (by unfold pI;rw[O0 (by assumption),O0 (by assumption)];rfl)).symm)
   | ((conv=>whnf);refine CC (i+1) ⟨ω,wK a c (by unfold pI;first|(rw[R0 (by assumption:¬(nth xs i).At<=page)];rfl)|(rw[R0 (by assumption:¬page<_)];simp))⟩ ω ?_;(exact wB))
 ·repeat'(first|refine gD ?_|fail)
  exact U0 (λz=>[B z]) ((Gv ω c).symm)
theorem tdiv16{z:Int}(h:0<=z):z.tdiv 16=z / 16:=Int.tdiv_eq_ediv_of_nonneg h
theorem kS(z:Int):ao Tryz.prog 293 false [.val none [I z]] .one [I (eJ z)]:=by
 refine fO 10 [] Tryz.func293 rfl ?_;by_cases b:9<=z/\z<=1000
 ·repeat'(first|refine gD ?_|(conv=>whnf);first|with_reducible refine Bf.D (λa=>?_) (λa=>?_)|refine C7 (aE z 9 1000) ?_|refine CL (by decide) ?_|refine CJ ((U0 _ (tdiv16 ω)).trans (fg ω ω)) ?_)
  all_goals exact U0 (λz=>[I z]) (by unfold eJ;rw[C9 b];omega)
 ·repeat'(first|refine gD ?_|(conv=>whnf);first|with_reducible refine Bf.D (λa=>?_) (λa=>?_)|refine C7 (aE z 9 1000) ?_)
  all_goals exact U0 (λz=>[I z]) (by unfold eJ;rw[C8 b])
theorem x4(z:Int):ao Tryz.prog 217 false [.val none [I z]] .one [I (eJ z)]:=by
 refine fO 10 [] Tryz.func217 rfl ?_;by_cases b:9<=z/\z<=1000
 ·repeat'(first|refine gD ?_|(conv=>whnf);first|with_reducible refine Bf.D (λa=>?_) (λa=>?_)|refine C7 (aO z 9 1000) ?_|refine CL (by decide) ?_|refine CJ ((U0 _ (tdiv16 ω)).trans (fg ω ω)) ?_)
  all_goals exact U0 (λz=>[I z]) (by unfold eJ;rw[C9 b];omega)
 ·repeat'(first|refine gD ?_|(conv=>whnf);first|with_reducible refine Bf.D (λa=>?_) (λa=>?_)|refine C7 (aO z 9 1000) ?_)
  all_goals exact U0 (λz=>[I z]) (by unfold eJ;rw[C8 b])
theorem lT(l:ax):ao Tryz.prog 269 false [.val (some 3) (ax.enc .imm l)] .one [B (bS l)]:=by
 have b:=kS l.Size;by_cases c:9<=l.Size/\l.Size<=1000
 ·rw[show eJ l.Size=(l.Size+15) / 16 from C9 c]at b
  refine fO 22 [] Tryz.func269 rfl ?_
  repeat'(first|refine gO ?_|(conv=>whnf);first|with_reducible (first|refine Bf.D (λa=>?_) (λa=>?_)|refine Bf.E (λa=>?_) (λa=>?_))|refine C7 b ?_|refine C7 (aE _ 0 _) ?_)
  all_goals exact U0 (λz=>[B z]) ((by unfold bS;first|(symm;exact R0 ω)|exact decide_eq_decide.2 ω))
 ·rw[show eJ l.Size=0 from C8 c]at b
  refine fO 22 [] Tryz.func269 rfl ?_
  repeat'(first|refine gD ?_|(conv=>whnf);first|with_reducible refine Bf.D (λa=>?_) (λa=>?_)|refine C7 b ?_)
  all_goals exact U0 (λz=>[B z]) ((by unfold bS;symm;exact R0 ω))
theorem rc(l:ax):ao Tryz.prog 162 false [.val (some 3) (ax.enc .imm l)] .one [B (bS l)]:=by
 have b:=x4 l.Size;by_cases c:9<=l.Size/\l.Size<=1000
 ·rw[show eJ l.Size=(l.Size+15) / 16 from C9 c]at b
  refine fO 22 [(1,20,[3,4,5,6,7,8,9,10,11,12,13,14,15,16,17,18,19,20,21,2])] Tryz.func162 rfl ?_
  repeat'(first|refine gD ?_|(conv=>whnf);first|with_reducible (first|refine Bf.D (λa=>?_) (λa=>?_)|refine Bf.E (λa=>?_) (λa=>?_))|refine C7 b ?_|refine C7 (aO _ 9 1000) ?_|refine C7 (aO _ 0 _) ?_)
  all_goals exact U0 (λz=>[B z]) ((by unfold bS;first|(symm;exact R0 ω)|exact decide_eq_decide.2 ω))
 ·refine fO 22 [(1,20,[3,4,5,6,7,8,9,10,11,12,13,14,15,16,17,18,19,20,21,2])] Tryz.func162 rfl ?_
  repeat'(first|refine gD ?_|(conv=>whnf);first|with_reducible refine Bf.D (λa=>?_) (λa=>?_)|refine C7 (aO _ 9 1000) ?_)
  all_goals exact U0 (λz=>[B z]) ((by unfold bS;symm;exact R0 ω))
theorem ma{z:Int}(h:0<=z/\z<=9223372036854775807):(BitVec.ofInt IntKind.i64.bits z).toNat=z.toNat:=by
 show(BitVec.ofInt 64 z).toNat=z.toNat;rw[BitVec.toNat_ofInt]
 congr 1
 exact Int.emod_eq_of_lt h.1 (by show z<((2 ^ 64:Nat):Int);have:=h.2;norm_cast;omega)
theorem and64{z1 z2:Int}(h1:0<=z1/\z1<=9223372036854775807)(a:0<=z2/\z2<=9223372036854775807):IntKind.i64.wrap ((BitVec.ofInt IntKind.i64.bits z1 &&& BitVec.ofInt IntKind.i64.bits z2).toNat:Nat)=((z1.toNat &&& z2.toNat:Nat):Int):=by
 rw[BitVec.toNat_and,ma h1,ma a];have:z1.toNat &&& z2.toNat<=z1.toNat:=Nat.and_le_left;exact fg ω ω
theorem E1(k:Int):lim k<=65535:=by
 unfold lim
 (repeat' split)<;>decide
theorem fe{s:au}(h:bg s=true):0<=s.Bits/\s.Bits<=9223372036854775807:=by
 unfold bg at h;simp only[C0]at h;have:=E1 s.Class;omega
theorem kX(b c:au):ao Tryz.prog 40 false [.val (some 3) (au.enc .imm b),.val (some 3) (au.enc .imm c)] .one [B (meshable b c)]:=by
 have g:=gc b;have h:=gc c;cases d:bg b<;>rw[d]at g<;>cases e:bg c<;>rw[e]at h
 all_goals
  refine fO 33 [] Tryz.func40 rfl ?_
  repeat'(first|refine gO ?_|(conv=>whnf);first|with_reducible (first|refine Bf.D (λa=>?_) (λa=>?_)|refine Bf.N (λa=>?_) (λa=>?_)|refine Bf.E (λa=>?_) (λa=>?_))|refine C7 g ?_|refine C7 h ?_|refine CJ (and64 (fe d) (fe e)) ?_)
  all_goals exact U0 (λz=>[B z]) ((by unfold meshable;rw[d,e];first|rfl|(symm;exact R0 ω)|(rw[I4];simp;omega)))
theorem xO(b c:au):ao Tryz.prog 165 false [.val (some 3) (au.enc .imm b),.val (some 3) (au.enc .imm c)] .one [B (meshable b c)]:=by
 have g:=ic b;have h:=ic c;cases d:bg b<;>rw[d]at g<;>cases e:bg c<;>rw[e]at h
 all_goals
  refine fO 33 [] Tryz.func165 rfl ?_
  repeat'(first|refine gO ?_|(conv=>whnf);first|with_reducible (first|refine Bf.D (λa=>?_) (λa=>?_)|refine Bf.N (λa=>?_) (λa=>?_)|refine Bf.E (λa=>?_) (λa=>?_))|refine C7 g ?_|refine C7 h ?_|refine CJ (and64 (fe d) (fe e)) ?_)
  all_goals exact U0 (λz=>[B z]) ((by unfold meshable;rw[d,e];first|rfl|(symm;exact R0 ω)|(rw[I4];simp;omega)))
theorem Jk(k:Int):ao Tryz.prog 247 false [.val none [I k]] .one [B (decide (0<=k/\k<=15))]:=by
 refine fO 5 [] Tryz.func247 rfl ?_
 repeat'(first|refine gO ?_|(conv=>whnf);first|refine C7 (aO k 0 15) ?_)
 rfl
theorem tf(p:co)(e:co.sml p):ao Tryz.prog 279 false [.val (some 3) (co.enc .imm p)] .one [B (eG p)]:=by
 have h:p.Cells.length<=1048576:=e;refine fO 51 [(4,25,[11,12,13,14,15,16,17,18,19,20,21,22,23,24,25,26,27,28,29,30,31,32,33,34,35])] Tryz.func279 rfl ?_
 repeat'(first|refine gO ?_|fail)
 (conv=>whnf)
 refine CE (ι:=Nat) (λi=>[(1,.hold .box (co.enc .imm p)),(3,.hold .one [I ((i:Nat):Int)])]) (λi=>i<=p.Cells.length/\cK i (mJ p.Cells)=true) (λi=>p.Cells.length - i) 0 ?_ ⟨T0 _,rfl⟩ λi c=>?_
 ·exact wB
 obtain⟨c,d⟩:=c;by_cases b:i<p.Cells.length
 ·have g:=ah b
  repeat'(first|refine gD ?_|(conv=>whnf);first|with_reducible (first|refine CB (aa g) ?_|refine Bf.D (λa=>?_) (λa=>?_))|refine C7 (aE _ 0 15) ?_|refine CK ω (aa (fT ω b)) ?_)
  all_goals first
   | exact U0 (λz=>[B z]) ((by symm;unfold eG;rw[cj b (R0 ω)];rfl))
   | ((conv=>whnf);refine CC (i+1) ⟨ω,bM d (O0 ω)⟩ ω ?_;(exact wB))
 ·obtain rfl:i=p.Cells.length:=ω
  repeat'(first|refine gD ?_|(conv=>whnf);first|with_reducible (first|refine Bf.D (λa=>?_) (λa=>?_)|refine Bf.NB (λa=>?_) (λa=>?_)|refine Bf.N (λa=>?_) (λa=>?_))|refine C7 (aE _ 0 31) ?_)
  all_goals exact U0 (λz=>[B z]) ((by unfold eG;rw[d];simp only[Bool.true_and];first|(symm;exact R0 ω)|exact decide_eq_decide.2 ω|(rw[I4];simp;omega)))
theorem BI(p:co)(e:co.sml p):ao Tryz.prog 171 false [.val (some 3) (co.enc .imm p)] .one [B (eG p)]:=by
 have h:p.Cells.length<=1048576:=e;refine fO 46 [] Tryz.func171 rfl ?_
 repeat'(first|refine gO ?_|fail)
 (conv=>whnf)
 refine CE (ι:=Nat) (λi=>[(1,.hold .box (co.enc .imm p)),(6,.hold .one (aD .imm p.Cells)),(7,.hold .one [I (p.Cells.length)]),(8,.hold .one [I ((i:Nat):Int)])]) (λi=>i<=p.Cells.length/\cK i (mJ p.Cells)=true) (λi=>p.Cells.length - i) 0 ?_ ⟨T0 _,rfl⟩ λi c=>?_
 ·exact wB
 obtain⟨c,d⟩:=c;by_cases b:i<p.Cells.length
 ·have g:=ah b
  repeat'(first|refine gD ?_|(conv=>whnf);first|with_reducible (first|refine CB (aa g) ?_|refine Bf.D (λa=>?_) (λa=>?_))|refine C7 (Jk _) ?_|refine CK ω (aa (fT ω b)) ?_)
  all_goals first
   | exact U0 (λz=>[B z]) ((by symm;unfold eG;rw[cj b (R0 ω)];rfl))
   | ((conv=>whnf);refine CC (i+1) ⟨ω,bM d (O0 ω)⟩ ω ?_;(exact wB))
 ·obtain rfl:i=p.Cells.length:=ω
  repeat'(first|refine gD ?_|(conv=>whnf);first|with_reducible (first|refine Bf.D (λa=>?_) (λa=>?_)|refine Bf.NB (λa=>?_) (λa=>?_)|refine Bf.N (λa=>?_) (λa=>?_))|refine C7 (aO _ 0 31) ?_)
  all_goals exact U0 (λz=>[B z]) ((by unfold eG;rw[d];simp only[Bool.true_and];first|(symm;exact R0 ω)|exact decide_eq_decide.2 ω|(rw[I4];simp;omega)))
theorem v6(j:cn)(a:cn.sml j):ao Tryz.prog 212 false [.val (some 5) (cn.enc .imm j)] .one [B (ja j)]:=by
 have e:j.Plan.Cells.length<=1048576:=a;have b:=tf j.Plan a;cases c:eG j.Plan<;>rw[c]at b
 all_goals
  refine fO 20 [] Tryz.func212 rfl ?_
  repeat'(first|refine gO ?_|(conv=>whnf);first|with_reducible refine Bf.D (λd=>?_) (λd=>?_)|refine C7 b ?_|refine C7 (aE _ 0 5) ?_|refine C7 (aE _ 0 _) ?_)
  all_goals exact U0 (λz=>[B z]) ((by unfold ja;rw[c];first|rfl|(symm;exact R0 ω)|(rw[I4];simp;omega)))
theorem Fp(j:cn)(a:cn.sml j):ao Tryz.prog 77 false [.val (some 5) (cn.enc .imm j)] .one [B (ja j)]:=by
 have e:j.Plan.Cells.length<=1048576:=a;have b:=BI j.Plan a;cases c:eG j.Plan<;>rw[c]at b
 all_goals
  refine fO 20 [] Tryz.func77 rfl ?_
  repeat'(first|refine gO ?_|(conv=>whnf);first|with_reducible refine Bf.D (λd=>?_) (λd=>?_)|refine C7 b ?_|refine C7 (aO _ 0 5) ?_|refine C7 (aO _ 0 _) ?_)
  all_goals exact U0 (λz=>[B z]) ((by unfold ja;rw[c];first|rfl|(symm;exact R0 ω)|(rw[I4];simp;omega)))
theorem jS(l:ax)(k:Nat):lpgs l (k+1)=lpgs l k++[l.Page+(k:Nat)]:=by
 unfold lpgs;rw[List.range_succ,v5];rfl
theorem DY(l:ax)(k:Nat):(lpgs l k).length=k:=by unfold lpgs;simp
theorem Lt(l:ax){k n:Nat}(h:k<=n):lpgs l k <+: lpgs l n:=by
 induction n with
 | zero=>
  obtain rfl:k=0:=ω
  exact List.prefix_refl _
 | succ n b=>
  rcases Nat.lt_or_ge n k with a|a
  ·obtain rfl:k=n+1:=ω
   exact List.prefix_refl _
  ·rw[jS];exact(b a).trans (List.prefix_append ..)
theorem nS(sp:List au){la:List ax}{i:Nat}{l:ax}(h:la[i]? = some l):pgs sp (la.take (i+1))=pgs sp (la.take i)++lpgs l l.Pages.toNat:=by
 unfold pgs;rw[Z4,h,List.flatMap_append];simp
theorem MQ(sp:List au)(la:List ax)(i:Nat):pgs sp (la.take i) <+: pgs sp la:=by
 unfold pgs;refine(List.prefix_append_right_inj _).2 ?_
 conv=>rhs;rw[<-List.take_append_drop i la,List.flatMap_append]
 exact List.prefix_append ..
theorem Kk{S all:List Int}{p:Int}(h:(S++[p]) <+: all)(b:p∈S):decide all.Nodup=false:=by
 refine R0 λc=>?_
 have a:=c.sublist h.sublist;rw[List.nodup_append]at a;exact a.2.2 p b p (by simp) rfl
theorem kn{S:List Int}{p:Int}(h:S.Nodup)(b:p∉S):(S++[p]).Nodup:=by
 rw[List.nodup_append];exact⟨h,by simp,λx c y a e=>by simp at a;subst a;subst e;exact b c⟩
theorem Ea{sp:List au}{la:List ax}{i:Nat}{s:au}(h:sp[i]? = some s):((sp.take i).map (·.Page)++[s.Page]) <+: pgs sp la:=by
 have a:(sp.take i).map (·.Page)++[s.Page]=(sp.take (i+1)).map (·.Page):=by rw[Z4,h];simp
 rw[a];refine List.IsPrefix.trans ?_ (List.prefix_append ..);rw[X3];exact List.take_prefix ..
theorem yY{sp:List au}{la:List ax}{i k:Nat}{l:ax}(h:la[i]? = some l)(a:k<l.Pages.toNat):(pgs sp (la.take i)++lpgs l k++[l.Page+(k:Nat)]) <+: pgs sp la:=by
 refine List.IsPrefix.trans ?_ (MQ sp la (i+1));rw[nS sp h,t5,<-jS];exact(List.prefix_append_right_inj _).2 (Lt l a)
theorem pc{sp:List au}{la:List ax}{i:Nat}{s:au}(h:sp[i]? = some s)(a:bg s=false):bj sp la=false:=by
 unfold bj;rw[ee h a];rfl
theorem nR{sp:List au}{la:List ax}{i:Nat}{l:ax}(h:la[i]? = some l)(a:bS l=false):bj sp la=false:=by
 unfold bj;rw[ee h a];simp
theorem j9{sp:List au}{la:List ax}{S:List Int}{p:Int}(h:(S++[p]) <+: pgs sp la)(a:p∈S):bj sp la=false:=by
 unfold bj;rw[Kk h a];simp
theorem qL{sp:List au}{la:List ax}(h1:sp.all bg=true)(a:la.all bS=true)(b:(pgs sp la).Nodup):bj sp la=true:=by
 unfold bj;rw[h1,a,O0 b];rfl
theorem aU{l:ax}(h:bS l=true):1<=l.Pages/\l.Pages<=63/\0<=l.Page/\l.Page<=31:=by
 unfold bS at h;simp only[C0]at h;omega
theorem kT(sp:List au)(la:List ax)(t:dy sp)(u:dx la):ao Tryz.prog 203 false [.val none (cr .imm sp),.val none (bQ .imm la)] .one [B (bj sp la)]:=by
 have J:=t.1;have K:=u.1;refine fO 79 [] Tryz.func203 rfl ?_
 repeat'(first|refine gO ?_|fail)
 (conv=>whnf)
 refine CE (ι:=Nat × List Int) (λi=>[(0,.hold .one (cr .imm sp)),(1,.hold .one (bQ .imm la)),(5,.hold .one (aD .own i.2)),(6,.hold .one [I ((i.1:Nat):Int)])]) (λi=>i.1<=sp.length/\i.2=(sp.take i.1).map (·.Page)/\(sp.take i.1).all bg=true/\i.2.Nodup) (λi=>sp.length - i.1) ((0,[])) ?_ (⟨T0 _,rfl,rfl,List.nodup_nil⟩) λi p=>?_
 ·exact wB
 obtain⟨i,S⟩:=i;obtain⟨p,o,h,l⟩:=p;simp only at p o h l |-;have L:S.length=i:=by rw[o,X0,O1];omega
 by_cases w:i<sp.length
 ·have a:=ah w
  have n:=gc (nth sp i);cases j:bg (nth sp i)<;>rw[j]at n
  ·repeat'(first|refine gD ?_|(conv=>whnf);first|with_reducible refine CB (aa a) ?_|refine C7 n ?_)
   exact U0 (λz=>[B z]) ((pc a j).symm)
  ·repeat'(first|refine gD ?_|(conv=>whnf);first|with_reducible (first|refine CB (aa a) ?_|refine Bf.D (λy=>?_) (λy=>?_))|refine C7 n ?_|refine CD (lw S _ ω) ⟨⟨rfl,eB _⟩,⟨rfl,rfl⟩,trivial⟩ ?_|refine CP bV (λr E=>by rw[C1.1 E];rfl) (by simp[aV,dz]) (by simp;omega) (by simp only[X0];exact wi (by simp;omega) (by decide)) rfl ?_)
   all_goals first
    | exact U0 (λz=>[B z]) ((j9 (S:=S) (by rw[o];exact Ea a) (by assumption)).symm)
    | ((conv=>whnf)
       refine CC (i+1,S++[(nth sp i).Page]) ⟨(by simp only;omega),(by simp only;rw[o,Z4,a];simp),(cH a h j),kn l (by assumption)⟩ (by simp only;omega) ?_
       (repeat'(first|exact trivial|rfl|exact CI rfl (CI (U0 (C.s du.own) (by simp[rI])) trivial)|refine CI ?_ ?_)))
 ·obtain rfl:i=sp.length:=ω
  rw[V4]at h o
  repeat'(first|refine gD ?_|fail)
  (conv=>whnf)
  refine CE (ι:=Nat × List Int) (λi=>[(1,.hold .one (bQ .imm la)),(5,.hold .one (aD .own i.2)),(7,.hold .one [I ((i.1:Nat):Int)])]) (λi=>i.1<=la.length/\i.2=pgs sp (la.take i.1)/\(la.take i.1).all bS=true/\i.2.Nodup/\i.2.length<=1048576+64*i.1) (λi=>la.length - i.1) ((0,S)) ?_ (⟨T0 _,by rw[o];unfold pgs;simp,rfl,l,by simp only;omega⟩) λi p=>?_
  ·exact wB
  obtain⟨i,S2⟩:=i;obtain⟨F,c,b,d,G⟩:=p;simp only at F c b d G |-;by_cases w:i<la.length
  ·have a:=ah w
   have n:=lT (nth la i);cases j:bS (nth la i)<;>rw[j]at n
   ·repeat'(first|refine gD ?_|(conv=>whnf);first|with_reducible refine CB (aa a) ?_|refine C7 n ?_)
    exact U0 (λz=>[B z]) ((nR a j).symm)
   ·have M:=aU j
    repeat'(first|refine gD ?_|(conv=>whnf);first|with_reducible refine CB (aa a) ?_|refine C7 n ?_)
    (conv=>whnf)
    refine CE (ι:=Nat × List Int) (λk=>[(1,.hold .one (bQ .imm la)),(5,.hold .one (aD .own k.2)),(7,.hold .one [I ((i:Nat):Int)]),(8,.hold .one [I ((k.1:Nat):Int)])]) (λk=>k.1<=(nth la i).Pages.toNat/\k.2=S2++lpgs (nth la i) k.1/\k.2.Nodup) (λk=>(nth la i).Pages.toNat - k.1) ((0,S2)) ?_ (⟨T0 _,by simp[lpgs],d⟩) λk H=>?_
    ·exact wB
    obtain⟨k,q⟩:=k;obtain⟨H,e,g⟩:=H;simp only at H e g |-;have N:q.length=S2.length+k:=by rw[e,v3,DY]
    by_cases O:k<(nth la i).Pages.toNat
    ·repeat'(first|refine gD ?_|(conv=>whnf);first|with_reducible (first|refine CB (aa a) ?_|refine Bf.D (λy=>?_) (λy=>?_))|refine CD (lw q _ ω) ⟨⟨rfl,eB _⟩,⟨rfl,rfl⟩,trivial⟩ ?_|refine CP bV (λr E=>by rw[C1.1 E];rfl) (by simp[aV,dz]) (by simp;omega) (by show _*8<=_;simp;omega) rfl ?_)
     all_goals first
      | exact U0 (λz=>[B z]) ((j9 (S:=q) (by rw[e,c];exact yY a O) (by assumption)).symm)
      | ((conv=>whnf)
         refine CC (k+1,q++[(nth la i).Page+(k:Nat)]) ⟨(by simp only;omega),(by simp only;rw[e,jS,t5]),kn g (by assumption)⟩ (by simp only;omega) ?_
         (repeat'(first|exact trivial|rfl|exact CI rfl (CI (U0 (C.s du.own) (by simp[rI])) trivial)|refine CI ?_ ?_)))
    ·obtain rfl:k=(nth la i).Pages.toNat:=ω
     repeat'(first|refine gD ?_|(conv=>whnf);first|with_reducible refine CB (aa a) ?_)
     ((conv=>whnf);refine CC (i+1,q) ⟨(by simp only;omega),(by simp only;rw[e,c,<-nS sp a]),(cH a b j),g,(by simp only;omega)⟩ (by simp only;omega) ?_;(exact wB))
  ·obtain rfl:i=la.length:=ω
   rw[V4]at b c
   repeat'(first|refine gD ?_|fail)
   exact U0 (λz=>[B z]) ((qL h b (by rw[<-c];exact d)).symm)
def ins(S:List Int)(p:Int):List Int:=if p∈S then S else S++[p]
theorem GI{p:Int} : ∀{S:List Int},p∈S->mput (eU S) p (.bool true)=eU S
 | x::S,h=>by
  simp only[eU,C5,mput];by_cases a:x=p
  ·rw[C9 a,a]
  ·rw[C8 a]
   have:=GI (S:=S) ((List.mem_cons.1 h).resolve_left λe=>a e.symm);simp only[eU]at this;rw[this]
theorem xt(S:List Int)(p:Int):eU (ins S p)=mput (eU S) p (.bool true):=by
 unfold ins;split
 ·rw[GI (by assumption)]
 ·rw[sG (by assumption)]
theorem Kg(S:List Int)(p:Int):aQ Tryz.prog 160 false [.val none [I p],.ptr [.m (eU S)]] [.val none [I p],.ptr [.m (eU (ins S p))]] .one [B (decide (p∉S))]:=by
 refine fM 12 [] [] [(0,0),(0,0)] Tryz.func160 rfl (λu q=>?_)
 repeat'(first|refine gO ?_|(conv=>whnf);first|refine Ml.mk (mf p S) ?_|refine Mu.mk (xt S p) ?_)
 refine CF rfl ?_ ?_
 ·exact U0 (λz=>[B z]) (by simp)
 ·exact wB
theorem pw(sp:List au)(la:List ax)(t:dy sp)(u:dx la):ao Tryz.prog 68 false [.val none (cr .imm sp),.val none (bQ .imm la)] .one [B (bj sp la)]:=by
 have F:=t.1;have G:=u.1;refine fP 54 [(160,[0,2])] [] Tryz.func68 rfl ?_
 repeat'(first|refine gO ?_|fail)
 (conv=>whnf)
 refine CE (ι:=Nat × List Int) (λi=>[(1,.hold .one (bQ .imm la)),(5,.hold .box [.m (eU i.2)]),(6,.fn 160 [5]),(14,.hold .one (cr .imm sp)),(15,.hold .one [I (sp.length)]),(16,.hold .one [I ((i.1:Nat):Int)])]) (λi=>i.1<=sp.length/\i.2=(sp.take i.1).map (·.Page)/\(sp.take i.1).all bg=true/\i.2.Nodup) (λi=>sp.length - i.1) ((0,[])) ?_ (⟨T0 _,rfl,rfl,List.nodup_nil⟩) λi p=>?_
 ·exact wB
 obtain⟨i,S⟩:=i;obtain⟨p,q,h,n⟩:=p;simp only at p q h n |-;by_cases w:i<sp.length
 ·have c:=ah w
  have o:=ic (nth sp i);cases l:bg (nth sp i)<;>rw[l]at o
  ·repeat'(first|refine gD ?_|(conv=>whnf);first|with_reducible refine CB (aa c) ?_|refine C7 o ?_)
   exact U0 (λz=>[B z]) ((pc c l).symm)
  ·repeat'(first|refine gD ?_|(conv=>whnf);first|with_reducible (first|refine CB (aa c) ?_|refine Bf.D (λy=>?_) (λy=>?_))|refine C7 o ?_|refine CH (Kg S _) (.inl rfl) ?_)
   all_goals first
    | exact U0 (λz=>[B z]) ((j9 (S:=S) (by rw[q];exact Ea c) (by grind)).symm)
    |(have a:(nth sp i).Page∉S:=by assumption
      (conv=>whnf)
      refine CC (i+1,ins S (nth sp i).Page) ⟨(by simp only;omega),(by simp only;unfold ins;rw[C8 a,q,Z4,c];simp),(cH c h l),(by simp only;unfold ins;rw[C8 a];exact kn n a)⟩ (by simp only;omega) ?_
      (exact wA))
 ·obtain rfl:i=sp.length:=ω
  rw[V4]at h q
  repeat'(first|refine gD ?_|fail)
  (conv=>whnf)
  refine CE (ι:=Nat × List Int) (λi=>[(5,.hold .box [.m (eU i.2)]),(6,.fn 160 [5]),(31,.hold .one (bQ .imm la)),(32,.hold .one [I (la.length)]),(33,.hold .one [I ((i.1:Nat):Int)])]) (λi=>i.1<=la.length/\i.2=pgs sp (la.take i.1)/\(la.take i.1).all bS=true/\i.2.Nodup) (λi=>la.length - i.1) ((0,S)) ?_ (⟨T0 _,by rw[q];unfold pgs;simp,rfl,n⟩) λi p=>?_
  ·exact wB
  obtain⟨i,S2⟩:=i;obtain⟨C,d,b,e⟩:=p;simp only at C d b e |-;by_cases w:i<la.length
  ·have c:=ah w
   have o:=rc (nth la i);cases l:bS (nth la i)<;>rw[l]at o
   ·repeat'(first|refine gD ?_|(conv=>whnf);first|with_reducible refine CB (aa c) ?_|refine C7 o ?_)
    exact U0 (λz=>[B z]) ((nR c l).symm)
   ·have H:=aU l
    repeat'(first|refine gD ?_|(conv=>whnf);first|with_reducible refine CB (aa c) ?_|refine C7 o ?_)
    (conv=>whnf)
    refine CE (ι:=Nat × List Int) (λk=>[(5,.hold .box [.m (eU k.2)]),(6,.fn 160 [5]),(10,.hold .box (ax.enc .imm (nth la i))),(11,.hold .one [I ((k.1:Nat):Int)]),(31,.hold .one (bQ .imm la)),(32,.hold .one [I (la.length)]),(33,.hold .one [I ((i:Nat):Int)])]) (λk=>k.1<=(nth la i).Pages.toNat/\k.2=S2++lpgs (nth la i) k.1/\k.2.Nodup) (λk=>(nth la i).Pages.toNat - k.1) ((0,S2)) ?_ (⟨T0 _,by simp[lpgs],e⟩) λk E=>?_
    ·exact wB
    obtain⟨k,r⟩:=k;obtain⟨E,j,g⟩:=E;simp only at E j g |-;by_cases J:k<(nth la i).Pages.toNat
    ·repeat'(first|refine gD ?_|(conv=>whnf);first|with_reducible refine Bf.D (λy=>?_) (λy=>?_)|refine CH (Kg r _) (.inl rfl) ?_)
     all_goals first
      | exact U0 (λz=>[B z]) ((j9 (S:=r) (by rw[j,d];exact yY c J) (by grind)).symm)
      |(have a:(nth la i).Page+(k:Nat)∉r:=by assumption
        (conv=>whnf)
        refine CC (k+1,ins r ((nth la i).Page+(k:Nat))) ⟨(by simp only;omega),(by simp only;unfold ins;rw[C8 a,j,jS,t5]),(by simp only;unfold ins;rw[C8 a];exact kn g a)⟩ (by simp only;omega) ?_
        (exact wA))
    ·obtain rfl:k=(nth la i).Pages.toNat:=ω
     repeat'(first|refine gD ?_|fail)
     ((conv=>whnf);refine CC (i+1,r) ⟨(by simp only;omega),(by simp only;rw[j,d,<-nS sp c]),(cH c b l),g⟩ (by simp only;omega) ?_;(exact wB))
  ·obtain rfl:i=la.length:=ω
   rw[V4]at b d
   repeat'(first|refine gD ?_|fail)
   exact U0 (λz=>[B z]) ((qL h b (by rw[<-d];exact e)).symm)
theorem aF{s:au}(h:bg s=true):0<=s.Page/\s.Page<=31/\0<=s.Class/\s.Class<=3:=by
 unfold bg at h;simp only[C0]at h;omega
theorem cx{k:Int}(h:0<=k/\k<=3):csz k=1\/csz k=2\/csz k=4\/csz k=8:=by
 obtain rfl|rfl|rfl|rfl:k=0\/k=1\/k=2\/k=3:=ω
 all_goals decide
theorem nQ{x y:Int}(h:0<=x):x.tdiv y=x / y:=Int.tdiv_eq_ediv_of_nonneg h
theorem eS{x y:Int}(h:0<=x):x.tmod y=x % y:=Int.tmod_eq_emod_of_nonneg h
def S2(p:Int × Int):List C:=[I p.1,I p.2]
theorem yy{a b:Int}{p:Int × Int}(h:(a,b)=p):[I a,I b]=S2 p:=by subst h;rfl
theorem t7(s:au)(a:Int)(k:lQ a):ao Tryz.prog 328 false [.val (some 3) (au.enc .imm s),.val none [I a]] (.tup [none,none]) (S2 (iy s a)):=by
 have g:=gc s;have l:=d6 s.Class;obtain⟨n,o⟩:=k;cases b:bg s<;>rw[b]at g
 ·refine fO 33 [(4,12,[23,24,25,26,27,28,29,30,31,32,4,5])] Tryz.func328 rfl ?_ (.inr ⟨trivial,trivial,trivial⟩)
  repeat'(first|refine gO ?_|(conv=>whnf);first|refine C7 g ?_)
  exact yy (by unfold iy cF;rw[b];rfl)
 ·have h:=aF b
  have i:=cx ⟨h.2.2.1,h.2.2.2⟩;by_cases c:16*s.Page<=a/\a<=16*s.Page+15
  ·have j:0<=a:=ω
   refine fO 33 [(4,12,[23,24,25,26,27,28,29,30,31,32,4,5])] Tryz.func328 rfl ?_ (.inr ⟨trivial,trivial,trivial⟩)
   repeat'(first|refine gD ?_|(conv=>whnf);first|with_reducible refine Bf.N (λd=>?_) (λd=>?_)|refine C7 g ?_|refine C7 l ?_|refine CL (by decide) ?_|refine CL ω ?_|refine CJ ((U0 _ (nQ j)).trans (fg ω ω)) ?_|refine CR (eS j) ?_|refine CJ ((U0 _ (nQ ω)).trans (fg (by rcases i with e|e|e|e<;>rw[e]<;>omega) (by rcases i with e|e|e|e<;>rw[e]<;>omega))) ?_|refine CR (eS ω) ?_)
   all_goals first
    |(exfalso;omega)
    |exact yy (by unfold iy cF;rw[b,O0 c];show _=((a - 16*s.Page) / csz s.Class,(a - 16*s.Page) % csz s.Class);rw[show a % 16=a - 16*s.Page by omega])
  ·refine fO 33 [(4,12,[23,24,25,26,27,28,29,30,31,32,4,5])] Tryz.func328 rfl ?_ (.inr ⟨trivial,trivial,trivial⟩)
   repeat'(first|refine gO ?_|(conv=>whnf);first|with_reducible (first|refine Bf.D (λd=>?_) (λd=>?_)|refine Bf.N (λd=>?_) (λd=>?_))|refine C7 g ?_|refine CL (by decide) ?_|refine CJ ((U0 _ (nQ ω)).trans (fg ω ω)) ?_)
   all_goals first
    |exact yy (by unfold iy cF;rw[b,R0 c];rfl)
    |(exfalso;omega)
theorem DT(s:au)(a:Int):ao Tryz.prog 182 false [.val (some 3) (au.enc .imm s),.val none [I a]] (.tup [none,none]) (S2 (iy s a)):=by
 have d:=ic s;have j:=dP s.Class;cases b:bg s<;>rw[b]at d
 ·refine fO 38 [(4,12,[28,29,30,31,32,33,34,35,36,37,4,5])] Tryz.func182 rfl ?_ (.inr ⟨trivial,trivial,trivial⟩)
  repeat'(first|refine gO ?_|(conv=>whnf);first|refine C7 d ?_)
  exact yy (by unfold iy cF;rw[b];rfl)
 ·have h:=aF b
  have i:=cx ⟨h.2.2.1,h.2.2.2⟩;by_cases c:16*s.Page<=a/\a<=16*s.Page+15
  ·refine fO 38 [(4,12,[28,29,30,31,32,33,34,35,36,37,4,5])] Tryz.func182 rfl ?_ (.inr ⟨trivial,trivial,trivial⟩)
   repeat'(first|refine gD ?_|(conv=>whnf);first|with_reducible refine Bf.D (λg=>?_) (λg=>?_)|refine C7 d ?_|refine C7 j ?_|refine C7 (aO _ _ _) ?_|refine CL ω ?_|refine CJ ((U0 _ (nQ ω)).trans (fg (by rcases i with e|e|e|e<;>rw[e]<;>omega) (by rcases i with e|e|e|e<;>rw[e]<;>omega))) ?_|refine CR (eS ω) ?_)
   all_goals exact yy (by unfold iy cF;rw[b,O0 c];show _=((a - 16*s.Page) / csz s.Class,(a - 16*s.Page) % csz s.Class);rw[show a - s.Page*16=a - 16*s.Page by omega])
  ·refine fO 38 [(4,12,[28,29,30,31,32,33,34,35,36,37,4,5])] Tryz.func182 rfl ?_ (.inr ⟨trivial,trivial,trivial⟩)
   repeat'(first|refine gD ?_|(conv=>whnf);first|with_reducible refine Bf.D (λg=>?_) (λg=>?_)|refine C7 d ?_|refine C7 (aO _ _ _) ?_)
   all_goals exact yy (by unfold iy cF;rw[b,R0 c];rfl)
theorem o8(b i:Int):ao Tryz.prog 260 false [.val none [I b],.val none [I i]] .one [B (decide (0<=b/\0<=i/\i<=15))]:=by
 refine fO 11 [] Tryz.func260 rfl ?_
 repeat'(first|refine gO ?_|(conv=>whnf);first|with_reducible refine Bf.D (λa=>?_) (λa=>?_)|refine C7 (aE _ 0 15) ?_)
 all_goals exact U0 (λz=>[B z]) ((by first|(symm;exact R0 ω)|exact decide_eq_decide.2 ω))
theorem sJ(b i:Int):ao Tryz.prog 248 false [.val none [I b],.val none [I i]] .one [B (decide (0<=b/\0<=i/\i<=15))]:=by
 refine fO 11 [] Tryz.func248 rfl ?_
 repeat'(first|refine gO ?_|(conv=>whnf);first|with_reducible refine Bf.D (λa=>?_) (λa=>?_)|refine C7 (aO _ 0 15) ?_)
 all_goals exact U0 (λz=>[B z]) ((by first|(symm;exact R0 ω)|exact decide_eq_decide.2 ω))
theorem Kt{b i:Int}(a:0<=b/\b<=9223372036854775807)(e:0<=i/\i<=15):b.fdiv (2 ^ min i.toNat IntKind.i64.bits)=b / 2 ^ i.toNat/\0<=b / 2 ^ i.toNat/\b / 2 ^ i.toNat<=9223372036854775807:=by
 have d:min i.toNat IntKind.i64.bits=i.toNat:=Nat.min_eq_left (show i.toNat<=64 by omega);rw[d];have c:(0:Int)<=2 ^ i.toNat:=Int.pow_nonneg (by decide);refine⟨Int.fdiv_eq_ediv_of_nonneg _ c,Int.ediv_nonneg a.1 c,?_⟩;have:=Int.ediv_le_self (2 ^ i.toNat:Int) a.1;omega
theorem vm{b i:Int}(a:0<=b)(e:0<=i/\i<=15):((((b / 2 ^ i.toNat).toNat &&& (1:Int).toNat:Nat):Int) == 1)=aX b i:=by
 have c:(0:Int)<=b / 2 ^ i.toNat:=Int.ediv_nonneg a (Int.pow_nonneg (by decide));have d:(b / 2 ^ i.toNat).toNat &&& (1:Int).toNat=(b / 2 ^ i.toNat).toNat % 2:=Nat.and_one_is_mod _;rw[d];unfold aX;generalize b / 2 ^ i.toNat=q at c |-;rw[I4,beq_iff_eq,C0];omega
theorem ik(b i:Int)(c:b<=9223372036854775807):ao Tryz.prog 192 false [.val none [I b],.val none [I i]] .one [B (aX b i)]:=by
 by_cases h:0<=b/\0<=i/\i<=15
 ·obtain⟨d,g⟩:=Kt (b:=b) (i:=i) ⟨h.1,c⟩ h.2
  have j:IntKind.u64.wrap i=i:=by unfold IntKind.wrap;simp[IntKind.signed,IntKind.bits];omega
  refine fO 16 [] Tryz.func192 rfl ?_
  repeat'(first|refine gD ?_|(conv=>whnf);first|with_reducible refine Bf.D (λa=>?_) (λa=>?_)|refine C7 (o8 _ _) ?_|refine CL ω ?_|refine CJ j ?_|refine CR d ?_|refine CJ (and64 g ⟨by decide,by decide⟩) ?_)
  all_goals exact U0 (λz=>[B z]) ((vm h.1 h.2))
 ·refine fO 16 [] Tryz.func192 rfl ?_
  repeat'(first|refine gD ?_|(conv=>whnf);first|with_reducible refine Bf.D (λa=>?_) (λa=>?_)|refine C7 (o8 _ _) ?_)
  all_goals exact U0 (λz=>[B z]) ((by unfold aX;symm;exact R0 λe=>h ⟨e.1,e.2.1,e.2.2.1⟩))
theorem m8(b i:Int)(c:b<=9223372036854775807):ao Tryz.prog 173 false [.val none [I b],.val none [I i]] .one [B (aX b i)]:=by
 by_cases h:0<=b/\0<=i/\i<=15
 ·obtain⟨d,g⟩:=Kt (b:=b) (i:=i) ⟨h.1,c⟩ h.2
  refine fO 15 [] Tryz.func173 rfl ?_
  repeat'(first|refine gD ?_|(conv=>whnf);first|with_reducible refine Bf.D (λa=>?_) (λa=>?_)|refine C7 (sJ _ _) ?_|refine CL ω ?_|refine CR d ?_|refine CJ (and64 g ⟨by decide,by decide⟩) ?_)
  all_goals exact U0 (λz=>[B z]) ((vm h.1 h.2))
 ·refine fO 15 [] Tryz.func173 rfl ?_
  repeat'(first|refine gD ?_|(conv=>whnf);first|with_reducible refine Bf.D (λa=>?_) (λa=>?_)|refine C7 (sJ _ _) ?_)
  all_goals exact U0 (λz=>[B z]) ((by unfold aX;symm;exact R0 λe=>h ⟨e.1,e.2.1,e.2.2.1⟩))
theorem cC{l:ax}(h:bS l=true):9<=l.Size/\l.Size<=1000/\0<=l.Page/\l.Page<=31:=by
 unfold bS at h;simp only[C0]at h;omega
theorem oZ(l:ax)(a:Int):ao Tryz.prog 329 false [.val (some 3) (ax.enc .imm l),.val none [I a]] .one [B (b9 l a)]:=by
 have c:=lT l;cases b:bS l<;>rw[b]at c
 ·refine fO 24 [] Tryz.func329 rfl ?_
  repeat'(first|refine gO ?_|(conv=>whnf);first|refine C7 c ?_)
  exact U0 (λz=>[B z]) ((by unfold b9;rw[b];rfl))
 ·have e:=cC b
  refine fO 24 [] Tryz.func329 rfl ?_
  repeat'(first|refine gO ?_|(conv=>whnf);first|with_reducible refine Bf.D (λd=>?_) (λd=>?_)|refine C7 c ?_)
  all_goals exact U0 (λz=>[B z]) ((by unfold b9;rw[b,Bool.true_and];first|(symm;exact R0 ω)|exact decide_eq_decide.2 ω))
theorem pf(l:ax)(a:Int):ao Tryz.prog 183 false [.val (some 3) (ax.enc .imm l),.val none [I a]] .one [B (b9 l a)]:=by
 have c:=rc l;cases b:bS l<;>rw[b]at c
 ·refine fO 21 [] Tryz.func183 rfl ?_
  repeat'(first|refine gO ?_|(conv=>whnf);first|refine C7 c ?_)
  exact U0 (λz=>[B z]) ((by unfold b9;rw[b];rfl))
 ·have e:=cC b
  refine fO 21 [] Tryz.func183 rfl ?_
  repeat'(first|refine gO ?_|(conv=>whnf);first|with_reducible refine Bf.D (λd=>?_) (λd=>?_)|refine C7 c ?_|refine C7 (aO _ _ _) ?_)
  all_goals exact U0 (λz=>[B z]) ((by unfold b9;rw[b,Bool.true_and];exact decide_eq_decide.2 ω))
theorem sE(l:ax)(a:Int)(h:b9 l a=true):ao Tryz.prog 330 false [.val (some 3) (ax.enc .imm l),.val none [I a]] .one [I (a - 16*l.Page)]:=by
 have b:=oZ l a;rw[h]at b;unfold b9 at h;simp only[I0,C0]at h;have c:=cC h.1;refine fO 14 [] Tryz.func330 rfl ?_
 repeat'(first|refine gO ?_|(conv=>whnf);first|refine C7 b ?_)
 exact U0 (λz=>[I z]) ω
theorem rS(l:ax)(a:Int)(h:b9 l a=true):ao Tryz.prog 184 false [.val (some 3) (ax.enc .imm l),.val none [I a]] .one [I (a - 16*l.Page)]:=by
 have b:=pf l a;rw[h]at b;unfold b9 at h;simp only[I0,C0]at h;have c:=cC h.1;refine fO 14 [] Tryz.func184 rfl ?_
 repeat'(first|refine gO ?_|(conv=>whnf);first|refine C7 b ?_)
 exact U0 (λz=>[I z]) ω
theorem oI{m:aI}{i:Nat}(a:i<m.Buffers.length)(h:gq m i=false):bI m=false:=by
 unfold bI;rw[cj a h];simp
theorem vF{m:aI}(h:¬(1<=m.Buffers.length/\m.Buffers.length<=4/\m.Inbox.length=m.Buffers.length)):bI m=false:=by
 unfold bI;rw[R0 h];rfl
theorem vt{m:aI}(h1:1<=m.Buffers.length/\m.Buffers.length<=4/\m.Inbox.length=m.Buffers.length)(a:cK m.Buffers.length (gq m)=true):bI m=decide (br m m.Buffers.length<=30):=by
 unfold bI;rw[O0 h1,a];rfl
theorem kN(m:aI)(h:aI.sml m):ao Tryz.prog 206 false [.val (some 2) (aI.enc .imm m)] .one [B (bI m)]:=by
 have u:m.Buffers.length<=1048576:=h.1.1;have w:m.Inbox.length<=1048576:=h.2.1;by_cases n:1<=m.Buffers.length/\m.Buffers.length<=4/\m.Inbox.length=m.Buffers.length
 ·refine fO 92 [(19,15,[75,76,77,78,79,80,81,82,83,84,85,86,87,88,89])] Tryz.func206 rfl ?_
  repeat'(first|refine gA ?_|(conv=>whnf);first|with_reducible (first|refine Bf.D (λa=>?_) (λa=>?_)|refine Bf.N (λa=>?_) (λa=>?_))|refine C7 (aE _ 1 4) ?_)
  (conv=>whnf)
  refine CE (ι:=Nat) (λi=>[(1,.hold .box (aI.enc .imm m)),(3,.hold .one [I (m.Buffers.length)]),(4,.hold .one [I (br m i)]),(5,.hold .one [I ((i:Nat):Int)])]) (λi=>i<=m.Buffers.length/\cK i (gq m)=true/\0<=br m i/\br m i<=2097152*i) (λi=>m.Buffers.length - i) (0) ?_ (⟨T0 _,rfl,by simp[br],by simp[br]⟩) λi o=>?_
  ·exact wB
  obtain⟨o,p,G,H⟩:=o;by_cases j:i<m.Buffers.length
  ·have l:=ah j
   have q:=ah (xs:=m.Inbox) (i:=i) ω;have y:(nth m.Buffers i).length<=1048576:=(h.1.2 _ (am j)).1;have C:(nth m.Inbox i).length<=1048576:=h.2.2 _ (am ω)
   repeat'(first|refine gD ?_|fail)
   (conv=>whnf)
   refine CE (ι:=Nat) (λk=>[(1,.hold .box (aI.enc .imm m)),(3,.hold .one [I (m.Buffers.length)]),(4,.hold .one [I (br m i)]),(5,.hold .one [I ((i:Nat):Int)]),(6,.hold .one [I ((k:Nat):Int)])]) (λk=>k<=(nth m.Buffers i).length/\((nth m.Buffers i).take k).all (ml m.Buffers.length)=true) (λk=>(nth m.Buffers i).length - k) (0) ?_ (⟨T0 _,rfl⟩) λk r=>?_
   ·exact wB
   obtain⟨r,t⟩:=r;by_cases E:k<(nth m.Buffers i).length
   ·have c:=ah E
    repeat'(first|refine gD ?_|(conv=>whnf);first|with_reducible (first|refine CB (aa l) ?_|refine CB (aa c) ?_|refine Bf.D (λa=>?_) (λa=>?_))|refine C7 (aE _ 0 _) ?_)
    all_goals first
     | exact U0 (λz=>[B z]) ((oI j (by unfold gq;rw[ee c (by unfold ml;exact R0 ω)];rfl)).symm)
     | ((conv=>whnf);refine CC (k+1) ⟨ω,cH c t (by unfold ml;exact O0 ω)⟩ ω ?_;(exact wB))
   ·have F:=gt ω t
    repeat'(first|refine gD ?_|(conv=>whnf);first|with_reducible refine CB (aa l) ?_)
    (conv=>whnf)
    refine CE (ι:=Nat) (λb=>[(1,.hold .box (aI.enc .imm m)),(3,.hold .one [I (m.Buffers.length)]),(4,.hold .one [I (br m i)]),(5,.hold .one [I ((i:Nat):Int)]),(8,.hold .one [I ((b:Nat):Int)])]) (λb=>b<=(nth m.Inbox i).length/\((nth m.Inbox i).take b).all MM=true) (λb=>(nth m.Inbox i).length - b) (0) ?_ (⟨T0 _,rfl⟩) λb e=>?_
    ·exact wB
    obtain⟨e,ak2⟩:=e;by_cases lk2:b<(nth m.Inbox i).length
    ·have c:=ah lk2
     repeat'(first|refine gD ?_|(conv=>whnf);first|with_reducible (first|refine CB (aa q) ?_|refine CB (aa c) ?_|refine Bf.D (λa=>?_) (λa=>?_)))
     all_goals first
      | exact U0 (λz=>[B z]) ((oI j (by unfold gq;rw[ee c (by unfold MM;exact R0 ω)];simp)).symm)
      | ((conv=>whnf);refine CC (b+1) ⟨ω,cH c ak2 (by unfold MM;exact O0 ω)⟩ ω ?_;(exact wB))
    ·have ae2:=gt ω ak2
     have g:br m (i+1)=br m i+((nth m.Buffers i).length+(nth m.Inbox i).length):=rfl;have d:br m (i+1)=br m i+(nth m.Buffers i).length+(nth m.Inbox i).length:=by rw[g];omega
     repeat'(first|refine gD ?_|(conv=>whnf);first|with_reducible (first|refine CB (aa l) ?_|refine CB (aa q) ?_))
     ((conv=>whnf);refine CC (i+1) ⟨ω,bM p (by unfold gq;rw[F,ae2];rfl),ω,ω⟩ ω ?_)
     rw[d];exact wB
  ·obtain rfl:i=m.Buffers.length:=ω
   repeat'(first|refine gD ?_|fail)
   exact U0 (λz=>[B z]) ((vt n p).symm)
 ·refine fO 92 [(19,15,[75,76,77,78,79,80,81,82,83,84,85,86,87,88,89])] Tryz.func206 rfl ?_
  repeat'(first|refine gO ?_|(conv=>whnf);first|with_reducible (first|refine Bf.D (λa=>?_) (λa=>?_)|refine Bf.N (λa=>?_) (λa=>?_))|refine C7 (aE _ 1 4) ?_)
  all_goals first
   | exact U0 (λz=>[B z]) ((vF n).symm)
   |(exfalso;omega)
theorem t6(m:aI)(g:aI.sml m):ao Tryz.prog 70 false [.val (some 2) (aI.enc .imm m)] .one [B (bI m)]:=by
 have t:m.Buffers.length<=1048576:=g.1.1;have u:m.Inbox.length<=1048576:=g.2.1;by_cases n:1<=m.Buffers.length/\m.Buffers.length<=4/\m.Inbox.length=m.Buffers.length
 ·refine fO 82 [(20,15,[64,65,66,67,68,69,70,71,72,73,74,75,76,77,78])] Tryz.func70 rfl ?_
  repeat'(first|refine gA ?_|(conv=>whnf);first|with_reducible (first|refine Bf.D (λa=>?_) (λa=>?_)|refine Bf.N (λa=>?_) (λa=>?_))|refine C7 (aO _ 1 4) ?_)
  (conv=>whnf)
  refine CE (ι:=Nat) (λi=>[(1,.hold .box (aI.enc .imm m)),(3,.hold .one [I (m.Buffers.length)]),(4,.hold .one [I (br m i)]),(25,.hold .one [I (m.Buffers.length)]),(26,.hold .one [I ((i:Nat):Int)])]) (λi=>i<=m.Buffers.length/\cK i (gq m)=true/\0<=br m i/\br m i<=2097152*i) (λi=>m.Buffers.length - i) (0) ?_ (⟨T0 _,rfl,by simp[br],by simp[br]⟩) λi o=>?_
  ·exact wB
  obtain⟨o,p,F,G⟩:=o;by_cases h:i<m.Buffers.length
  ·have j:=ah h
   have l:=ah (xs:=m.Inbox) (i:=i) ω;have w:(nth m.Buffers i).length<=1048576:=(g.1.2 _ (am h)).1;have y:(nth m.Inbox i).length<=1048576:=g.2.2 _ (am ω)
   repeat'(first|refine gD ?_|(conv=>whnf);first|with_reducible refine CB (aa j) ?_)
   (conv=>whnf)
   refine CE (ι:=Nat) (λk=>[(1,.hold .box (aI.enc .imm m)),(3,.hold .one [I (m.Buffers.length)]),(4,.hold .one [I (br m i)]),(5,.hold .one [I ((i:Nat):Int)]),(25,.hold .one [I (m.Buffers.length)]),(26,.hold .one [I ((i:Nat):Int)]),(33,.hold .one (cz .imm (nth m.Buffers i))),(34,.hold .one [I ((nth m.Buffers i).length)]),(35,.hold .one [I ((k:Nat):Int)])]) (λk=>k<=(nth m.Buffers i).length/\((nth m.Buffers i).take k).all (ml m.Buffers.length)=true) (λk=>(nth m.Buffers i).length - k) (0) ?_ (⟨T0 _,rfl⟩) λk q=>?_
   ·exact wB
   obtain⟨q,r⟩:=q;by_cases C:k<(nth m.Buffers i).length
   ·have c:=ah C
    repeat'(first|refine gD ?_|(conv=>whnf);first|with_reducible (first|refine CB (aa j) ?_|refine CB (aa c) ?_|refine Bf.D (λa=>?_) (λa=>?_))|refine C7 (aO _ 0 _) ?_)
    all_goals first
     | exact U0 (λz=>[B z]) ((oI h (by unfold gq;rw[ee c (by unfold ml;exact R0 ω)];rfl)).symm)
     | ((conv=>whnf);refine CC (k+1) ⟨ω,cH c r (by unfold ml;exact O0 ω)⟩ ω ?_;(exact wB))
   ·have E:=gt ω r
    repeat'(first|refine gD ?_|(conv=>whnf);first|with_reducible (first|refine CB (aa j) ?_|refine CB (aa l) ?_))
    (conv=>whnf)
    refine CE (ι:=Nat) (λb=>[(1,.hold .box (aI.enc .imm m)),(3,.hold .one [I (m.Buffers.length)]),(4,.hold .one [I (br m i)]),(5,.hold .one [I ((i:Nat):Int)]),(25,.hold .one [I (m.Buffers.length)]),(26,.hold .one [I ((i:Nat):Int)]),(55,.hold .one (aD .imm (nth m.Inbox i))),(56,.hold .one [I ((nth m.Inbox i).length)]),(57,.hold .one [I ((b:Nat):Int)])]) (λb=>b<=(nth m.Inbox i).length/\((nth m.Inbox i).take b).all MM=true) (λb=>(nth m.Inbox i).length - b) (0) ?_ (⟨T0 _,rfl⟩) λb d=>?_
    ·exact wB
    obtain⟨d,ak2⟩:=d;by_cases lk2:b<(nth m.Inbox i).length
    ·have c:=ah lk2
     repeat'(first|refine gD ?_|(conv=>whnf);first|with_reducible (first|refine CB (aa l) ?_|refine CB (aa c) ?_|refine Bf.D (λa=>?_) (λa=>?_)))
     all_goals first
      | exact U0 (λz=>[B z]) ((oI h (by unfold gq;rw[ee c (by unfold MM;exact R0 ω)];simp)).symm)
      | ((conv=>whnf);refine CC (b+1) ⟨ω,cH c ak2 (by unfold MM;exact O0 ω)⟩ ω ?_;(exact wB))
    ·have ae2:=gt ω ak2
     have e:br m (i+1)=br m i+((nth m.Buffers i).length+(nth m.Inbox i).length):=rfl
     repeat'(first|refine gD ?_|(conv=>whnf);first|with_reducible (first|refine CB (aa j) ?_|refine CB (aa l) ?_))
     ((conv=>whnf);refine CC (i+1) ⟨ω,bM p (by unfold gq;rw[E,ae2];rfl),ω,ω⟩ ω ?_)
     rw[e];exact wB
  ·obtain rfl:i=m.Buffers.length:=ω
   repeat'(first|refine gD ?_|fail)
   exact U0 (λz=>[B z]) ((vt n p).symm)
 ·refine fO 82 [(20,15,[64,65,66,67,68,69,70,71,72,73,74,75,76,77,78])] Tryz.func70 rfl ?_
  repeat'(first|refine gO ?_|(conv=>whnf);first|with_reducible (first|refine Bf.D (λa=>?_) (λa=>?_)|refine Bf.N (λa=>?_) (λa=>?_))|refine C7 (aO _ 1 4) ?_)
  all_goals first
   | exact U0 (λz=>[B z]) ((vF n).symm)
   |(exfalso;omega)
theorem yu{s:au}{a:Int}(h:cF s a=false):S2 (iy s a)=[I (-1),I (-1)]:=by
 unfold iy;rw[h];rfl
theorem vr{s:au}{a:Int}(h:cF s a=true):S2 (iy s a)=[I ((a - 16*s.Page) / csz s.Class),I ((a - 16*s.Page) % csz s.Class)]:=by
 unfold iy;rw[h];rfl
theorem qH{s:au}{a:Int}(h:cF s a=true):bg s=true/\0<=(a - 16*s.Page) / csz s.Class/\(a - 16*s.Page) / csz s.Class<=15:=by
 unfold cF at h;simp only[I0,C0]at h;have b:=aF h.1;refine⟨h.1,?_⟩;rcases cx ⟨b.2.2.1,b.2.2.2⟩ with e|e|e|e<;>rw[e]<;>omega
theorem mc{sp:List au}{la:List ax}{a:Int}{i:Nat}(b:i<sp.length)(h:cF (nth sp i) a=true)(c:∀(j:Nat)(z:au),j<i->sp[j]? = some z->cF z a=false):denotes sp la a=ns i (nth sp i) a:=by
 unfold denotes;rw[uK (pr:=(cF · a)) (ah b) h c]
theorem kR{sp:List au}{la:List ax}{a:Int}{i n:Nat}(b:sp.length<=n)(c:∀(j:Nat)(z:au),j<n->sp[j]? = some z->cF z a=false)(d:i<la.length)(h:b9 (nth la i) a=true)(e:∀(j:Nat)(z:ax),j<i->la[j]? = some z->b9 z a=false) :
  denotes sp la a = ⟨3,i,0,a - 16*(nth la i).Page⟩:=by
 unfold denotes;rw[vS (pr:=(cF · a)) b c,uK (pr:=(b9 · a)) (ah d) h e]
theorem wz{sp:List au}{la:List ax}{a:Int}{n k:Nat}(b:sp.length<=n)(c:∀(j:Nat)(z:au),j<n->sp[j]? = some z->cF z a=false)(d:la.length<=k)(e:∀(j:Nat)(z:ax),j<k->la[j]? = some z->b9 z a=false):denotes sp la a = ⟨0,0,0,0⟩:=by
 unfold denotes;rw[vS (pr:=(cF · a)) b c,vS (pr:=(b9 · a)) d e]
theorem mD(sp:List au)(la:List ax)(a:Int)(e:dy sp)(g:dx la)(h:bj sp la=true)(C:lQ a):ao Tryz.prog 275 false [.val none (cr .imm sp),.val none (bQ .imm la),.val none [I a]] .agg (iM.enc .own (denotes sp la a)):=by
 have E:=e.1;have F:=g.1;have q:=kT sp la e g;rw[h]at q;refine fO 67 [] Tryz.func275 rfl ?_ (.inr (iM.enc_fr _))
 repeat'(first|refine gO ?_|(conv=>whnf);first|refine C7 q ?_)
 (conv=>whnf)
 refine CE (ι:=Nat) (λi=>[(0,.hold .one (cr .imm sp)),(1,.hold .one (bQ .imm la)),(2,.hold .one [I (a)]),(6,.hold .box ([I 0,I 0,I 0,I 0])),(7,.hold .one [I ((i:Nat):Int)])]) (λi=>i<=sp.length/\∀(j:Nat)(z:au),j<i->sp[j]? = some z->cF z a=false) (λi=>sp.length - i) (0) ?_ (⟨T0 _,λj z G=>ω⟩) λi r=>?_
 ·exact wB
 obtain⟨r,l⟩:=r;by_cases t:i<sp.length
 ·have d:=ah t
  have c:=t7 (nth sp i) a C;cases b:cF (nth sp i) a with
  | false=>
   rw[yu b]at c
   repeat'(first|refine gD ?_|(conv=>whnf);first|with_reducible (first|refine CB (aa d) ?_|refine Bf.D (λo=>?_) (λo=>?_))|refine C7 c ?_)
   ((conv=>whnf);refine CC (i+1) ⟨ω,dl (pr:=(cF · a)) d b l⟩ ω ?_;(exact wB))
  | true=>
   rw[vr b]at c;obtain⟨H,J,K⟩:=qH b;have u:=ik (nth sp i).Bits ((a - 16*(nth sp i).Page) / csz (nth sp i).Class) (fe H).2;cases w:aX (nth sp i).Bits ((a - 16*(nth sp i).Page) / csz (nth sp i).Class)<;>rw[w]at u
   all_goals
    repeat'(first|refine gD ?_|(conv=>whnf);first|with_reducible (first|refine CB (aa d) ?_|refine Bf.D (λo=>?_) (λo=>?_))|refine C7 c ?_|refine C7 u ?_)
    all_goals(rw[mc t b l];unfold ns;rw[w];rfl)
 ·repeat'(first|refine gD ?_|fail)
  (conv=>whnf)
  refine CE (ι:=Nat) (λk=>[(1,.hold .one (bQ .imm la)),(2,.hold .one [I (a)]),(6,.hold .box ([I 0,I 0,I 0,I 0])),(11,.hold .one [I ((k:Nat):Int)])]) (λk=>k<=la.length/\∀(j:Nat)(z:ax),j<k->la[j]? = some z->b9 z a=false) (λk=>la.length - k) (0) ?_ (⟨T0 _,λj z G=>ω⟩) λk y=>?_
  ·exact wB
  obtain⟨y,p⟩:=y;by_cases B:k<la.length
  ·have d:=ah B
   have c:=oZ (nth la k) a;cases b:b9 (nth la k) a<;>rw[b]at c
   ·repeat'(first|refine gD ?_|(conv=>whnf);first|with_reducible refine CB (aa d) ?_|refine C7 c ?_)
    ((conv=>whnf);refine CC (k+1) ⟨ω,dl (pr:=(b9 · a)) d b p⟩ ω ?_;(exact wB))
   ·repeat'(first|refine gD ?_|(conv=>whnf);first|with_reducible refine CB (aa d) ?_|refine C7 c ?_|refine C7 (sE (nth la k) a b) ?_)
    rw[kR (n:=i) ω l B b p];rfl
  ·repeat'(first|refine gD ?_|fail)
   rw[wz (n:=i) (k:=k) ω l ω p];rfl
theorem jE(sp:List au)(la:List ax)(a:Int)(g:dy sp)(h:dx la):ao Tryz.prog 91 false [.val none (cr .imm sp),.val none (bQ .imm la),.val none [I a]] .agg (iM.enc .own (denotes sp la a)):=by
 have y:=g.1;have B:=h.1;refine fO 56 [] Tryz.func91 rfl ?_ (.inr (iM.enc_fr _))
 repeat'(first|refine gO ?_|fail)
 (conv=>whnf)
 refine CE (ι:=Nat) (λi=>[(1,.hold .one (bQ .imm la)),(2,.hold .one [I (a)]),(6,.hold .box ([I 0,I 0,I 0,I 0])),(14,.hold .one (cr .imm sp)),(15,.hold .one [I (sp.length)]),(16,.hold .one [I ((i:Nat):Int)])]) (λi=>i<=sp.length/\∀(j:Nat)(z:au),j<i->sp[j]? = some z->cF z a=false) (λi=>sp.length - i) (0) ?_ (⟨T0 _,λj z C=>ω⟩) λi p=>?_
 ·exact wB
 obtain⟨p,e⟩:=p;by_cases q:i<sp.length
 ·have d:=ah q
  have c:=DT (nth sp i) a;cases b:cF (nth sp i) a with
  | false=>
   rw[yu b]at c
   repeat'(first|refine gD ?_|(conv=>whnf);first|with_reducible (first|refine CB (aa d) ?_|refine Bf.D (λl=>?_) (λl=>?_))|refine C7 c ?_)
   ((conv=>whnf);refine CC (i+1) ⟨ω,dl (pr:=(cF · a)) d b e⟩ ω ?_;(exact wB))
  | true=>
   rw[vr b]at c;obtain⟨E,F,G⟩:=qH b;have r:=m8 (nth sp i).Bits ((a - 16*(nth sp i).Page) / csz (nth sp i).Class) (fe E).2;cases t:aX (nth sp i).Bits ((a - 16*(nth sp i).Page) / csz (nth sp i).Class)<;>rw[t]at r
   all_goals
    repeat'(first|refine gD ?_|(conv=>whnf);first|with_reducible (first|refine CB (aa d) ?_|refine Bf.D (λl=>?_) (λl=>?_))|refine C7 c ?_|refine C7 r ?_)
    all_goals(rw[mc q b e];unfold ns;rw[t];rfl)
 ·repeat'(first|refine gD ?_|fail)
  (conv=>whnf)
  refine CE (ι:=Nat) (λk=>[(2,.hold .one [I (a)]),(6,.hold .box ([I 0,I 0,I 0,I 0])),(39,.hold .one (bQ .imm la)),(40,.hold .one [I (la.length)]),(41,.hold .one [I ((k:Nat):Int)])]) (λk=>k<=la.length/\∀(j:Nat)(z:ax),j<k->la[j]? = some z->b9 z a=false) (λk=>la.length - k) (0) ?_ (⟨T0 _,λj z C=>ω⟩) λk u=>?_
  ·exact wB
  obtain⟨u,o⟩:=u;by_cases w:k<la.length
  ·have d:=ah w
   have c:=pf (nth la k) a;cases b:b9 (nth la k) a<;>rw[b]at c
   ·repeat'(first|refine gD ?_|(conv=>whnf);first|with_reducible refine CB (aa d) ?_|refine C7 c ?_)
    ((conv=>whnf);refine CC (k+1) ⟨ω,dl (pr:=(b9 · a)) d b o⟩ ω ?_;(exact wB))
   ·repeat'(first|refine gD ?_|(conv=>whnf);first|with_reducible refine CB (aa d) ?_|refine C7 c ?_|refine C7 (rS (nth la k) a b) ?_)
    rw[kR (n:=i) ω e w b o];rfl
  ·repeat'(first|refine gD ?_|fail)
   rw[wz (n:=i) (k:=k) ω e ω o];rfl
section
variable{α:Type}
def yR(ag:Option Nat)(e:α->List C)(pr:α->Bool)(xs:List α):List (Option Nat × List C)->Kd->List C->Prop:=λL k rcs=>∃x,x∈xs/\L=[(ag,e x)]/\k=.one/\rcs=[B (pr x)]
end
theorem ug(xs:List ay)(pr:ay->Bool)(n:xs.length<=9223372036854775807):ao Tryz.prog 311 false [.val none (b8 .imm xs),.fn (nZ Tryz.prog (yR (some 2) (ay.enc .imm) pr xs))] .one [I (de pr xs)]:=by
 refine fO 19 [] Tryz.func311 rfl ?_
 repeat'(first|refine gO ?_|fail)
 (conv=>whnf)
 refine CE (ι:=Nat) (λi=>[(0,.hold .one (b8 .imm xs)),(1,.fv (nZ Tryz.prog (yR (some 2) (ay.enc .imm) pr xs))),(7,.hold .one [I xs.length]),(8,.hold .one [I (i:Nat)])]) (λi=>i<=xs.length/\∀(j:Nat)(z:ay),j<i->xs[j]? = some z->pr z=false) (λi=>xs.length - i) 0 ?_ ⟨T0 _,λj z h=>ω⟩ λi e=>?_
 ·exact wB
 ·obtain⟨e,b⟩:=e
  by_cases c:i<xs.length
  ·obtain⟨y,a⟩ : ∃y,xs[i]? = some y:=⟨_,Z1 c⟩
   repeat'(first|refine gD ?_|(conv=>whnf);first|with_reducible refine CB (aa a) ?_|refine Fv.mk (k:=.one) (rcs:=[B (pr y)]) ⟨y,U1 a,rfl,rfl,rfl⟩ ?_|refine Bf.P (λl=>?_) (λl=>?_))
   ·exact U0 (λz=>[I z]) (dM a ‹_› b).symm
   ·(conv=>whnf)
    refine CC (i+1) ⟨ω,λj z h d=>?_⟩ ω ?_
    ·rcases Nat.lt_or_ge j i with g|g
     ·exact b j z g d
     ·obtain rfl:j=i:=ω
      rw[a]at d;cases d;assumption
    ·exact wB
  ·repeat'(first|refine gD ?_|fail)
   exact U0 (λz=>[I z]) (fX ω b).symm
theorem qe(xs:List ay)(pr:ay->Bool)(a:xs.length<=9223372036854775807):ao Tryz.prog 245 false [.val none (b8 .imm xs),.fn (nZ Tryz.prog (yR (some 2) (ay.enc .imm) pr xs))] .one [B (xs.any pr)]:=by
 refine fO 9 [] Tryz.func245 rfl ?_
 repeat'(first|refine gO ?_|(conv=>whnf);first|refine C7 (ug xs pr a) ?_)
 exact U0 (λz=>[B z]) (lD pr xs)
theorem te(r:ay)(page:Int):ao Tryz.prog 246 false [.val (some 2) (ay.enc .imm r),.ptr [I page]] .one [B (pI page r)]:=by
 refine fO 17 [] Tryz.func246 rfl ?_
 repeat'(first|refine gO ?_|(conv=>whnf);first|with_reducible refine Bf.D (λa=>?_) (λa=>?_)|refine CJ rfl ?_)
 all_goals exact U0 (λz=>[B z]) (by unfold pI;first|(rw[O0 (by assumption:r.At<=page)];simp;done)|(rw[R0 (by assumption:¬r.At<=page)];rfl))
theorem yj(xs:List ay)(page:Int)(a:xs.length<=9223372036854775807):ao Tryz.prog 164 false [.val none (b8 .imm xs),.val none [I page]] .one [B (xs.any (pI page))]:=by
 refine fO 8 [] Tryz.func164 rfl ?_
 repeat'(first|refine gO ?_|(conv=>whnf);first|refine Cq.mk (yR (some 2) (ay.enc .imm) (pI page) xs) (te default page).has (λL k rcs b=>?_) ?_|refine C7 (qe xs (pI page) a) ?_)
 ·obtain⟨x,-,rfl,rfl,rfl⟩:=b
  exact te x page
 ·rfl
theorem uh(xs:List aL)(pr:aL->Bool)(g:xs.length<=9223372036854775807):ao Tryz.prog 323 false [.val none (ce .imm xs),.fn (nZ Tryz.prog (yR (some 3) (aL.enc .imm) pr xs))] .one [I (de pr xs)]:=by
 refine fO 19 [] Tryz.func323 rfl ?_
 repeat'(first|refine gO ?_|fail)
 (conv=>whnf)
 refine CE (ι:=Nat) (λi=>[(0,.hold .one (ce .imm xs)),(1,.fv (nZ Tryz.prog (yR (some 3) (aL.enc .imm) pr xs))),(7,.hold .one [I xs.length]),(8,.hold .one [I (i:Nat)])]) (λi=>i<=xs.length/\∀(j:Nat)(z:aL),j<i->xs[j]? = some z->pr z=false) (λi=>xs.length - i) 0 ?_ ⟨T0 _,λj z h=>ω⟩ λi d=>?_
 ·exact wB
 ·obtain⟨d,b⟩:=d
  by_cases c:i<xs.length
  ·obtain⟨y,a⟩ : ∃y,xs[i]? = some y:=⟨_,Z1 c⟩
   repeat'(first|refine gD ?_|(conv=>whnf);first|with_reducible refine CB (aa a) ?_|refine Fv.mk (k:=.one) (rcs:=[B (pr y)]) ⟨y,U1 a,rfl,rfl,rfl⟩ ?_|refine Bf.P (λe=>?_) (λe=>?_))
   ·exact U0 (λz=>[I z]) (dM a ‹_› b).symm
   ·(conv=>whnf)
    refine CC (i+1) ⟨ω,dl a (by assumption) b⟩ ω ?_;exact wB
  ·repeat'(first|refine gD ?_|fail)
   exact U0 (λz=>[I z]) (fX ω b).symm
theorem qa(xs:List aL)(pr:aL->Bool)(a:xs.length<=9223372036854775807):ao Tryz.prog 252 false [.val none (ce .imm xs),.fn (nZ Tryz.prog (yR (some 3) (aL.enc .imm) pr xs))] .one [B (xs.any pr)]:=by
 refine fO 9 [] Tryz.func252 rfl ?_
 repeat'(first|refine gO ?_|(conv=>whnf);first|refine C7 (uh xs pr a) ?_)
 exact U0 (λz=>[B z]) (lD pr xs)
theorem vI(xs:List au)(pr:au->Bool)(g:xs.length<=9223372036854775807):ao Tryz.prog 99 false [.val none (cr .imm xs),.fn (nZ Tryz.prog (yR (some 3) (au.enc .imm) pr xs))] .one [I (de pr xs)]:=by
 refine fO 19 [] Tryz.func99 rfl ?_
 repeat'(first|refine gO ?_|fail)
 (conv=>whnf)
 refine CE (ι:=Nat) (λi=>[(0,.hold .one (cr .imm xs)),(1,.fv (nZ Tryz.prog (yR (some 3) (au.enc .imm) pr xs))),(7,.hold .one [I xs.length]),(8,.hold .one [I (i:Nat)])]) (λi=>i<=xs.length/\∀(j:Nat)(z:au),j<i->xs[j]? = some z->pr z=false) (λi=>xs.length - i) 0 ?_ ⟨T0 _,λj z h=>ω⟩ λi d=>?_
 ·exact wB
 ·obtain⟨d,b⟩:=d
  by_cases c:i<xs.length
  ·obtain⟨y,a⟩ : ∃y,xs[i]? = some y:=⟨_,Z1 c⟩
   repeat'(first|refine gD ?_|(conv=>whnf);first|with_reducible refine CB (aa a) ?_|refine Fv.mk (k:=.one) (rcs:=[B (pr y)]) ⟨y,U1 a,rfl,rfl,rfl⟩ ?_|refine Bf.P (λe=>?_) (λe=>?_))
   ·exact U0 (λz=>[I z]) (dM a ‹_› b).symm
   ·(conv=>whnf)
    refine CC (i+1) ⟨ω,dl a (by assumption) b⟩ ω ?_;exact wB
  ·repeat'(first|refine gD ?_|fail)
   exact U0 (λz=>[I z]) (fX ω b).symm
theorem pq(xs:List bm)(pr:bm->Bool)(g:xs.length<=9223372036854775807):ao Tryz.prog 101 false [.val none (kh .imm xs),.fn (nZ Tryz.prog (yR (some 4) (bm.enc .imm) pr xs))] .one [I (de pr xs)]:=by
 refine fO 19 [] Tryz.func101 rfl ?_
 repeat'(first|refine gO ?_|fail)
 (conv=>whnf)
 refine CE (ι:=Nat) (λi=>[(0,.hold .one (kh .imm xs)),(1,.fv (nZ Tryz.prog (yR (some 4) (bm.enc .imm) pr xs))),(7,.hold .one [I xs.length]),(8,.hold .one [I (i:Nat)])]) (λi=>i<=xs.length/\∀(j:Nat)(z:bm),j<i->xs[j]? = some z->pr z=false) (λi=>xs.length - i) 0 ?_ ⟨T0 _,λj z h=>ω⟩ λi d=>?_
 ·exact wB
 ·obtain⟨d,b⟩:=d
  by_cases c:i<xs.length
  ·obtain⟨y,a⟩ : ∃y,xs[i]? = some y:=⟨_,Z1 c⟩
   repeat'(first|refine gD ?_|(conv=>whnf);first|with_reducible refine CB (aa a) ?_|refine Fv.mk (k:=.one) (rcs:=[B (pr y)]) ⟨y,U1 a,rfl,rfl,rfl⟩ ?_|refine Bf.P (λe=>?_) (λe=>?_))
   ·exact U0 (λz=>[I z]) (dM a ‹_› b).symm
   ·(conv=>whnf)
    refine CC (i+1) ⟨ω,dl a (by assumption) b⟩ ω ?_;exact wB
  ·repeat'(first|refine gD ?_|fail)
   exact U0 (λz=>[I z]) (fX ω b).symm
theorem sr(xs:List bm)(pr:bm->Bool)(a:xs.length<=9223372036854775807):ao Tryz.prog 168 false [.val none (kh .imm xs),.fn (nZ Tryz.prog (yR (some 4) (bm.enc .imm) pr xs))] .one [B (xs.any pr)]:=by
 refine fO 9 [] Tryz.func168 rfl ?_
 repeat'(first|refine gO ?_|(conv=>whnf);first|refine C7 (pq xs pr a) ?_)
 exact U0 (λz=>[B z]) (lD pr xs)
theorem Ma{k:Nat}(a:k<=3):IntKind.i64.wrap (1*2 ^ min ((k:Nat):Int).toNat IntKind.i64.bits)=csz (k:Nat):=by
 obtain rfl|rfl|rfl|rfl:k=0\/k=1\/k=2\/k=3:=ω
 all_goals decide
theorem MY{k:Nat}(a:k<=100):IntKind.u64.wrap (k:Nat)=(k:Nat):=by
 unfold IntKind.wrap;simp[IntKind.signed,IntKind.bits];omega
theorem zr{k:Nat}{z:Int}(a:k<=3)(h:csz (k:Nat)<z)(b:z<=8):k<=2:=by
 have c:csz ((3:Nat):Int)=8:=by decide
 obtain rfl|rfl|rfl|rfl:k=0\/k=1\/k=2\/k=3:=ω
 all_goals omega
theorem uN{k:Nat}{z:Int}(g:k<=3)(h1:1<=z)(a:k=0\/csz ((k - 1:Nat):Int)<z)(b:¬csz (k:Nat)<z):aM z=(k:Nat):=by
 have c:csz ((0:Nat):Int)=1:=by decide
 have d:csz ((1:Nat):Int)=2:=by decide
 have e:csz ((2:Nat):Int)=4:=by decide
 have f:csz ((3:Nat):Int)=8:=by decide
 unfold aM;obtain rfl|rfl|rfl|rfl:k=0\/k=1\/k=2\/k=3:=ω
 all_goals simp only[Nat.reduceSub,c,d,e,f]at a b
 all_goals(repeat' split)<;>omega
theorem jz(z:Int):ao Tryz.prog 233 false [.val none [I z]] .one [I (aM z)]:=by
 refine fO 15 [] Tryz.func233 rfl ?_;by_cases c:1<=z/\z<=8
 ·repeat'(first|refine gD ?_|(conv=>whnf);first|with_reducible refine Bf.D (λb=>?_) (λb=>?_)|refine C7 (aE z 1 8) ?_)
  (conv=>whnf)
  refine CE (ι:=Nat) (λk=>[(0,.hold .one [I (z)]),(3,.hold .one [I ((k:Nat):Int)])]) (λk=>k<=3/\(k=0\/csz ((k - 1:Nat):Int)<z)) (λk=>4 - k) (0) ?_ (⟨ω,.inl rfl⟩) λk a=>?_
  ·exact wB
  obtain⟨a,d⟩:=a
  repeat'(first|refine gO ?_|(conv=>whnf);first|with_reducible refine Bf.D (λb=>?_) (λb=>?_)|refine CJ (MY ω) ?_|refine CJ (Ma a) ?_|refine CL ω ?_)
  all_goals first
   | exact U0 (λz=>[I z]) (uN a c.1 d (by assumption)).symm
   | ((conv=>whnf);refine CC (k+1) ⟨by have:=zr a (by assumption) c.2;omega,.inr (by simpa using (by assumption:csz (k:Nat)<z))⟩ (by have:=zr a (by assumption) c.2;omega) ?_;(exact wB))
 ·repeat'(first|refine gD ?_|(conv=>whnf);first|with_reducible refine Bf.D (λb=>?_) (λb=>?_)|refine C7 (aE z 1 8) ?_)
  all_goals exact U0 (λz=>[I z]) (by unfold aM;(repeat' split)<;>omega)
theorem qF(z:Int):ao Tryz.prog 88 false [.val none [I z]] .one [I (aM z)]:=by
 refine fO 14 [] Tryz.func88 rfl ?_;by_cases c:1<=z/\z<=8
 ·repeat'(first|refine gD ?_|(conv=>whnf);first|with_reducible refine Bf.D (λa=>?_) (λa=>?_)|refine C7 (aO z 1 8) ?_)
  (conv=>whnf)
  refine CE (ι:=Nat) (λk=>[(0,.hold .one [I (z)]),(3,.hold .one [I ((k:Nat):Int)])]) (λk=>k<=3/\(k=0\/csz ((k - 1:Nat):Int)<z)) (λk=>4 - k) (0) ?_ (⟨ω,.inl rfl⟩) λk b=>?_
  ·exact wB
  obtain⟨b,d⟩:=b
  repeat'(first|refine gO ?_|(conv=>whnf);first|with_reducible refine Bf.D (λa=>?_) (λa=>?_)|refine C7 (dP _) ?_)
  all_goals first
   | exact U0 (λz=>[I z]) (uN b c.1 d (by assumption)).symm
   | ((conv=>whnf);refine CC (k+1) ⟨by have:=zr b (by assumption) c.2;omega,.inr (by simpa using (by assumption:csz (k:Nat)<z))⟩ (by have:=zr b (by assumption) c.2;omega) ?_;(exact wB))
 ·repeat'(first|refine gD ?_|(conv=>whnf);first|with_reducible refine Bf.D (λa=>?_) (λa=>?_)|refine C7 (aO z 1 8) ?_)
  all_goals exact U0 (λz=>[I z]) (by unfold aM;(repeat' split)<;>omega)
theorem rz(q:bz)(a:Int)(e:bz.sml q):ao Tryz.prog 272 false [.val (some 2) (bz.enc .imm q),.val none [I a]] .one [B (q.Lst.any (d5 a))]:=by
 have j:q.Lst.length<=1048576:=e.1;refine fO 21 [] Tryz.func272 rfl ?_
 repeat'(first|refine gO ?_|fail)
 (conv=>whnf)
 refine CE (ι:=Nat) (λi=>[(1,.hold .one [I (a)]),(2,.hold .box (bz.enc .imm q)),(5,.hold .one [I ((i:Nat):Int)])]) (λi=>i<=q.Lst.length/\(q.Lst.take i).any (d5 a)=false) (λi=>q.Lst.length - i) (0) ?_ (⟨T0 _,rfl⟩) λi c=>?_
 ·exact wB
 obtain⟨c,d⟩:=c;by_cases g:i<q.Lst.length
 ·have b:=ah g
  repeat'(first|refine gD ?_|(conv=>whnf);first|with_reducible (first|refine CB (aa b) ?_|refine Bf.E (λh=>?_) (λh=>?_)))
  all_goals first
   | exact U0 (λz=>[B z]) ((AS b (O0 (by assumption))).symm)
   | ((conv=>whnf);refine CC (i+1) ⟨ω,wK b d (R0 (by assumption))⟩ ω ?_;(exact wB))
 ·repeat'(first|refine gD ?_|fail)
  exact U0 (λz=>[B z]) ((Gv ω d).symm)
theorem i9(xs:List aL)(i:Nat):quarCells xs (i+1)=quarCells xs i+csz (nth xs i).Class:=rfl
theorem J2(k:Int):0<=csz k/\csz k<=8:=by
 by_cases h:0<=k/\k<=3
 ·rcases cx h with e|e|e|e<;>rw[e]<;>decide
 ·unfold csz;rw[C8 h];decide
theorem tI(xs:List aL)(c:kv xs):ao Tryz.prog 273 false [.val none (ce .imm xs)] .one [I (quarCells xs xs.length)]:=by
 have g:=c.1;refine fO 20 [] Tryz.func273 rfl ?_
 repeat'(first|refine gO ?_|fail)
 (conv=>whnf)
 refine CE (ι:=Nat) (λi=>[(0,.hold .one (ce .imm xs)),(3,.hold .one [I (quarCells xs i)]),(4,.hold .one [I ((i:Nat):Int)])]) (λi=>i<=xs.length/\0<=quarCells xs i/\quarCells xs i<=8*i) (λi=>xs.length - i) (0) ?_ (⟨T0 _,by simp[quarCells],by simp[quarCells]⟩) λi b=>?_
 ·exact wB
 obtain⟨b,h,j⟩:=b;by_cases d:i<xs.length
 ·have e:=ah d
  have k:=J2 (nth xs i).Class;have a:=i9 xs i
  repeat'(first|refine gD ?_|(conv=>whnf);first|with_reducible refine CB (aa e) ?_|refine C7 (d6 _) ?_)
  ((conv=>whnf);refine CC (i+1) ⟨ω,ω,ω⟩ ω ?_)
  rw[a];exact wB
 ·repeat'(first|refine gD ?_|fail)
  obtain rfl:i=xs.length:=ω
  rfl
theorem n9(xs:List aL)(c:kv xs):ao Tryz.prog 87 false [.val none (ce .imm xs)] .one [I (quarCells xs xs.length)]:=by
 have g:=c.1;refine fO 19 [] Tryz.func87 rfl ?_
 repeat'(first|refine gO ?_|fail)
 (conv=>whnf)
 refine CE (ι:=Nat) (λi=>[(3,.hold .one [I (quarCells xs i)]),(6,.hold .one (ce .imm xs)),(7,.hold .one [I (xs.length)]),(8,.hold .one [I ((i:Nat):Int)])]) (λi=>i<=xs.length/\0<=quarCells xs i/\quarCells xs i<=8*i) (λi=>xs.length - i) (0) ?_ (⟨T0 _,by simp[quarCells],by simp[quarCells]⟩) λi b=>?_
 ·exact wB
 obtain⟨b,h,j⟩:=b;by_cases d:i<xs.length
 ·have e:=ah d
  have k:=J2 (nth xs i).Class;have a:=i9 xs i
  repeat'(first|refine gD ?_|(conv=>whnf);first|with_reducible refine CB (aa e) ?_|refine C7 (dP _) ?_)
  ((conv=>whnf);refine CC (i+1) ⟨ω,ω,ω⟩ ω ?_)
  rw[a];exact wB
 ·repeat'(first|refine gD ?_|fail)
  obtain rfl:i=xs.length:=ω
  rfl
theorem yQ(a:aL):ao Tryz.prog 271 false [.val (some 3) (aL.enc .imm a)] .one [B (decide (0<=a.Class/\a.Class<=3/\0<=a.Addr/\0<=a.Since))]:=by
 refine fO 16 [] Tryz.func271 rfl ?_
 repeat'(first|refine gO ?_|(conv=>whnf);first|with_reducible refine Bf.D (λb=>?_) (λb=>?_)|refine C7 (aE _ 0 3) ?_)
 all_goals exact U0 (λz=>[B z]) ((by first|(symm;exact R0 ω)|exact decide_eq_decide.2 ω))
theorem Lk{xs:List aL}(a:kv xs)(i:Nat):kv (xs.take i):=⟨by have:=a.1;rw[O1];omega,λ_ _=>trivial⟩
theorem nX(q:bz)(a:bz.sml q):ao Tryz.prog 207 false [.val (some 2) (bz.enc .imm q)] .one [B (fw q)]:=by
 have l:q.Lst.length<=1048576:=a.1;refine fO 57 [(5,29,[17,18,19,20,21,22,23,24,25,26,27,28,29,30,31,32,33,34,35,36,37,38,39,40,41,42,43,44,45]),(7,11,[46,47,48,49,50,51,52,53,54,55,56])] Tryz.func207 rfl ?_
 repeat'(first|refine gO ?_|fail)
 (conv=>whnf)
 refine CE (ι:=Nat) (λi=>[(1,.hold .box (bz.enc .imm q)),(3,.hold .one [I ((i:Nat):Int)])]) (λi=>i<=q.Lst.length/\cK i (jL q.Lst)=true) (λi=>q.Lst.length - i) 0 ?_ ⟨T0 _,rfl⟩ λi e=>?_
 ·exact wB
 obtain⟨e,g⟩:=e;by_cases b:i<q.Lst.length
 ·have j:=ah b
  have h:=rz ⟨0,q.Lst.take i⟩ (nth q.Lst i).Addr (Lk a i);cases c:(q.Lst.take i).any (d5 (nth q.Lst i).Addr)<;>rw[show(bz.mk 0 (q.Lst.take i)).Lst.any (d5 (nth q.Lst i).Addr)=_ from c]at h
  all_goals
   repeat'(first|refine gD ?_|(conv=>whnf);first|with_reducible (first|refine CB (aa j) ?_|refine Bf.D (λd=>?_) (λd=>?_))|refine C7 (yQ _) ?_|refine CK ω (aa (fT ω b)) ?_|refine CT i rfl (by simp;omega) (λr k=>by obtain⟨z,-,rfl⟩:=Z3.1 k;rfl) (X3 ..) ?_|refine C7 h ?_)
   all_goals first
    | exact U0 (λz=>[B z]) ((by symm;unfold fw;rw[cj b (by unfold jL;first|(rw[c];simp;done)|(rw[R0 ω];rfl))];rfl))
    | ((conv=>whnf);refine CC (i+1) ⟨ω,bM g (by unfold jL;rw[c,O0 ω];rfl)⟩ ω ?_;(exact wB))
 ·obtain rfl:i=q.Lst.length:=ω
  repeat'(first|refine gD ?_|(conv=>whnf);first|with_reducible refine Bf.D (λd=>?_) (λd=>?_)|refine C7 (aE _ 0 500) ?_|refine C7 (tI q.Lst a) ?_)
  all_goals exact U0 (λz=>[B z]) ((by unfold fw;rw[g];simp only[Bool.true_and];first|(symm;exact R0 ω)|exact decide_eq_decide.2 ω))
theorem ta(b:aL)(a:Int):ao Tryz.prog 253 false [.val (some 3) (aL.enc .imm b),.ptr [I a]] .one [B (d5 a b)]:=by
 refine fO 8 [] Tryz.func253 rfl ?_
 repeat'(first|refine gO ?_|fail)
 exact U0 (λz=>[B z]) ((by unfold d5;rw[I4];simp))
theorem xJ(xs:List aL)(a:Int)(b:xs.length<=9223372036854775807):ao Tryz.prog 179 false [.val none (ce .imm xs),.val none [I a]] .one [B (xs.any (d5 a))]:=by
 refine fO 8 [] Tryz.func179 rfl ?_
 repeat'(first|refine gO ?_|(conv=>whnf);first|refine Cq.mk (yR (some 3) (aL.enc .imm) (d5 a) xs) (ta default a).has (λL k rcs c=>?_) ?_|refine C7 (qa xs (d5 a) b) ?_)
 ·obtain⟨y,-,rfl,rfl,rfl⟩:=c
  exact ta y a
 ·rfl
def k4(xs:List aL)(a:aL):Bool:=decide (0<=a.Class/\a.Class<=3/\0<=a.Addr/\0<=a.Since/\(xs.length=0\/(nth xs (xs.length - 1)).Since<=a.Since))&&!xs.any (d5 a.Addr)
theorem ri(xs:List aL)(b:aL)(g:xs.length<=1048576):ao Tryz.prog 166 false [.val none (ce .imm xs),.val (some 3) (aL.enc .imm b)] .one [B (k4 xs b)]:=by
 have c:=xJ xs b.Addr ω;cases d:xs.any (d5 b.Addr)<;>rw[d]at c
 ·by_cases h:xs.length=0
  ·refine fO 40 [(3,15,[25,26,27,28,29,30,31,32,33,34,35,36,37,38,39])] Tryz.func166 rfl ?_
   repeat'(first|refine gO ?_|(conv=>whnf);first|with_reducible (first|refine Bf.D (λa=>?_) (λa=>?_)|refine Bf.E (λa=>?_) (λa=>?_))|refine C7 (eC _) ?_|refine C7 c ?_)
   all_goals first
    | exact U0 (λz=>[B z]) ((by unfold k4;rw[d,Bool.not_false,Bool.and_true];first|(symm;exact R0 ω)|(symm;exact O0 ω)|exact decide_eq_decide.2 ω))
    |(exfalso;omega)
    |trace_state
  ·have e:xs[((xs.length:Int) - 1).toNat]? = some (nth xs (xs.length - 1)):=by rw[show((xs.length:Int) - 1).toNat=xs.length - 1 by omega];exact ah ω
   refine fO 40 [(3,15,[25,26,27,28,29,30,31,32,33,34,35,36,37,38,39])] Tryz.func166 rfl ?_
   repeat'(first|refine gO ?_|(conv=>whnf);first|with_reducible (first|refine Bf.D (λa=>?_) (λa=>?_)|refine Bf.E (λa=>?_) (λa=>?_))|refine C7 (eC _) ?_|refine C7 c ?_|refine CK ω (aa e) ?_)
   all_goals first
    | exact U0 (λz=>[B z]) ((by unfold k4;rw[d,Bool.not_false,Bool.and_true];first|(symm;exact R0 ω)|(symm;exact O0 ω)|exact decide_eq_decide.2 ω))
    |(exfalso;omega)
    |trace_state
 ·refine fO 40 [(3,15,[25,26,27,28,29,30,31,32,33,34,35,36,37,38,39])] Tryz.func166 rfl ?_
  repeat'(first|refine gO ?_|(conv=>whnf);first|with_reducible refine Bf.D (λa=>?_) (λa=>?_)|refine C7 (eC _) ?_|refine C7 c ?_)
  all_goals exact U0 (λz=>[B z]) ((by unfold k4;rw[d];simp))
theorem ED{xs:List aL}{i:Nat}(d:i<xs.length):k4 (xs.take i) (nth xs i)=jL xs i:=by
 unfold k4 jL;have a:(xs.take i).length=i:=by rw[O1];omega
 rw[a]
 congr 1
 refine decide_eq_decide.2 ?_;by_cases b:i=0
 ·subst b;simp
 ·have c:nth (xs.take i) (i - 1)=nth xs (i - 1):=by
   have:=ah (xs:=xs) (i:=i - 1) ω;exact bu (by rw[List.getElem?_take_of_lt ω];exact this)
  rw[c]
theorem tp(q:bz)(d:bz.sml q):ao Tryz.prog 71 false [.val (some 2) (bz.enc .imm q)] .one [B (fw q)]:=by
 have l:q.Lst.length<=1048576:=d.1;refine fO 32 [(4,7,[13,14,15,16,17,18,19]),(7,11,[21,22,23,24,25,26,27,28,29,30,31])] Tryz.func71 rfl ?_
 repeat'(first|refine gO ?_|fail)
 (conv=>whnf)
 refine CE (ι:=Nat) (λi=>[(1,.hold .box (bz.enc .imm q)),(6,.hold .one (ce .imm q.Lst)),(7,.hold .one [I (q.Lst.length)]),(8,.hold .one [I ((i:Nat):Int)])]) (λi=>i<=q.Lst.length/\cK i (jL q.Lst)=true) (λi=>q.Lst.length - i) 0 ?_ ⟨T0 _,rfl⟩ λi e=>?_
 ·exact wB
 obtain⟨e,g⟩:=e;by_cases a:i<q.Lst.length
 ·have h:=ah a
  have b:=ri (q.Lst.take i) (nth q.Lst i) (by rw[O1];omega);rw[ED a]at b;cases c:jL q.Lst i<;>rw[c]at b
  all_goals
   repeat'(first|refine gD ?_|(conv=>whnf);first|with_reducible refine CB (aa h) ?_|refine CT i rfl (by simp;omega) (λr j=>by obtain⟨z,-,rfl⟩:=Z3.1 j;rfl) (X3 ..) ?_|refine C7 b ?_)
   all_goals first
    | exact U0 (λz=>[B z]) ((by symm;unfold fw;rw[cj a c];rfl))
    | ((conv=>whnf);refine CC (i+1) ⟨ω,bM g c⟩ ω ?_;(exact wB))
 ·obtain rfl:i=q.Lst.length:=ω
  repeat'(first|refine gD ?_|(conv=>whnf);first|with_reducible refine Bf.D (λk=>?_) (λk=>?_)|refine C7 (aO _ 0 500) ?_|refine C7 (n9 q.Lst d) ?_)
  all_goals exact U0 (λz=>[B z]) ((by unfold fw;rw[g];simp only[Bool.true_and];first|(symm;exact R0 ω)|exact decide_eq_decide.2 ω))
def yb(h:ab):Prop:=aG.sml h.Kernel.Machine.Table
theorem gK(h:ab)(p:Int)(a:yb h):ao Tryz.prog 36 false [.val (some 24) (ab.enc .imm h),.val none [I p]] .one (aD .own (aT h p)):=by
 refine fO 23 [] Tryz.func36 rfl ?_ (.inr (bG _))
 repeat'((conv=>whnf);first|with_reducible (first|refine Lm ?_|refine Wm ω ?_|refine Bf.E (λb=>?_) (λb=>?_)|refine Bn ?_|refine jn.wk rfl ?_)|refine Bt ?_|refine Bu ?_|refine C7 (cT h.Kernel.Machine.Table p a) ?_|refine C7 (gl h.Kernel.Machine.Table _ a) ?_)
 all_goals(unfold aT;first|rw[C9 (by assumption)]|rw[C8 (by assumption)])
 all_goals exact⟨rfl,trivial⟩
theorem uf(h:ab)(p:Int)(a:yb h):ao Tryz.prog 26 false [.val (some 24) (ab.enc .imm h),.val none [I p]] .one (aD .own (aT h p)):=by
 refine fO 22 [] Tryz.func26 rfl ?_ (.inr (bG _))
 repeat'((conv=>whnf);first|with_reducible (first|refine Lm ?_|refine Wm ω ?_|refine Bf.E (λb=>?_) (λb=>?_)|refine Bn ?_|refine jn.wk rfl ?_)|refine Bt ?_|refine Bu ?_|refine C7 (gi h.Kernel.Machine.Table p a) ?_|refine C7 (jM h.Kernel.Machine.Table _ a) ?_)
 all_goals(unfold aT;first|rw[C9 (by assumption)]|rw[C8 (by assumption)])
 all_goals exact⟨rfl,trivial⟩
theorem tz(k:af)(p:Int)(a:aG.sml k.Machine.Table):ao Tryz.prog 163 false [.val (some 5) (af.enc .imm k),.val none [I p]] .one [B (decide ((ar k.Machine.Table p).Mode≠0))]:=by
 refine fO 12 [] Tryz.func163 rfl ?_
 repeat'(first|refine gO ?_|(conv=>whnf);first|refine C7 (gi k.Machine.Table p a) ?_)
 exact U0 (λz=>[B z]) ((by rw[I4];simp))
theorem nh(z:Int):ao Tryz.prog 75 false [.val none [I z]] .one [B (decide (0<=z/\z<=1073741823))]:=by
 refine fO 5 [] Tryz.func75 rfl ?_
 repeat'(first|refine gO ?_|(conv=>whnf);first|refine C7 (aO z 0 1073741823) ?_)
 rfl
theorem je(h:ab)(p:Int)(g:h.Spans.length<=1048576):ao Tryz.prog 39 false [.val (some 24) (ab.enc .imm h),.val none [I p]] .one [I (fV h p)]:=by
 refine fO 22 [] Tryz.func39 rfl ?_
 repeat'(first|refine gO ?_|fail)
 (conv=>whnf)
 refine CE (ι:=Nat) (λi=>[(1,.hold .one [I (p)]),(2,.hold .box (ab.enc .imm h)),(5,.hold .one [I ((i:Nat):Int)])]) (λi=>i<=h.Spans.length/\∀(j:Nat)(z:au),j<i->h.Spans[j]? = some z->jq p z=false) (λi=>h.Spans.length - i) (0) ?_ (⟨T0 _,λj z k=>ω⟩) λi c=>?_
 ·exact wB
 obtain⟨c,a⟩:=c;by_cases d:i<h.Spans.length
 ·have b:=ah d
  repeat'(first|refine gD ?_|(conv=>whnf);first|with_reducible (first|refine CB (aa b) ?_|refine Bf.E (λe=>?_) (λe=>?_)))
  all_goals first
   | exact U0 (λz=>[I z]) (dM b (O0 (by assumption)) a).symm
   | ((conv=>whnf);refine CC (i+1) ⟨ω,dl b (R0 (by assumption)) a⟩ ω ?_;(exact wB))
 ·repeat'(first|refine gD ?_|fail)
  exact U0 (λz=>[I z]) (fX ω a).symm
theorem yN(s:au)(p:Int):ao Tryz.prog 100 false [.val (some 3) (au.enc .imm s),.ptr [I p]] .one [B (jq p s)]:=by
 refine fO 8 [] Tryz.func100 rfl ?_
 repeat'(first|refine gO ?_|fail)
 exact U0 (λz=>[B z]) ((by unfold jq;rw[I4];simp))
theorem tl(h:ab)(p:Int)(b:h.Spans.length<=1048576):ao Tryz.prog 27 false [.val (some 24) (ab.enc .imm h),.val none [I p]] .one [I (fV h p)]:=by
 refine fO 9 [] Tryz.func27 rfl ?_
 repeat'(first|refine gO ?_|(conv=>whnf);first|refine Cq.mk (yR (some 3) (au.enc .imm) (jq p) h.Spans) (yN default p).has (λL k rcs a=>?_) ?_|refine C7 (vI h.Spans (jq p) ω) ?_)
 ·obtain⟨y,-,rfl,rfl,rfl⟩:=a
  exact yN y p
 ·rfl
def flight1(m:aI)(i:Nat):List Int:=(m.Buffers.take i).flatMap λl=>l.map (·.Addr)
def flight2(m:aI)(i:Nat):List Int:=(m.Inbox.take i).flatten
theorem me{m:aI}{i:Nat}{l:List cZ}(h:m.Buffers[i]? = some l):flight1 m (i+1)=flight1 m i++l.map (·.Addr):=by
 unfold flight1;rw[Z4,h,List.flatMap_append];simp
theorem lU{m:aI}{i:Nat}{l:List Int}(h:m.Inbox[i]? = some l):flight2 m (i+1)=flight2 m i++l:=by
 unfold flight2;rw[Z4,h,List.flatten_append];simp
theorem nH{m:aI}(h:bI m=true):aN m=flight1 m m.Buffers.length++flight2 m m.Inbox.length:=by
 unfold aN flight1 flight2;rw[C9 h,V4,V4]
theorem tE{m:aI}(h:bI m=false):aN m=[]:=by
 unfold aN;rw[h];rfl
theorem mr{m:aI}(h:bI m=true):1<=m.Buffers.length/\m.Buffers.length<=4/\m.Inbox.length=m.Buffers.length:=by
 unfold bI at h;simp only[I0,C0]at h;exact h.1.1
theorem D2{l:List Int} : ∀r∈l.map (rI .imm),r.length=1:=by
 intro r a;obtain⟨z,-,rfl⟩:=Z3.1 a;rfl
theorem GJ{l:List Int} : ∀r∈l.map (rI .imm),aV r=true:=by
 intro r a;obtain⟨z,-,rfl⟩:=Z3.1 a;rfl
theorem yh(m:aI)(j:aI.sml m):ao Tryz.prog 277 false [.val (some 2) (aI.enc .imm m)] .one (aD .own (aN m)):=by
 have l:=kN m j;cases e:bI m<;>rw[e]at l
 ·refine fO 56 [] Tryz.func277 rfl ?_ (.inr (bG _))
  repeat'((conv=>whnf);first|with_reducible (first|refine Lm ?_|refine Wm ω ?_|refine Bn ?_|refine jn.wk rfl ?_)|refine Bt ?_|refine Bu ?_|refine C7 l ?_)
  all_goals(rw[tE e];exact⟨rfl,trivial⟩)
 ·obtain⟨D,E,F⟩:=mr e
  refine fO 56 [] Tryz.func277 rfl ?_ (.inr (bG _))
  repeat'(first|refine gO ?_|(conv=>whnf);first|refine C7 l ?_)
  (conv=>whnf)
  refine CE (ι:=Nat × List Int) (λi=>[(1,.hold .box (aI.enc .imm m)),(3,.hold .one (aD .own i.2)),(4,.hold .one [I ((i.1:Nat):Int)])]) (λi=>i.1<=m.Buffers.length/\i.2=flight1 m i.1/\i.2.length<=1048576*i.1) (λi=>m.Buffers.length - i.1) ((0,[])) ?_ (⟨T0 _,rfl,T0 _⟩) λi n=>?_
  ·exact wB
  obtain⟨i,S⟩:=i;obtain⟨n,o,t⟩:=n;simp only at n o t |-;by_cases q:i<m.Buffers.length
  ·have g:=ah q
   have u:(nth m.Buffers i).length<=1048576:=(j.1.2 _ (am q)).1
   repeat'(first|refine gD ?_|(conv=>whnf);first|with_reducible refine CB (aa g) ?_)
   (conv=>whnf)
   refine CE (ι:=Nat × List Int) (λk=>[(1,.hold .box (aI.enc .imm m)),(3,.hold .one (aD .own k.2)),(4,.hold .one [I ((i:Nat):Int)]),(5,.hold .one [I ((k.1:Nat):Int)])]) (λk=>k.1<=(nth m.Buffers i).length/\k.2=S++((nth m.Buffers i).take k.1).map (·.Addr)) (λk=>(nth m.Buffers i).length - k.1) ((0,S)) ?_ (⟨T0 _,by simp⟩) λk b=>?_
   ·exact wB
   obtain⟨k,c⟩:=k;obtain⟨b,a⟩:=b;simp only at b a |-;have w:c.length=S.length+k:=by rw[a,v3,X0,O1];omega
   by_cases h:k<(nth m.Buffers i).length
   ·have d:=ah h
    repeat'(first|refine gD ?_|(conv=>whnf);first|with_reducible (first|refine CB (aa g) ?_|refine CB (aa d) ?_)|refine CP bV (λr y=>by rw[C1.1 y];rfl) (by simp[aV,dz]) (by simp;omega) (by show _*8<=_;simp;omega) rfl ?_)
    ((conv=>whnf)
     refine CC (k+1,c++[(nth (nth m.Buffers i) k).Addr]) ⟨(by simp only;omega),(by simp only;rw[a,Z4,d,v5,t5];simp)⟩ (by simp only;omega) ?_
     (repeat'(first|exact trivial|rfl|exact CI rfl (CI (U0 (C.s du.own) (by simp[rI])) trivial)|refine CI ?_ ?_)))
   ·obtain rfl:k=(nth m.Buffers i).length:=ω
    rw[V4]at a
    repeat'(first|refine gD ?_|(conv=>whnf);first|with_reducible refine CB (aa g) ?_)
    ((conv=>whnf);refine CC (i+1,c) ⟨(by simp only;omega),(by simp only;rw[me g,<-o,a]),(by simp only;omega)⟩ (by simp only;omega) ?_;(exact wB))
  ·obtain rfl:i=m.Buffers.length:=ω
   repeat'(first|refine gD ?_|fail)
   (conv=>whnf)
   refine CE (ι:=Nat × List Int) (λk=>[(1,.hold .box (aI.enc .imm m)),(3,.hold .one (aD .own k.2)),(6,.hold .one [I ((k.1:Nat):Int)])]) (λk=>k.1<=m.Inbox.length/\k.2=S++flight2 m k.1/\k.2.length<=S.length+1048576*k.1) (λk=>m.Inbox.length - k.1) ((0,S)) ?_ (⟨T0 _,by simp[flight2],by simp⟩) λk b=>?_
   ·exact wB
   obtain⟨k,c⟩:=k;obtain⟨b,a,p⟩:=b;simp only at b a p |-;by_cases h:k<m.Inbox.length
   ·have d:=ah h
    have B:(nth m.Inbox k).length<=1048576:=j.2.2 _ (am h)
    repeat'(first|refine gD ?_|(conv=>whnf);first|with_reducible refine CB (aa d) ?_|refine CP bV D2 (λ_=>GJ) (by simp;omega) (by show _*8<=_;simp;omega) rfl ?_)
    ((conv=>whnf)
     refine CC (k+1,c++nth m.Inbox k) ⟨(by simp only;omega),(by simp only;rw[lU d,a,t5]),(by simp only;rw[v3];omega)⟩ (by simp only;omega) ?_
     (repeat'(first|exact trivial|rfl|exact CI rfl (CI (U0 (C.s du.own) (by simp[rI])) trivial)|refine CI ?_ ?_)))
   ·obtain rfl:k=m.Inbox.length:=ω
    repeat'(first|refine gD ?_|fail)
    rw[nH e,<-o,<-a];rfl
theorem xZ(m:aI)(h:aI.sml m):ao Tryz.prog 78 false [.val (some 2) (aI.enc .imm m)] .one (aD .own (aN m)):=by
 have j:=t6 m h;cases e:bI m<;>rw[e]at j
 ·refine fO 46 [] Tryz.func78 rfl ?_ (.inr (bG _))
  repeat'((conv=>whnf);first|with_reducible (first|refine Lm ?_|refine Wm ω ?_|refine Bn ?_|refine jn.wk rfl ?_)|refine Bt ?_|refine Bu ?_|refine C7 j ?_)
  all_goals(rw[tE e];exact⟨rfl,trivial⟩)
 ·obtain⟨D,E,F⟩:=mr e
  refine fO 46 [] Tryz.func78 rfl ?_ (.inr (bG _))
  repeat'(first|refine gO ?_|(conv=>whnf);first|refine C7 j ?_)
  (conv=>whnf)
  refine CE (ι:=Nat × List Int) (λi=>[(1,.hold .box (aI.enc .imm m)),(3,.hold .one (aD .own i.2)),(15,.hold .one (xj .imm m.Buffers)),(16,.hold .one [I (m.Buffers.length)]),(17,.hold .one [I ((i.1:Nat):Int)])]) (λi=>i.1<=m.Buffers.length/\i.2=flight1 m i.1/\i.2.length<=1048576*i.1) (λi=>m.Buffers.length - i.1) ((0,[])) ?_ (⟨T0 _,rfl,T0 _⟩) λi l=>?_
  ·exact wB
  obtain⟨i,S⟩:=i;obtain⟨l,n,t⟩:=l;simp only at l n t |-;by_cases p:i<m.Buffers.length
  ·have q:=ah p
   have u:(nth m.Buffers i).length<=1048576:=(h.1.2 _ (am p)).1
   repeat'(first|refine gD ?_|(conv=>whnf);first|with_reducible refine CB (aa q) ?_)
   (conv=>whnf)
   refine CE (ι:=Nat × List Int) (λk=>[(1,.hold .box (aI.enc .imm m)),(3,.hold .one (aD .own k.2)),(15,.hold .one (xj .imm m.Buffers)),(16,.hold .one [I (m.Buffers.length)]),(17,.hold .one [I ((i:Nat):Int)]),(21,.hold .one (cz .imm (nth m.Buffers i))),(22,.hold .one [I ((nth m.Buffers i).length)]),(23,.hold .one [I ((k.1:Nat):Int)])]) (λk=>k.1<=(nth m.Buffers i).length/\k.2=S++((nth m.Buffers i).take k.1).map (·.Addr)) (λk=>(nth m.Buffers i).length - k.1) ((0,S)) ?_ (⟨T0 _,by simp⟩) λk b=>?_
   ·exact wB
   obtain⟨k,c⟩:=k;obtain⟨b,a⟩:=b;simp only at b a |-;have w:c.length=S.length+k:=by rw[a,v3,X0,O1];omega
   by_cases g:k<(nth m.Buffers i).length
   ·have d:=ah g
    repeat'(first|refine gD ?_|(conv=>whnf);first|with_reducible refine CB (aa d) ?_|refine CP bV (λr y=>by rw[C1.1 y];rfl) (by simp[aV,dz]) (by simp;omega) (by show _*8<=_;simp;omega) rfl ?_)
    ((conv=>whnf)
     refine CC (k+1,c++[(nth (nth m.Buffers i) k).Addr]) ⟨(by simp only;omega),(by simp only;rw[a,Z4,d,v5,t5];simp)⟩ (by simp only;omega) ?_
     (repeat'(first|exact trivial|rfl|exact CI rfl (CI (U0 (C.s du.own) (by simp[rI])) trivial)|refine CI ?_ ?_)))
   ·obtain rfl:k=(nth m.Buffers i).length:=ω
    rw[V4]at a
    repeat'(first|refine gD ?_|fail)
    ((conv=>whnf);refine CC (i+1,c) ⟨(by simp only;omega),(by simp only;rw[me q,<-n,a]),(by simp only;omega)⟩ (by simp only;omega) ?_;(exact wB))
  ·obtain rfl:i=m.Buffers.length:=ω
   repeat'(first|refine gD ?_|fail)
   (conv=>whnf)
   refine CE (ι:=Nat × List Int) (λk=>[(3,.hold .one (aD .own k.2)),(35,.hold .one (iR .imm m.Inbox)),(36,.hold .one [I (m.Inbox.length)]),(37,.hold .one [I ((k.1:Nat):Int)])]) (λk=>k.1<=m.Inbox.length/\k.2=S++flight2 m k.1/\k.2.length<=S.length+1048576*k.1) (λk=>m.Inbox.length - k.1) ((0,S)) ?_ (⟨T0 _,by simp[flight2],by simp⟩) λk b=>?_
   ·exact wB
   obtain⟨k,c⟩:=k;obtain⟨b,a,o⟩:=b;simp only at b a o |-;by_cases g:k<m.Inbox.length
   ·have d:=ah g
    have B:(nth m.Inbox k).length<=1048576:=h.2.2 _ (am g)
    repeat'(first|refine gD ?_|(conv=>whnf);first|with_reducible refine CB (aa d) ?_|refine CP bV D2 (λ_=>GJ) (by simp;omega) (by show _*8<=_;simp;omega) rfl ?_)
    ((conv=>whnf)
     refine CC (k+1,c++nth m.Inbox k) ⟨(by simp only;omega),(by simp only;rw[lU d,a,t5]),(by simp only;rw[v3];omega)⟩ (by simp only;omega) ?_
     (repeat'(first|exact trivial|rfl|exact CI rfl (CI (U0 (C.s du.own) (by simp[rI])) trivial)|refine CI ?_ ?_)))
   ·obtain rfl:k=m.Inbox.length:=ω
    repeat'(first|refine gD ?_|fail)
    rw[nH e,<-n,<-a];rfl
def tbl(h:ab):aG:=h.Kernel.Machine.Table
def dQ(h:ab):Nat:=h.Kernel.Machine.Table.Entries.length
def vX(xs:List au)(i:Nat):Bool:=decide (i=0\/(nth xs (i - 1)).Page<(nth xs i).Page)
def xh(xs:List ax)(i:Nat):Bool:=decide (i=0\/(nth xs (i - 1)).Page<(nth xs i).Page)
def vJ(h:ab)(l:ax)(k:Nat):Bool:=decide ((aT h (l.Page+(k:Nat))).length=1)
def qr(h:ab)(i:Nat):Bool:=xh h.Larges i&&cK (nth h.Larges i).Pages.toNat (vJ h (nth h.Larges i))
def ue(h:ab)(p:Nat):Bool:=decide ((nth (tbl h).Entries p).Mode≠0↔(p:Int)∈pgs h.Spans h.Larges)&&(decide ((nth (tbl h).Entries p).Mode≠0) != h.Free.any (pI (p:Nat)))
def pages0(h:ab):Bool:=((cK h.Spans.length (vX h.Spans)&&cK h.Larges.length (qr h))&&(pgs h.Spans h.Larges).all λp=>decide (p<dQ h))&&cK (dQ h) (ue h)
def lc(h:ab)(i:Nat)(q:Int):Bool:=decide (fV h q=(i:Nat)) || (decide (0<=fV h q)&&meshable (nth h.Spans i) (nth h.Spans (fV h q).toNat))
def tO(h:ab):Bool:=cK h.Spans.length λi=>(aT h (nth h.Spans i).Page).all (lc h i)
def kw(h:ab)(i j:Nat):Bool:=decide ((ar (tbl h) (nth h.Spans i).Page).Frame≠(ar (tbl h) (nth h.Spans j).Page).Frame) || meshable (nth h.Spans i) (nth h.Spans j)
def mW(h:ab):Bool:=cK h.Spans.length λi=>cK i (kw h i)
def jW(z:Int)(o:bm):Bool:=decide (o.Id=z)
def jK(h:ab)(o:bm):Bool:=
 let w:=denotes h.Spans h.Larges o.Addr
 decide (w.Offset=0)&&((decide (w.Kind=1)&&decide ((nth h.Spans w.Index.toNat).Class=aM o.Size)) || (decide (w.Kind=3)&&decide ((nth h.Larges w.Index.toNat).Size=o.Size)))
def gL(a:Int)(h:ab)(i:Nat):Bool:=decide ((i=0\/(nth h.Objs (i - 1)).Addr<(nth h.Objs i).Addr)/\1<=(nth h.Objs i).Id/\(nth h.Objs i).Id<=a/\0<=(nth h.Objs i).Thread/\(nth h.Objs i).Thread<=h.Caches.length - 1)
def objAt(a:Int)(h:ab)(i:Nat):Bool:=(gL a h i&&!(h.Objs.take i).any (jW (nth h.Objs i).Id))&&jK h (nth h.Objs i)
def fm(h:ab):Bool:=cK h.Objs.length (objAt (IntKind.i64.wrap (h.Next - 1)) h)
def db(h:ab)(a c:Int):Bool:=
 let w:=denotes h.Spans h.Larges a
 (decide (w.Kind=1)&&decide (w.Offset=0))&&(decide (c<0) || decide ((nth h.Spans w.Index.toNat).Class=c))
def qQ(h:ab)(c:aA)(k:Nat):Bool:=(nth c.Lists k).all λa=>db h a (k:Nat)
def en(h:ab)(c:aA):Bool:=cK c.Lists.length (qQ h c)
def gC(h:ab)(x:aL):Bool:=db h x.Addr x.Class
def jw(h:ab)(a:Int):Bool:=db h a (-1)
def cq(h:ab):List Int:=h.Caches.flatMap λc=>c.Lists.flatten
def gM(h:ab):Bool:=((h.Caches.all (en h))&&h.Quar.Lst.all (gC h))&&(aN h.Mail).all (jw h)
def holders(h:ab):List Int:=((h.Objs.map (·.Addr)++cq h)++h.Quar.Lst.map (·.Addr))++aN h.Mail
def jr(sp:List au)(la:List ax)(a:Nat):Bool:=
 let w:=denotes sp la (a:Nat)
 decide (w.Offset=0)&&(decide (w.Kind=1) || decide (w.Kind=3))
def kP(sp:List au)(la:List ax)(n:Nat):List Int:=((List.range n).filter (jr sp la)).map λ(i:Nat)=>(i:Int)
def im(sp:List au)(la:List ax):List Int:=kP sp la 512
def iB(h:ab):Bool:=(gM h&&decide (holders h).Nodup)&&decide ((holders h).length=(im h.Spans h.Larges).length)
def jH(h:ab):Bool:=h.Quar.Lst.all λx=>decide (x.Since<=h.Clock)
def cg(h:ab):Bool:=decide (0<=h.Seed/\h.Seed<=1073741823/\0<=h.Clock/\h.Clock<=1000000/\0<=h.Limit/\h.Limit<=1000/\1<=h.Next/\h.Next<=1000000)
def pu(h:ab):Bool:=if h.Meshing then(ja h.Job&&decide (0<=fV h h.Job.Plan.Keep))&&decide (0<=fV h h.Job.Plan.Move) else qA h.Job
def lb(h:ab):Bool:=((aB h.Kernel&&bw (dQ h) h.Free)&&bj h.Spans h.Larges)&&pages0 h
end Go.Proofs.YtembpgjjnioagaaGreat.Ab
